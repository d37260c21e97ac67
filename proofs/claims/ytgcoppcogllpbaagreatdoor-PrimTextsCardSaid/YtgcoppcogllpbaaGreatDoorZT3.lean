/- Lemmas for RPT: functions of the program as predicate transformers, and their contracts. -/
import Derived.Test.YtgcoppcogllpbaaGreatDoorZT2
import Derived.Test.YtgcoppcogllpbaaGreatDoorProg
import Derived.Shelf.Strconv.Itoa3
import Derived.Shelf.Strings.Repeat
import Derived.Ground.NamesProg
import Derived.Calls
set_option linter.all false
set_option maxRecDepth 100000
set_option maxHeartbeats 4000000
namespace Go.Proofs.YtgcoppcogllpbaaGreatDoor
open Kw
variable {Q:QT}{H:ae}
abbrev yd:Nat:=27
def Er (p1:Option Addr) (Q:QT) (H:ae):Prop :=
 cond (Option.isNone p1) (Q (pV none) H) (∃ q2,p1=some q2∧∃ p3,aa H q2=some (pV p3)∧Q (pV p3) H)
theorem yJ {p1:Option Addr} (h:Er p1 Q H):ac PP 27 #[.pointer p1] Q H :=
 okF Tryz.func27 rfl h
abbrev Bk:Nat:=40
def EB (n1:Int) (n2:Int) (Q:QT) (H:ae):Prop :=
 ac PP 88 #[iV n1,iV n2] (fun v3 H1=>∃ p4 n5,v3=.tuple #[pV p4,iV n5]∧cond (n5 != 0) (Q (.tuple #[pV none,iV n5]) H1) (cS 89 #[iV 4096] (fun v6 H2=>∃ p7 n8,v6=.tuple #[pV p7,iV n8]∧cond (n8 != 0) (Q (.tuple #[pV none,iV n8]) H2) (cS 90 #[] (fun v9 H3=>∃ a10 l10 c10,v9=lV a10 l10 c10∧∃(I11:IT) (μ11:MT),I11 [lV (some (⟨(H2.push (.cells #[pV p4,pV p7] 84)).size,0,none⟩:Addr)) 3 3,iV 0] H3∧∀ w12 H4,I11 w12 H4->∀ _g:Nat->Value,∃ a13 l13 c13 n14,w12=[lV a13 l13 c13,iV n14]∧cond (decide (n14<(l10:Int))) (aI PP (Builtin.append_ #[135,135] 135 #[lV a13 l13 c13,lV (some (A0 H4.size)) 1 1]) (fun v15 H5=>∃ a16 l16 c16,v15=lV a16 l16 c16∧I11 [lV a16 l16 c16,iV (wW (n14+1))] H5∧μ11 [lV a16 l16 c16,iV (wW (n14+1))] H5<μ11 w12 H4) (H4.push (.cells #[iV 12,iV 7] 134))) (aI PP (Builtin.append_ #[135,135] 135 #[lV a13 l13 c13,lV (some (A0 H4.size)) 3 3]) (fun v17 H6=>∃ a18 l18 c18,v17=lV a18 l18 c18∧∃(I19:IT) (μ19:MT),I19 [iV 0] H6∧∀ w20 H7,I19 w20 H7->∀ _g:Nat->Value,∃ n21,w20=[iV n21]∧cond (decide (n21<(l18:Int))) (((0:Int)<=n21∧n21<(l18:Int))∧∃ q22,a18=some q22∧∃ n23:Int,shH (aB (H7.push (.cells #[iV 0,iV 0] 134)) (A0 H7.size) (iV n23)) fun C2=>aa H7 (q22.add (Int.toNat n21*2))=some (iV n23)∧∃ n24:Int,shH (aB C2 ((A0 H7.size).add 1) (iV n24)) fun C1=>aa H7 ((q22.add (Int.toNat n21*2)).add 1)=some (iV n24)∧Wr (H7.push (.cells #[iV 0,iV 0] 134)) (A0 H7.size)∧Wr C2 ((A0 H7.size).add 1)∧∃ n25,aa C1 (A0 H7.size)=some (iV n25)∧∃ n26,aa C1 ((A0 H7.size).add 1)=some (iV n26)∧cS 63 #[pV p4] (fun v27 H8=>∃ p28,v27=pV p28∧((aa H8 ((A0 H7.size).add 1)=some (iV n26)∧True)∧((aa H8 (A0 H7.size)=some (iV n25)∧True)∧True))∧cS 92 #[iV n25] (fun v29 H9=>∃ n30,v29=iV n30∧((aa H9 ((A0 H7.size).add 1)=some (iV n26)∧True)∧True)∧cS 91 #[pV p28,iV n30,iV n26,iV 0] (fun v31 H10=>∃ n32 n33,v31=.tuple #[iV n32,iV n33]∧True∧cond (n33 != 0) (Q (.tuple #[pV none,iV n33]) H10) (cS 92 #[iV n32] (fun v34 H11=>∃ n35,v34=iV n35∧cS 93 #[pV p4,lV (some (A0 H11.size)) 1 1] (fun v36 H12=>∃ n37,v36=iV n37∧cond (n37 != 0) (Q (.tuple #[pV none,iV n37]) H12) (I19 [iV (wW (n21+1))] H12∧μ19 [iV (wW (n21+1))] H12<μ19 w20 H7)) (H11.push (.cells #[iV n35] 24))) H10)) H9) H8) C1) (cS 94 #[pV (some (A0 H2.size))] (fun v38 H13=>v38=.tuple #[]∧cS 95 #[pV p4,iV 19] (fun v39 H14=>∃ n40,v39=iV n40∧cS 28 #[pV p4,iV (l18:Int)] (fun v41 H15=>∃ n42,v41=iV n42∧Q (.tuple #[pV (some (A0 H2.size)),iV 0]) H15) H14) H13) H7)) (H4.push (.cells #[iV 11,iV 0,iV 11,iV 8,iV 11,iV 14] 134)))) ((H2.push (.cells #[pV p4,pV p7] 84)).push (.cells #[iV 5,iV 0,iV 6,iV 0,iV 7,iV 0] 134)))) H1)) H
theorem yM {n1:Int}{n2:Int} (h:EB n1 n2 Q H):ac PP 40 #[.int .i64 n1,.int .i64 n2] Q H :=
 aT good Tryz.func40 rfl (Ls:=fun | 10=>some [(10,135),(41,3)] | 15=>some [(56,3)] | _=>none) (by kernel_rfl) h
abbrev B9:Nat:=41
def ED (p1:Option Addr) (s2:ByteArray) (s3:ByteArray) (a4:Option Addr) (l4:Nat) (c4:Nat) (Q:QT) (H:ae):Prop :=
 ac PP 96 #[pV p1] (fun v5 H1=>∃ b6,v5=.bool b6∧cond (!b6) (Q (.tuple #[iV 0,iV 2]) H1) (cS 97 #[pV p1,sV s2,sV s3,lV a4 l4 c4] (fun v7 H2=>∃ n8 n9,v7=.tuple #[iV n8,iV n9]∧cond (n9 != 0) (Q (.tuple #[iV 0,iV n9]) H2) (cS 98 #[pV p1] (fun v10 H3=>∃ p11,v10=pV p11∧cS 99 #[pV p11,sV s2,iV n8,lV a4 l4 c4] (fun v12 H4=>∃ n13 n14,v12=.tuple #[iV n13,iV n14]∧cS 100 #[pV p11,iV n14] (fun v15 H5=>∃ n16,v15=iV n16∧cond (n16 != 0) (Q (.tuple #[iV 0,iV n16]) H5) (Q (.tuple #[iV n13,iV 0]) H5)) H4) H3) H2)) H1)) H
theorem zM {p1:Option Addr}{s2:ByteArray}{s3:ByteArray}{a4:Option Addr}{l4:Nat}{c4:Nat} (h:ED p1 s2 s3 a4 l4 c4 Q H):ac PP 41 #[.pointer p1,.string s2,.string s3,.slice a4 l4 c4] Q H :=
 okF Tryz.func41 rfl h
abbrev Dk:Nat:=52
def Eh (p1:Option Addr) (Q:QT) (H:ae):Prop :=
 cond (Option.isNone p1) (Q (pV none) H) (∃ q2,p1=some q2∧∃ p3,aa H (q2.add 1)=some (pV p3)∧Q (pV p3) H)
theorem uv {p1:Option Addr} (h:Eh p1 Q H):ac PP 52 #[.pointer p1] Q H :=
 okF Tryz.func52 rfl h
abbrev Dn:Nat:=94
def Es (p1:Option Addr) (Q:QT) (H:ae):Prop :=
 ∃ q2,p1=some q2∧∃ p3,aa H q2=some (pV p3)∧cS 63 #[pV p3] (fun v4 H1=>∃ p5,v4=pV p5∧cS 90 #[] (fun v6 H2=>∃ a7 l7 c7,v6=lV a7 l7 c7∧∃(I8:IT) (μ8:MT),I8 [iV 0] H2∧∀ w9 H3,I8 w9 H3->∀ _g:Nat->Value,∃ n10,w9=[iV n10]∧cond (decide (n10<(l7:Int))) (((0:Int)<=n10∧n10<(l7:Int))∧∃ q11,a7=some q11∧∃ s12,aa H3 (q11.add (Int.toNat n10*1))=some (sV s12)∧∃ q13,p1=some q13∧∃ p14,aa H3 (q13.add 1)=some (pV p14)∧cS 165 #[pV p14,sV s12] (fun v15 H4=>∃ n16 n17,v15=.tuple #[iV n16,iV n17]∧cS 166 #[iV n16] (fun v18 H5=>∃ n19 n20,v18=.tuple #[iV n19,iV n20]∧cS 92 #[iV 4] (fun v21 H6=>∃ n22,v21=iV n22∧∃ J23:IT,(cond (n10 == 0) (cS 92 #[iV 1] (fun v24 H7=>∃ n25,v24=iV n25∧J23 [iV n25] H7) H6) (J23 [iV n22] H6))∧∀ w26 H8,J23 w26 H8->∀ _g:Nat->Value,∃ n27,w26=[iV n27]∧cS 92 #[iV 18] (fun v28 H9=>∃ n29,v28=iV n29∧cS 92 #[iV 18] (fun v30 H10=>∃ n31,v30=iV n31∧cS 92 #[iV 18] (fun v32 H11=>∃ n33,v32=iV n33∧cS 167 #[iV 0] (fun v34 H12=>∃ n35,v34=iV n35∧cS 167 #[iV (wW (n10+1))] (fun v36 H13=>∃ n37,v36=iV n37∧∃(I38:IT) (μ38:MT),I38 [iV 0] (H13.push (.cells #[iV n19,iV n27,iV n29,iV n31,iV n33,iV n35,iV n37] 24))∧∀ w39 H14,I38 w39 H14->∀ _g:Nat->Value,∃ n40,w39=[iV n40]∧cond (decide (n40<(7:Int))) (((0:Int)<=n40∧n40<(7:Int))∧∃ q41,(some (A0 H13.size))=some q41∧∃ n42,aa H14 (q41.add (Int.toNat n40*1))=some (iV n42)∧cS 168 #[pV p5,iV (wW (4+n10)),iV n40,iV n42] (fun v43 H15=>∃ n44,v43=iV n44∧I38 [iV (wW (n40+1))] H15∧μ38 [iV (wW (n40+1))] H15<μ38 w39 H14) H14) (cS 92 #[iV (wW (4+n10))] (fun v45 H16=>∃ n46,v45=iV n46∧cS 168 #[pV p5,iV 20,iV n10,iV n46] (fun v47 H17=>∃ n48,v47=iV n48∧I8 [iV (wW (n10+1))] H17∧μ8 [iV (wW (n10+1))] H17<μ8 w9 H3) H16) H14)) H12) H11) H10) H9) H8) H5) H4) H3) (∃(I49:IT) (μ49:MT),I49 [iV 0] (H3.push (.cells #[iV 20,iV 18,iV 18,iV 18,iV 1,iV 2,iV 3] 3))∧∀ w50 H18,I49 w50 H18->∀ _g:Nat->Value,∃ n51,w50=[iV n51]∧cond (decide (n51<(7:Int))) (((0:Int)<=n51∧n51<(7:Int))∧∃ q52,(some (A0 H3.size))=some q52∧∃ n53,aa H18 (q52.add (Int.toNat n51*1))=some (iV n53)∧cS 92 #[iV n53] (fun v54 H19=>∃ n55,v54=iV n55∧cS 168 #[pV p5,iV 19,iV n51,iV n55] (fun v56 H20=>∃ n57,v56=iV n57∧I49 [iV (wW (n51+1))] H20∧μ49 [iV (wW (n51+1))] H20<μ49 w50 H18) H19) H18) (Q (.tuple #[]) H18))) H1) H
theorem yg {p1:Option Addr} (h:Es p1 Q H):ac PP 94 #[.pointer p1] Q H :=
 aT good Tryz.func94 rfl (Ls:=fun | 2=>some [(21,3)] | 1009=>some [(9,24)] | 10=>some [(55,3)] | 17=>some [(76,3)] | _=>none) (by kernel_rfl) h
abbrev Bx:Nat:=96
def EF (p1:Option Addr) (Q:QT) (H:ae):Prop :=
 cond (!(Option.isNone p1)) (∃ q2,p1=some q2∧∃ p3,aa H q2=some (pV p3)∧Q (.bool (!(Option.isNone p3))) H) (Q (.bool false) H)
theorem y7 {p1:Option Addr} (h:EF p1 Q H):ac PP 96 #[.pointer p1] Q H :=
 okF Tryz.func96 rfl h
abbrev Ct:Nat:=97
def EH (p1:Option Addr) (s2:ByteArray) (s3:ByteArray) (a4:Option Addr) (l4:Nat) (c4:Nat) (Q:QT) (H:ae):Prop :=
 ac PP 169 #[sV s2,.int .u8 65,.int .u8 90] (fun v5 H1=>∃ b6,v5=.bool b6∧cond (!b6) (Q (.tuple #[iV 0,iV 133]) H1) (cS 170 #[pV p1,sV s2] (fun v7 H2=>∃ b8,v7=.bool b8∧cond b8 (Q (.tuple #[iV 0,iV 131]) H2) (cS 171 #[pV p1,sV s3] (fun v9 H3=>shH (aB (H3.push (.cells #[pV none] 217)) (A0 H3.size) (pV p1)) fun C1=>∃ n10 n11,v9=.tuple #[iV n10,iV n11]∧cond (n11 != 0) (Q (.tuple #[iV 0,iV n11]) H3) (Wr (H3.push (.cells #[pV none] 217)) (A0 H3.size)∧∃ J12:IT,(∃ p13,aa C1 (A0 H3.size)=some (pV p13)∧cS 172 #[.agg #[pV p13],iV n10,iV 6] (fun v14 H4=>∃ n15,v14=iV n15∧cond (decide (n15 > 1)) (cond (decide (n15<=14)) (Q (.tuple #[iV 0,iV 132]) H4) (J12 [] H4)) (J12 [] H4)) C1)∧∀ w16 H5,J12 w16 H5->∀ _g:Nat->Value,w16=[]∧∃ p17,aa H5 (A0 H3.size)=some (pV p17)∧cS 173 #[.agg #[pV p17],iV n10] (fun v18 H6=>∃ a19 l19 c19,v18=lV a19 l19 c19∧∃(I20:IT) (μ20:MT),I20 [iV 0] H6∧∀ w21 H7,I20 w21 H7->∀ _g:Nat->Value,∃ n22,w21=[iV n22]∧cond (decide (n22<(l4:Int))) (((0:Int)<=n22∧n22<(l4:Int))∧∃ q23,a4=some q23∧∃ s24,aa H7 (q23.add (Int.toNat n22*1))=some (sV s24)∧cS 174 #[sV s24] (fun v25 H8=>∃ b26,v25=.bool b26∧cond (!b26) (Q (.tuple #[iV 0,iV 133]) H8) (((0:Int)<=n22∧n22<=(c4:Int))∧cS 175 #[lV a4 (Int.toNat n22) c4,sV s24] (fun v27 H9=>∃ b28,v27=.bool b28∧cond b28 (Q (.tuple #[iV 0,iV 134]) H9) (cS 175 #[lV a19 l19 c19,sV s24] (fun v29 H10=>∃ b30,v29=.bool b30∧cond b30 (Q (.tuple #[iV 0,iV 135]) H10) (I20 [iV (wW (n22+1))] H10∧μ20 [iV (wW (n22+1))] H10<μ20 w21 H7)) H9)) H8)) H7) (cond (decide ((wW ((l19:Int)+(l4:Int))) > 32)) (Q (.tuple #[iV 0,iV 137]) H7) (cS 176 #[pV p1] (fun v31 H11=>∃ n32,v31=iV n32∧cond (decide (n32 ≥ 256)) (Q (.tuple #[iV 0,iV 138]) H11) (Q (.tuple #[iV n10,iV 0]) H11)) H7))) H5)) H2)) H1)) H
theorem Ab {p1:Option Addr}{s2:ByteArray}{s3:ByteArray}{a4:Option Addr}{l4:Nat}{c4:Nat} (h:EH p1 s2 s3 a4 l4 c4 Q H):ac PP 97 #[.pointer p1,.string s2,.string s3,.slice a4 l4 c4] Q H :=
 aT good Tryz.func97 rfl (Ls:=fun | 1012=>some [] | 14=>some [(48,3)] | _=>none) (by kernel_rfl) h
abbrev CB:Nat:=98
def EU (p1:Option Addr) (Q:QT) (H:ae):Prop :=
 ∃ q2,p1=some q2∧∃ p3,aa H (q2.add 1)=some (pV p3)∧∃ q4,p1=some q4∧∃ p5,aa H q4=some (pV p5)∧∃ q6,p1=some q6∧∃ p7,aa H q6=some (pV p7)∧cS 53 #[pV p3] (fun v8 H1=>∃ n9,v8=iV n9∧((aa H1 q6=some (pV p7)∧True)∧((aa H1 q4=some (pV p5)∧True)∧True))∧cS 63 #[pV p5] (fun v10 H2=>∃ p11,v10=pV p11∧((aa H2 q6=some (pV p7)∧True)∧True)∧cS 79 #[pV p11] (fun v12 H3=>∃ n13,v12=iV n13∧((aa H3 q6=some (pV p7)∧True)∧True)∧cS 82 #[pV p7] (fun v14 H4=>∃ a15 l15 c15,v14=lV a15 l15 c15∧True∧True∧Q (pV (some (A0 H4.size))) (H4.push (.cells #[pV p1,iV n9,iV n13,iV (l15:Int)] 221))) H3) H2) H1) H
theorem yp {p1:Option Addr} (h:EU p1 Q H):ac PP 98 #[.pointer p1] Q H :=
 okF Tryz.func98 rfl h
abbrev DH:Nat:=99
def Ew (p1:Option Addr) (s2:ByteArray) (n3:Int) (a4:Option Addr) (l4:Nat) (_c4:Nat) (Q:QT) (H:ae):Prop :=
 ac PP 177 #[pV p1,sV s2] (fun v5 H1=>∃ n6 n7,v5=.tuple #[iV n6,iV n7]∧cond (n7 != 0) (Q (.tuple #[iV 0,iV n7]) H1) (∃(I8:IT) (μ8:MT),I8 [lV none 0 0,iV 0] H1∧∀ w9 H2,I8 w9 H2->∀ _g:Nat->Value,∃ a10 l10 c10 n11,w9=[lV a10 l10 c10,iV n11]∧cond (decide (n11<(l4:Int))) (((0:Int)<=n11∧n11<(l4:Int))∧∃ q12,a4=some q12∧∃ s13,aa H2 (q12.add (Int.toNat n11*1))=some (sV s13)∧cS 177 #[pV p1,sV s13] (fun v14 H3=>∃ n15 n16,v14=.tuple #[iV n15,iV n16]∧cond (n16 != 0) (Q (.tuple #[iV 0,iV n16]) H3) (aI PP (Builtin.append_ #[30,30] 30 #[lV a10 l10 c10,lV (some (A0 H3.size)) 1 1]) (fun v17 H4=>∃ a18 l18 c18,v17=lV a18 l18 c18∧I8 [lV a18 l18 c18,iV (wW (n11+1))] H4∧μ8 [lV a18 l18 c18,iV (wW (n11+1))] H4<μ8 w9 H2) (H3.push (.cells #[iV n15] 24)))) H2) (cS 178 #[pV p1,lV a10 l10 c10] (fun v19 H5=>∃ n20 n21,v19=.tuple #[iV n20,iV n21]∧cond (n21 != 0) (Q (.tuple #[iV 0,iV n21]) H5) (∃ q22,p1=some q22∧∃ p23,aa H5 q22=some (pV p23)∧cS 176 #[pV p23] (fun v24 H6=>∃ n25,v24=iV n25∧cS 92 #[iV 18] (fun v26 H7=>∃ n27,v26=iV n27∧cS 92 #[iV n3] (fun v28 H8=>∃ n29,v28=iV n29∧cS 167 #[iV 0] (fun v30 H9=>∃ n31,v30=iV n31∧cS 167 #[iV (wW (n25+1))] (fun v32 H10=>∃ n33,v32=iV n33∧cS 179 #[pV p1,iV 12,lV (some (A0 H10.size)) 7 7] (fun v34 H11=>∃ n35 n36,v34=.tuple #[iV n35,iV n36]∧cond (n36 != 0) (Q (.tuple #[iV 0,iV n36]) H11) (∃ J37:IT,(∃ q38,p1=some q38∧∃ p39,aa H11 q38=some (pV p39)∧∃ q40,p1=some q40∧∃ p41,aa H11 q40=some (pV p41)∧(cS 181 #[.agg #[pV p41],iV 0] (fun v42 H12=>∃ n43,v42=iV n43∧((aa H12 q38=some (pV p39)∧True)∧True)∧(cS 180 #[.agg #[pV p39],iV n43] (fun v44 H13=>∃ a45 l45 c45,v44=lV a45 l45 c45∧True∧True∧aI PP (Builtin.append_ #[30,30] 30 #[lV a45 l45 c45,lV (some (A0 H13.size)) 1 1]) (fun v46 H14=>∃ a47 l47 c47,v46=lV a47 l47 c47∧True∧cS 178 #[pV p1,lV a47 l47 c47] (fun v48 H15=>∃ n49 n50,v48=.tuple #[iV n49,iV n50]∧True∧J37 [iV n50,iV n49] H15) H14) (H13.push (.cells #[iV n35] 24))) H12)∧(((aa (H12.push (.cells #[iV n35] 24)) q38=some (pV p39)∧True)∧True)∧cS 180 #[.agg #[pV p39],iV n43] (fun v51 H16=>∃ a52 l52 c52,v51=lV a52 l52 c52∧True∧aI PP (Builtin.append_ #[30,30] 30 #[lV a52 l52 c52,lV (some (A0 H12.size)) 1 1]) (fun v53 H17=>∃ a54 l54 c54,v53=lV a54 l54 c54∧True∧cS 178 #[pV p1,lV a54 l54 c54] (fun v55 H18=>∃ n56 n57,v55=.tuple #[iV n56,iV n57]∧True∧J37 [iV n57,iV n56] H18) H17) H16) (H12.push (.cells #[iV n35] 24)))) H11)∧(((aa (H11.push (.cells #[iV n35] 24)) q40=some (pV p41)∧True)∧((aa (H11.push (.cells #[iV n35] 24)) q38=some (pV p39)∧True)∧True))∧cS 181 #[.agg #[pV p41],iV 0] (fun v58 H19=>∃ n59,v58=iV n59∧((aa H19 q38=some (pV p39)∧True)∧True)∧cS 180 #[.agg #[pV p39],iV n59] (fun v60 H20=>∃ a61 l61 c61,v60=lV a61 l61 c61∧True∧aI PP (Builtin.append_ #[30,30] 30 #[lV a61 l61 c61,lV (some (A0 H11.size)) 1 1]) (fun v62 H21=>∃ a63 l63 c63,v62=lV a63 l63 c63∧True∧cS 178 #[pV p1,lV a63 l63 c63] (fun v64 H22=>∃ n65 n66,v64=.tuple #[iV n65,iV n66]∧True∧J37 [iV n66,iV n65] H22) H21) H20) H19) (H11.push (.cells #[iV n35] 24))))∧∀ w67 H23,J37 w67 H23->∀ _g:Nat->Value,∃ n68 n69,w67=[iV n68,iV n69]∧cond (n68 != 0) (Q (.tuple #[iV 0,iV n68]) H23) (∃ q70,p1=some q70∧∃ p71,aa H23 q70=some (pV p71)∧∃ q72,p71=some q72∧∃ p73,aa H23 q72=some (pV p73)∧cS 182 #[pV p73,iV 0,iV n69] (fun v74 H24=>∃ n75,v74=iV n75∧cS 109 #[iV n35] (fun v76 H25=>∃ n77 n78,v76=.tuple #[iV n77,iV n78]∧Q (.tuple #[iV n77,iV n78]) H25) H24) H23))) (H10.push (.cells #[iV n6,iV n29,iV n20,iV n27,iV n27,iV n31,iV n33] 24))) H9) H8) H7) H6) H5)) H2))) H
theorem yv {p1:Option Addr}{s2:ByteArray}{n3:Int}{a4:Option Addr}{l4:Nat}{c4:Nat} (h:Ew p1 s2 n3 a4 l4 c4 Q H):ac PP 99 #[.pointer p1,.string s2,.int .i64 n3,.slice a4 l4 c4] Q H :=
 aT good Tryz.func99 rfl (Ls:=fun | 6=>some [(12,30),(33,3)] | 1022=>some [(11,37),(21,24)] | _=>none) (by kernel_rfl) h
abbrev yY:Nat:=100
def Cp (p1:Option Addr) (n2:Int) (Q:QT) (H:ae):Prop :=
 ∃ q3,p1=some q3∧∃ p4,aa H q3=some (pV p4)∧∃ q5,p4=some q5∧∃ p6,aa H q5=some (pV p6)∧∃ q7,p1=some q7∧∃ n8,aa H (q7.add 3)=some (iV n8)∧cS 82 #[pV p6] (fun v9 H1=>∃ a10 l10 c10,v9=lV a10 l10 c10∧((aa H1 (q7.add 3)=some (iV n8)∧True)∧True)∧cS 28 #[pV p6,iV (wW ((l10:Int)-n8))] (fun v11 H2=>∃ n12,v11=iV n12∧True∧cond (n2 == 0) (Q (iV n2) H2) (∃ q13,p1=some q13∧∃ p14,aa H2 q13=some (pV p14)∧∃ q15,p14=some q15∧∃ p16,aa H2 (q15.add 1)=some (pV p16)∧∃ q17,p1=some q17∧∃ n18,aa H2 (q17.add 1)=some (iV n18)∧cS 183 #[pV p16,iV n18] (fun v19 H3=>∃ n20,v19=iV n20∧True∧cond (n2 != 24) (∃ q21,p1=some q21∧∃ n22,aa H3 (q21.add 2)=some (iV n22)∧cS 63 #[pV p6] (fun v23 H4=>∃ p24,v23=pV p24∧((aa H4 (q21.add 2)=some (iV n22)∧True)∧True)∧cS 64 #[pV p24,iV n22] (fun v25 H5=>∃ n26,v25=iV n26∧True∧Q (iV n2) H5) H4) H3) (Q (iV n2) H3)) H2)) H1) H
theorem wg {p1:Option Addr}{n2:Int} (h:Cp p1 n2 Q H):ac PP 100 #[.pointer p1,.int .i64 n2] Q H :=
 okF Tryz.func100 rfl h
abbrev z1:Nat:=170
def Cw (p1:Option Addr) (s2:ByteArray) (Q:QT) (H:ae):Prop :=
 ac PP 171 #[pV p1,sV s2] (fun v3 H1=>∃ n4 n5,v3=.tuple #[iV n4,iV n5]∧cond (n5 == 0) (Q (.bool true) H1) (cS 282 #[pV p1] (fun v6 H2=>∃ a7 l7 c7,v6=lV a7 l7 c7∧cS 175 #[lV a7 l7 c7,sV s2] (fun v8 H3=>∃ b9,v8=.bool b9∧Q (.bool b9) H3) H2) H1)) H
theorem xy {p1:Option Addr}{s2:ByteArray} (h:Cw p1 s2 Q H):ac PP 170 #[.pointer p1,.string s2] Q H :=
 okF Tryz.func170 rfl h
abbrev Ad:Nat:=171
def DE (p1:Option Addr) (s2:ByteArray) (Q:QT) (H:ae):Prop :=
 ac PP 96 #[pV p1] (fun v3 H1=>shH (aB (H1.push (.cells #[pV none] 217)) (A0 H1.size) (pV p1)) fun C1=>∃ b4,v3=.bool b4∧cond (!b4) (Q (.tuple #[iV 0,iV 2]) H1) (Wr (H1.push (.cells #[pV none] 217)) (A0 H1.size)∧∃ p5,aa C1 (A0 H1.size)=some (pV p5)∧cS 181 #[.agg #[pV p5],iV 0] (fun v6 H2=>∃ n7,v6=iV n7∧∃ p8,aa H2 (A0 H1.size)=some (pV p8)∧cS 283 #[.agg #[pV p8],iV n7] (fun v9 H3=>∃ n10,v9=iV n10∧∃(I11:IT) (μ11:MT),I11 [iV 0] H3∧∀ w12 H4,I11 w12 H4->∀ _g:Nat->Value,∃ n13,w12=[iV n13]∧cond (decide (n13<n10)) (∃ p14,aa H4 (A0 H1.size)=some (pV p14)∧cS 284 #[.agg #[pV p14],iV n7,iV n13] (fun v15 H5=>∃ n16,v15=iV n16∧∃ p17,aa H5 (A0 H1.size)=some (pV p17)∧cS 285 #[.agg #[pV p17],iV n16,iV 0] (fun v18 H6=>∃ s19,v18=sV s19∧cond (eq s19 s2) (Q (.tuple #[iV n16,iV 0]) H6) (I11 [iV (wW (n13+1))] H6∧μ11 [iV (wW (n13+1))] H6<μ11 w12 H4)) H5) H4) (Q (.tuple #[iV 0,iV 130]) H4)) H2) C1)) H
theorem vi {p1:Option Addr}{s2:ByteArray} (h:DE p1 s2 Q H):ac PP 171 #[.pointer p1,.string s2] Q H :=
 aT good Tryz.func171 rfl (Ls:=fun | 6=>some [(20,3)] | _=>none) (by kernel_rfl) h
abbrev yt:Nat:=172
def BK (p1:Option Addr) (n2:Int) (n3:Int) (Q:QT) (H:ae):Prop :=
 ∃ p4,aa (H.push (.cells #[pV p1] 217)) (A0 H.size)=some (pV p4)∧cS 287 #[.agg #[pV p4],iV n2,iV n3] (fun v5 H1=>∃ n6,v5=iV n6∧cS 286 #[iV n6] (fun v7 H2=>∃ n8 n9,v7=.tuple #[iV n8,iV n9]∧Q (iV n8) H2) H1) (H.push (.cells #[pV p1] 217))
theorem vn {p1:Option Addr}{n2:Int}{n3:Int} (h:BK p1 n2 n3 Q H):ac PP 172 #[.agg #[.pointer p1],.int .i64 n2,.int .i64 n3] Q H :=
 okF Tryz.func172 rfl h
abbrev tG:Nat:=173
def y6 (p1:Option Addr) (n2:Int) (Q:QT) (H:ae):Prop :=
 cond (n2 == 0) (Q (lV none 0 0) (H.push (.cells #[pV p1] 217))) (∃ p3,aa (H.push (.cells #[pV p1] 217)) (A0 H.size)=some (pV p3)∧∃ p4,aa (H.push (.cells #[pV p1] 217)) (A0 H.size)=some (pV p4)∧∃ p5,aa (H.push (.cells #[pV p1] 217)) (A0 H.size)=some (pV p5)∧∃ p6,aa (H.push (.cells #[pV p1] 217)) (A0 H.size)=some (pV p6)∧cS 288 #[.agg #[pV p4],iV n2] (fun v7 H1=>∃ n8,v7=iV n8∧((aa H1 (A0 H.size)=some (pV p6)∧True)∧((aa H1 (A0 H.size)=some (pV p5)∧True)∧((aa H1 (A0 H.size)=some (pV p3)∧True)∧True)))∧cS 173 #[.agg #[pV p3],iV n8] (fun v9 H2=>∃ a10 l10 c10,v9=lV a10 l10 c10∧((aa H2 (A0 H.size)=some (pV p6)∧True)∧((aa H2 (A0 H.size)=some (pV p5)∧True)∧True))∧cS 284 #[.agg #[pV p6],iV n2,iV 2] (fun v11 H3=>∃ n12,v11=iV n12∧((aa H3 (A0 H.size)=some (pV p5)∧True)∧True)∧cS 289 #[.agg #[pV p5],iV n12] (fun v13 H4=>∃ a14 l14 c14,v13=lV a14 l14 c14∧True∧aI PP (Builtin.append_ #[73,73] 73 #[lV a10 l10 c10,lV a14 l14 c14]) (fun v15 H5=>∃ a16 l16 c16,v15=lV a16 l16 c16∧True∧Q (lV a16 l16 c16) H5) H4) H3) H2) H1) (H.push (.cells #[pV p1] 217)))
theorem qA {p1:Option Addr}{n2:Int} (h:y6 p1 n2 Q H):ac PP 173 #[.agg #[.pointer p1],.int .i64 n2] Q H :=
 okF Tryz.func173 rfl h
abbrev ug:Nat:=176
def CW (p1:Option Addr) (Q:QT) (H:ae):Prop :=
 ac PP 96 #[pV p1] (fun v2 H1=>shH (aB (H1.push (.cells #[pV none] 217)) (A0 H1.size) (pV p1)) fun C1=>∃ b3,v2=.bool b3∧cond (!b3) (Q (iV 0) H1) (Wr (H1.push (.cells #[pV none] 217)) (A0 H1.size)∧∃ p4,aa C1 (A0 H1.size)=some (pV p4)∧∃ p5,aa C1 (A0 H1.size)=some (pV p5)∧cS 181 #[.agg #[pV p5],iV 0] (fun v6 H2=>∃ n7,v6=iV n7∧((aa H2 (A0 H1.size)=some (pV p4)∧True)∧True)∧cS 283 #[.agg #[pV p4],iV n7] (fun v8 H3=>∃ n9,v8=iV n9∧True∧Q (iV n9) H3) H2) C1)) H
theorem xO {p1:Option Addr} (h:CW p1 Q H):ac PP 176 #[.pointer p1] Q H :=
 okF Tryz.func176 rfl h
abbrev Aw:Nat:=177
def A9 (p1:Option Addr) (s2:ByteArray) (Q:QT) (H:ae):Prop :=
 ∃ q3,p1=some q3∧∃ p4,aa H q3=some (pV p4)∧∃ q5,p4=some q5∧∃ p6,aa H (q5.add 1)=some (pV p6)∧cS 165 #[pV p6,sV s2] (fun v7 H1=>∃ n8 n9,v7=.tuple #[iV n8,iV n9]∧cond (n9 != 0) (Q (.tuple #[iV 0,iV n9]) H1) (cS 166 #[iV n8] (fun v10 H2=>∃ n11 n12,v10=.tuple #[iV n11,iV n12]∧Q (.tuple #[iV n11,iV n12]) H2) H1)) H
theorem vD {p1:Option Addr}{s2:ByteArray} (h:A9 p1 s2 Q H):ac PP 177 #[.pointer p1,.string s2] Q H :=
 okF Tryz.func177 rfl h
abbrev sU:Nat:=178
def BY (p1:Option Addr) (a2:Option Addr) (l2:Nat) (c2:Nat) (Q:QT) (H:ae):Prop :=
 cond ((l2:Int) == 0) (cS 92 #[iV 18] (fun v3 H1=>∃ n4,v3=iV n4∧Q (.tuple #[iV n4,iV 0]) H1) H) (cS 179 #[pV p1,iV 11,lV a2 l2 c2] (fun v5 H2=>∃ n6 n7,v5=.tuple #[iV n6,iV n7]∧Q (.tuple #[iV n6,iV n7]) H2) H)
theorem vL {p1:Option Addr}{a2:Option Addr}{l2:Nat}{c2:Nat} (h:BY p1 a2 l2 c2 Q H):ac PP 178 #[.pointer p1,.slice a2 l2 c2] Q H :=
 okF Tryz.func178 rfl h
abbrev zD:Nat:=179
def B6 (p1:Option Addr) (n2:Int) (a3:Option Addr) (l3:Nat) (_c3:Nat) (Q:QT) (H:ae):Prop :=
 ∃ q4,p1=some q4∧∃ p5,aa H q4=some (pV p5)∧∃ q6,p5=some q6∧∃ p7,aa H q6=some (pV p7)∧cS 92 #[iV n2] (fun v8 H1=>∃ n9,v8=iV n9∧((aa H1 q6=some (pV p7)∧True)∧((aa H1 q4=some (pV p5)∧True)∧True))∧cS 291 #[pV p7,iV n9,iV (l3:Int),iV 0] (fun v10 H2=>∃ n11 n12,v10=.tuple #[iV n11,iV n12]∧True∧cond (n12 != 0) (Q (.tuple #[iV 0,iV n12]) H2) (cS 109 #[iV n11] (fun v13 H3=>∃ n14 n15,v13=.tuple #[iV n14,iV n15]∧∃(I16:IT) (μ16:MT),I16 [iV 0] H3∧∀ w17 H4,I16 w17 H4->∀ _g:Nat->Value,∃ n18,w17=[iV n18]∧cond (decide (n18<(l3:Int))) (((0:Int)<=n18∧n18<(l3:Int))∧∃ q19,a3=some q19∧∃ n20,aa H4 (q19.add (Int.toNat n18*1))=some (iV n20)∧∃ q21,p1=some q21∧∃ p22,aa H4 q21=some (pV p22)∧∃ q23,p22=some q23∧∃ p24,aa H4 q23=some (pV p24)∧cS 63 #[pV p24] (fun v25 H5=>∃ p26,v25=pV p26∧cS 168 #[pV p26,iV n14,iV n18,iV n20] (fun v27 H6=>∃ n28,v27=iV n28∧I16 [iV (wW (n18+1))] H6∧μ16 [iV (wW (n18+1))] H6<μ16 w17 H4) H5) H4) (∃ q29,p1=some q29∧∃ p30,aa H4 q29=some (pV p30)∧∃ q31,p30=some q31∧∃ p32,aa H4 q31=some (pV p32)∧cS 93 #[pV p32,lV (some (A0 H4.size)) 1 1] (fun v33 H7=>∃ n34,v33=iV n34∧Q (.tuple #[iV n11,iV n34]) H7) (H4.push (.cells #[iV n11] 24)))) H2)) H1) H
theorem wY {p1:Option Addr}{n2:Int}{a3:Option Addr}{l3:Nat}{c3:Nat} (h:B6 p1 n2 a3 l3 c3 Q H):ac PP 179 #[.pointer p1,.int .i64 n2,.slice a3 l3 c3] Q H :=
 aT good Tryz.func179 rfl (Ls:=fun | 6=>some [(40,3)] | _=>none) (by kernel_rfl) h
abbrev AJ:Nat:=180
def Dg (p1:Option Addr) (n2:Int) (Q:QT) (H:ae):Prop :=
 ∃ p3,aa (H.push (.cells #[pV p1] 217)) (A0 H.size)=some (pV p3)∧cS 283 #[.agg #[pV p3],iV n2] (fun v4 H1=>∃ n5,v4=iV n5∧∃(I6:IT) (μ6:MT),I6 [lV none 0 0,iV 0] H1∧∀ w7 H2,I6 w7 H2->∀ _g:Nat->Value,∃ a8 l8 c8 n9,w7=[lV a8 l8 c8,iV n9]∧cond (decide (n9<n5)) (∃ p10,aa H2 (A0 H.size)=some (pV p10)∧cS 287 #[.agg #[pV p10],iV n2,iV n9] (fun v11 H3=>∃ n12,v11=iV n12∧aI PP (Builtin.append_ #[30,30] 30 #[lV a8 l8 c8,lV (some (A0 H3.size)) 1 1]) (fun v13 H4=>∃ a14 l14 c14,v13=lV a14 l14 c14∧I6 [lV a14 l14 c14,iV (wW (n9+1))] H4∧μ6 [lV a14 l14 c14,iV (wW (n9+1))] H4<μ6 w7 H2) (H3.push (.cells #[iV n12] 24))) H2) (Q (lV a8 l8 c8) H2)) (H.push (.cells #[pV p1] 217))
theorem uL {p1:Option Addr}{n2:Int} (h:Dg p1 n2 Q H):ac PP 180 #[.agg #[.pointer p1],.int .i64 n2] Q H :=
 aT good Tryz.func180 rfl (Ls:=fun | 3=>some [(5,30),(10,3)] | _=>none) (by kernel_rfl) h
abbrev AL:Nat:=181
def Bp (p1:Option Addr) (n2:Int) (Q:QT) (H:ae):Prop :=
 ∃ p3,aa (H.push (.cells #[pV p1] 217)) (A0 H.size)=some (pV p3)∧cS 284 #[.agg #[pV p3],iV 19,iV n2] (fun v4 H1=>∃ n5,v4=iV n5∧Q (iV n5) H1) (H.push (.cells #[pV p1] 217))
theorem uR {p1:Option Addr}{n2:Int} (h:Bp p1 n2 Q H):ac PP 181 #[.agg #[.pointer p1],.int .i64 n2] Q H :=
 okF Tryz.func181 rfl h
abbrev yV:Nat:=224
def Ci (p1:Option Addr) (n2:Int) (Q:QT) (H:ae):Prop :=
 ac PP 96 #[pV p1] (fun v3 H1=>∃ b4,v3=.bool b4∧cond (!b4) (Q (.tuple #[iV 0,iV 2]) H1) (cS 32 #[iV n2] (fun v5 H2=>∃ n6,v5=iV n6∧cond (n6 == 1) (Q (.tuple #[iV 8,iV 0]) H2) (cond (n6 == 2) (Q (.tuple #[iV 9,iV 0]) H2) (cond (n6 == 3) (cS 109 #[iV n2] (fun v7 H3=>∃ n8 n9,v7=.tuple #[iV n8,iV n9]∧∃ q10,p1=some q10∧∃ p11,aa H3 q10=some (pV p11)∧cS 63 #[pV p11] (fun v12 H4=>∃ p13,v12=pV p13∧cS 73 #[pV p13,iV n8] (fun v14 H5=>∃ n15 n16,v14=.tuple #[iV n15,iV n16]∧cond (n16 != 0) (Q (.tuple #[iV 0,iV n16]) H5) (cS 109 #[iV n15] (fun v17 H6=>∃ n18 n19,v17=.tuple #[iV n18,iV n19]∧Q (.tuple #[iV n18,iV n19]) H6) H5)) H4) H3) H2) (Q (.tuple #[iV 0,iV 10]) H2)))) H1)) H
theorem vX {p1:Option Addr}{n2:Int} (h:Ci p1 n2 Q H):ac PP 224 #[.pointer p1,.int .i64 n2] Q H :=
 okF Tryz.func224 rfl h
abbrev zU:Nat:=225
def Cq (p1:Option Addr) (n2:Int) (Q:QT) (H:ae):Prop :=
 ac PP 314 #[pV p1,iV n2] (fun v3 H1=>∃ p4:Option Addr,shH (aB (H1.push (.cells #[pV none] 217)) (A0 H1.size) (pV p4)) fun C1=>∃ n5,v3=.tuple #[.agg #[pV p4],iV n5]∧Wr (H1.push (.cells #[pV none] 217)) (A0 H1.size)∧cond (n5 != 0) (Q (.tuple #[iV 0,iV n5]) C1) (∃ p6,aa C1 (A0 H1.size)=some (pV p6)∧cS 288 #[.agg #[pV p6],iV n2] (fun v7 H2=>∃ n8,v7=iV n8∧Q (.tuple #[iV n8,iV 0]) H2) C1)) H
theorem xq {p1:Option Addr}{n2:Int} (h:Cq p1 n2 Q H):ac PP 225 #[.pointer p1,.int .i64 n2] Q H :=
 okF Tryz.func225 rfl h
abbrev z6:Nat:=282
def DA (p1:Option Addr) (Q:QT) (H:ae):Prop :=
 ac PP 96 #[pV p1] (fun v2 H1=>shH (aB (H1.push (.cells #[pV none] 217)) (A0 H1.size) (pV p1)) fun C1=>∃ b3,v2=.bool b3∧cond (!b3) (Q (lV none 0 0) H1) (Wr (H1.push (.cells #[pV none] 217)) (A0 H1.size)∧∃ p4,aa C1 (A0 H1.size)=some (pV p4)∧cS 181 #[.agg #[pV p4],iV 1] (fun v5 H2=>∃ n6,v5=iV n6∧∃ p7,aa H2 (A0 H1.size)=some (pV p7)∧cS 283 #[.agg #[pV p7],iV n6] (fun v8 H3=>∃ n9,v8=iV n9∧∃(I10:IT) (μ10:MT),I10 [lV none 0 0,iV 0] H3∧∀ w11 H4,I10 w11 H4->∀ _g:Nat->Value,∃ a12 l12 c12 n13,w11=[lV a12 l12 c12,iV n13]∧cond (decide (n13<(wW (Int.tdiv n9 2)))) (∃ p14,aa H4 (A0 H1.size)=some (pV p14)∧cS 285 #[.agg #[pV p14],iV n6,iV (wW (2*n13))] (fun v15 H5=>∃ s16,v15=sV s16∧aI PP (Builtin.append_ #[73,73] 73 #[lV a12 l12 c12,lV (some (A0 H5.size)) 1 1]) (fun v17 H6=>∃ a18 l18 c18,v17=lV a18 l18 c18∧I10 [lV a18 l18 c18,iV (wW (n13+1))] H6∧μ10 [lV a18 l18 c18,iV (wW (n13+1))] H6<μ10 w11 H4) (H5.push (.cells #[sV s16] 9))) H4) (Q (lV a12 l12 c12) H4)) H2) C1)) H
theorem ve {p1:Option Addr} (h:DA p1 Q H):ac PP 282 #[.pointer p1] Q H :=
 aT good Tryz.func282 rfl (Ls:=fun | 7=>some [(5,73),(18,3)] | _=>none) (by kernel_rfl) h
abbrev yn:Nat:=283
def BJ (p1:Option Addr) (n2:Int) (Q:QT) (H:ae):Prop :=
 ∃ p3,aa (H.push (.cells #[pV p1] 217)) (A0 H.size)=some (pV p3)∧∃ q4,p3=some q4∧∃ p5,aa (H.push (.cells #[pV p1] 217)) q4=some (pV p5)∧cS 63 #[pV p5] (fun v6 H1=>∃ p7,v6=pV p7∧cS 74 #[pV p7,iV n2] (fun v8 H2=>∃ n9 n10 n11,v8=.tuple #[iV n9,iV n10,iV n11]∧Q (iV n9) H2) H1) (H.push (.cells #[pV p1] 217))
theorem vj {p1:Option Addr}{n2:Int} (h:BJ p1 n2 Q H):ac PP 283 #[.agg #[.pointer p1],.int .i64 n2] Q H :=
 okF Tryz.func283 rfl h
abbrev tD:Nat:=284
def CL (p1:Option Addr) (n2:Int) (n3:Int) (Q:QT) (H:ae):Prop :=
 ∃ p4,aa (H.push (.cells #[pV p1] 217)) (A0 H.size)=some (pV p4)∧cS 287 #[.agg #[pV p4],iV n2,iV n3] (fun v5 H1=>∃ n6,v5=iV n6∧cS 109 #[iV n6] (fun v7 H2=>∃ n8 n9,v7=.tuple #[iV n8,iV n9]∧Q (iV n8) H2) H1) (H.push (.cells #[pV p1] 217))
theorem wy {p1:Option Addr}{n2:Int}{n3:Int} (h:CL p1 n2 n3 Q H):ac PP 284 #[.agg #[.pointer p1],.int .i64 n2,.int .i64 n3] Q H :=
 okF Tryz.func284 rfl h
abbrev Am:Nat:=285
def CP (p1:Option Addr) (n2:Int) (n3:Int) (Q:QT) (H:ae):Prop :=
 ∃ p4,aa (H.push (.cells #[pV p1] 217)) (A0 H.size)=some (pV p4)∧cS 287 #[.agg #[pV p4],iV n2,iV n3] (fun v5 H1=>∃ n6,v5=iV n6∧cS 349 #[iV n6] (fun v7 H2=>∃ n8 n9,v7=.tuple #[iV n8,iV n9]∧cond (n9 != 0) (Q (sV (⟨#[]⟩:ByteArray)) H2) (∃ p10,aa H2 (A0 H.size)=some (pV p10)∧∃ q11,p10=some q11∧∃ p12,aa H2 (q11.add 1)=some (pV p12)∧cS 350 #[pV p12,iV n8] (fun v13 H3=>∃ s14 n15,v13=.tuple #[sV s14,iV n15]∧Q (sV s14) H3) H2)) H1) (H.push (.cells #[pV p1] 217))
theorem xK {p1:Option Addr}{n2:Int}{n3:Int} (h:CP p1 n2 n3 Q H):ac PP 285 #[.agg #[.pointer p1],.int .i64 n2,.int .i64 n3] Q H :=
 okF Tryz.func285 rfl h
abbrev Ap:Nat:=287
def A4 (p1:Option Addr) (n2:Int) (n3:Int) (Q:QT) (H:ae):Prop :=
 ∃ p4,aa (H.push (.cells #[pV p1] 217)) (A0 H.size)=some (pV p4)∧∃ q5,p4=some q5∧∃ p6,aa (H.push (.cells #[pV p1] 217)) q5=some (pV p6)∧cS 63 #[pV p6] (fun v7 H1=>∃ p8,v7=pV p8∧cS 76 #[pV p8,iV n2,iV n3] (fun v9 H2=>∃ n10 n11,v9=.tuple #[iV n10,iV n11]∧Q (iV n10) H2) H1) (H.push (.cells #[pV p1] 217))
theorem vv {p1:Option Addr}{n2:Int}{n3:Int} (h:A4 p1 n2 n3 Q H):ac PP 287 #[.agg #[.pointer p1],.int .i64 n2,.int .i64 n3] Q H :=
 okF Tryz.func287 rfl h
abbrev yC:Nat:=288
def BT (p1:Option Addr) (n2:Int) (Q:QT) (H:ae):Prop :=
 ∃ p3,aa (H.push (.cells #[pV p1] 217)) (A0 H.size)=some (pV p3)∧cS 284 #[.agg #[pV p3],iV n2,iV 1] (fun v4 H1=>∃ n5,v4=iV n5∧cond (n5 != 1) (Q (iV n5) H1) (Q (iV 0) H1)) (H.push (.cells #[pV p1] 217))
theorem vE {p1:Option Addr}{n2:Int} (h:BT p1 n2 Q H):ac PP 288 #[.agg #[.pointer p1],.int .i64 n2] Q H :=
 okF Tryz.func288 rfl h
abbrev tR:Nat:=289
def BZ (p1:Option Addr) (n2:Int) (Q:QT) (H:ae):Prop :=
 ∃ p3,aa (H.push (.cells #[pV p1] 217)) (A0 H.size)=some (pV p3)∧cS 283 #[.agg #[pV p3],iV n2] (fun v4 H1=>∃ n5,v4=iV n5∧∃(I6:IT) (μ6:MT),I6 [lV none 0 0,iV 0] H1∧∀ w7 H2,I6 w7 H2->∀ _g:Nat->Value,∃ a8 l8 c8 n9,w7=[lV a8 l8 c8,iV n9]∧cond (decide (n9<n5)) (∃ p10,aa H2 (A0 H.size)=some (pV p10)∧cS 285 #[.agg #[pV p10],iV n2,iV n9] (fun v11 H3=>∃ s12,v11=sV s12∧aI PP (Builtin.append_ #[73,73] 73 #[lV a8 l8 c8,lV (some (A0 H3.size)) 1 1]) (fun v13 H4=>∃ a14 l14 c14,v13=lV a14 l14 c14∧I6 [lV a14 l14 c14,iV (wW (n9+1))] H4∧μ6 [lV a14 l14 c14,iV (wW (n9+1))] H4<μ6 w7 H2) (H3.push (.cells #[sV s12] 9))) H2) (Q (lV a8 l8 c8) H2)) (H.push (.cells #[pV p1] 217))
theorem wR {p1:Option Addr}{n2:Int} (h:BZ p1 n2 Q H):ac PP 289 #[.agg #[.pointer p1],.int .i64 n2] Q H :=
 aT good Tryz.func289 rfl (Ls:=fun | 3=>some [(5,73),(10,3)] | _=>none) (by kernel_rfl) h
abbrev AG:Nat:=310
def Dd (p1:Option Addr) (n2:Int) (Q:QT) (H:ae):Prop :=
 ac PP 314 #[pV p1,iV n2] (fun v3 H1=>∃ p4:Option Addr,shH (aB (H1.push (.cells #[pV none] 217)) (A0 H1.size) (pV p4)) fun C1=>∃ n5,v3=.tuple #[.agg #[pV p4],iV n5]∧Wr (H1.push (.cells #[pV none] 217)) (A0 H1.size)∧cond (n5 != 0) (Q (.tuple #[iV 0,iV n5]) C1) (∃ p6,aa C1 (A0 H1.size)=some (pV p6)∧cS 172 #[.agg #[pV p6],iV n2,iV 6] (fun v7 H2=>∃ n8,v7=iV n8∧Q (.tuple #[iV n8,iV 0]) H2) C1)) H
theorem uE {p1:Option Addr}{n2:Int} (h:Dd p1 n2 Q H):ac PP 310 #[.pointer p1,.int .i64 n2] Q H :=
 okF Tryz.func310 rfl h
abbrev yS:Nat:=314
def Cd (p1:Option Addr) (n2:Int) (Q:QT) (H:ae):Prop :=
 ac PP 96 #[pV p1] (fun v3 H1=>shH (aB (H1.push (.cells #[pV none] 217)) (A0 H1.size) (pV p1)) fun C1=>∃ b4,v3=.bool b4∧cond (!b4) (Wr H1 (A0 H.size)∧∃ p5,aa (aB H1 (A0 H.size) (pV none)) (A0 H.size)=some (pV p5)∧Q (.tuple #[.agg #[pV p5],iV 2]) (aB H1 (A0 H.size) (pV none))) (Wr (H1.push (.cells #[pV none] 217)) (A0 H1.size)∧∃ p6,aa C1 (A0 H1.size)=some (pV p6)∧cS 361 #[.agg #[pV p6],iV n2] (fun v7 H2=>∃ b8,v7=.bool b8∧cond (!b8) (Wr H2 (A0 H.size)∧∃ p9,aa (aB H2 (A0 H.size) (pV none)) (A0 H.size)=some (pV p9)∧Q (.tuple #[.agg #[pV p9],iV 130]) (aB H2 (A0 H.size) (pV none))) (∃ p10,aa H2 (A0 H1.size)=some (pV p10)∧Wr H2 (A0 H.size)∧∃ p11,aa (aB H2 (A0 H.size) (pV p10)) (A0 H.size)=some (pV p11)∧Q (.tuple #[.agg #[pV p11],iV 0]) (aB H2 (A0 H.size) (pV p10)))) C1)) (H.push (.cells #[pV none] 217))
theorem vT {p1:Option Addr}{n2:Int} (h:Cd p1 n2 Q H):ac PP 314 #[.pointer p1,.int .i64 n2] Q H :=
 okF Tryz.func314 rfl h
abbrev zQ:Nat:=361
def Ck (p1:Option Addr) (n2:Int) (Q:QT) (H:ae):Prop :=
 ∃ p3,aa (H.push (.cells #[pV p1] 217)) (A0 H.size)=some (pV p3)∧cS 172 #[.agg #[pV p3],iV n2,iV 6] (fun v4 H1=>∃ n5,v4=iV n5∧∃ p6,aa H1 (A0 H.size)=some (pV p6)∧cS 181 #[.agg #[pV p6],iV 0] (fun v7 H2=>∃ n8,v7=iV n8∧cond (decide (n2 > 0)) (cond (decide (n5 ≥ 1)) (∃ p9,aa H2 (A0 H.size)=some (pV p9)∧cS 283 #[.agg #[pV p9],iV n8] (fun v10 H3=>∃ n11,v10=iV n11∧cond (decide (n5<=n11)) (∃ p12,aa H3 (A0 H.size)=some (pV p12)∧cS 284 #[.agg #[pV p12],iV n8,iV (wW (n5-1))] (fun v13 H4=>∃ n14,v13=iV n14∧Q (.bool (n14 == n2)) H4) H3) (Q (.bool false) H3)) H2) (Q (.bool false) H2)) (Q (.bool false) H2)) H1) (H.push (.cells #[pV p1] 217))
theorem xk {p1:Option Addr}{n2:Int} (h:Ck p1 n2 Q H):ac PP 361 #[.agg #[.pointer p1],.int .i64 n2] Q H :=
 okF Tryz.func361 rfl h
end Go.Proofs.YtgcoppcogllpbaaGreatDoor
namespace Kw
open Go
def KV.addC (v:KV) (c:CV) (d:Int):KV:={ v with cls:=v.cls++[c],clsA:=d }
theorem KS.fresh {s:SP}{v:KV} (h:KS s v){o:Int} (hn:¬ Reaches s.h s.roots o):∀ p∈v.roles,p.1≠o:=fun p hp he=>hn (he ▸ h.reach p hp)
theorem jp {s s':SP}{v:KV} (h:KS s v) (h':KS s' v){l:List Int} (e:s'.stack=s.stack++l):∀ w∈s.roots,w∈s'.roots:=by
 intro w hw
 rw [h.roots] at hw
 rw [h'.roots,e]
 simp only [List.mem_cons,List.mem_append] at hw ⊢
 rcases hw with h | h
 ·exact .inl h
 ·exact .inr (.inl h)
theorem mH {s:SP}{v:KV} (h:KS s v){j:Nat} (hj:j<v.cls.length):1<=(v.cls[j]).oop∧(v.cls[j]).oop<=65536:=by
 have:=(h.view.cls hj).bnd h.wf.h
 exact ⟨this.1,this.2.1⟩
theorem d7 {n up l:Int}{k:Nat} (hn:cW n) (hu:cW (4*up)) (hl:cW l) (hk:k<=1000):∀ w∈bC n up l k,cW w:=by
 intro w hw
 simp only [bC,List.mem_cons,List.not_mem_nil,or_false] at hw
 rcases hw with rfl | rfl | rfl | rfl | rfl | rfl | rfl
 ·exact hn
 ·exact hu
 ·exact hl
 ·decide
 ·decide
 ·decide
 ·unfold cW;have:=aW (2*((k:Int)+1)+1);omega
theorem ig {s:SP}{v:KV} (h:KS s v):∀ w∈v.clsW,cW w:=fun w hw=>(h.view.all.bnd h.wf.h).2.2.2 w hw
theorem tT {s:SP}{v:KV}{t:TB} (hk:KS s v) (hst:s.stack.length<65000){c l:Int}{n:Nat}{ns:List Nat}{j:Nat} (hj:j<v.cls.length) (hlt:v.cls.length<256)
  (hc1:1<=c) (hc2:c<=65536) (hcr:Reaches s.h s.roots c) (hlr:Reaches s.h s.roots l) (hca:dN s.h c (bC (dI n) (v.cls[j]).oop (4*l) v.cls.length)) (hla:dN s.h l (ns.map dI))
  (hcf:∀ p∈v.roles,p.1≠c) (hlf:ns=[]∧l=18∨∀ p∈v.roles,p.1≠l) (hcl:c≠l) :
  bd s.h (cL s t v.clsW (4*c)).2.1.h (fun k=>Reaches s.h s.roots k∧k≠19)∧(cL s t v.clsW (4*c)).2.2=t∧(∃ m,(cL s t v.clsW (4*c)).2.1.stack=s.stack++m∧m.length<=1) ∧
  ((cL s t v.clsW (4*c)).1.2≠0->KS (cL s t v.clsW (4*c)).2.1 v∧bd s.h (cL s t v.clsW (4*c)).2.1.h (Reaches s.h s.roots)) ∧
  ((cL s t v.clsW (4*c)).1.2=0->(cL s t v.clsW (4*c)).1.1=c∧∃ d,KS (cL s t v.clsW (4*c)).2.1 (v.addC ⟨c,n,(v.cls[j]).oop,ns,l,18,18,[],[],0⟩ d)):=by
 have hws:∀ w∈v.clsW++[4*c],cW w:=fun w hw=>by
  rcases List.mem_append.1 hw with hw | hw
  ·exact ig hk w hw
  ·simp only [List.mem_singleton] at hw;rw [hw];exact cq hc1 hc2
 obtain ⟨h1,h2,⟨m,h3,h3'⟩,h4⟩:=gi hk (by omega) hws
 unfold cL
 by_cases he:(s.array (v.clsW++[4*c])).1.2=0
 ·rw [if_neg (by simpa using he)]
  obtain ⟨d,e1,d1,d2,hda,hdr,hdn⟩:=h4 he
  have hdn:¬ Reaches s.h s.roots d:=by
   rcases hdn with h | h
   ·simp at h
   ·exact h
  rw [e1]
  generalize (s.array (v.clsW++[4*c])).2=s1 at *
  obtain ⟨g1,g2,g3,g4,g5,g6,g7⟩:=lr h1 (i:=0) (w:=4*d) (by decide) (by decide) (cq d1 d2)
  generalize (s1.setRoot 0 (4*d)).2=s2 at *
  have hdf:∀ p∈v.roles,p.1≠d:=hk.fresh hdn
  have r19:((19,v.rootW):ll)∈v.roles:=by simp [KV.roles]
  have r18:((18,[]):ll)∈v.roles:=by simp [KV.roles]
  have hc19:c≠19:=fun e=>hcf _ r19 e.symm
  have hd19:d≠19:=fun e=>hdf _ r19 e.symm
  have hl19:l≠19:=by
   rcases hlf with ⟨_,h⟩ | h
   ·omega
   ·exact fun e=>h _ r19 e.symm
  have hc18:c≠18:=fun e=>hcf _ r18 e.symm
  have hdc:d≠c:=fun e=>hdn (e ▸ hcr)
  have hdl:d≠l:=fun e=>hdn (e ▸ hlr)
  have h2k:bd s.h s2.h fun k=>Reaches s.h s.roots k∧k≠19:=(h2.mono fun k hk=>hk.1).trans (g2.mono fun k hk=>hk.2)
  have hne:=t8 hk.view hk.sep
  refine ⟨h2k,rfl,⟨m,by rw [g6,h3],h3'⟩,fun h=>absurd rfl h,fun _=>⟨by show 4*c / 4=c;omega,d,g3,g7,g5,g4,?_,?_,?_⟩⟩
  ·
   refine cz.of ?_ ?_ ?_ ?_ ?_ ?_
   ·simpa [KV.rootW,KV.addC] using g1
   ·have:=hda.keep g2 hd19
    simpa [KV.addC,KV.clsW] using this
   ·exact (h1.view.globs).keep g2 (hne (v.globA,dO v.glob) (by simp))
   ·exact (h1.view.nil).keep g2 (by decide)
   ·exact (h1.view.empty).keep g2 (by decide)
   ·intro p hp
    simp only [KV.addC,gU,List.mem_append,Nat.zero_add,cK,List.append_nil] at hp
    rcases hp with hp | hp
    ·exact (h1.view p (by simp [KV.roles,hp])).keep g2 (hne p (by simp [hp]))
    ·simp only [crole,List.mem_cons,List.not_mem_nil,or_false] at hp
     rcases hp with rfl | rfl | rfl | rfl
     ·have:=hca.keep h2k ⟨hcr,hc19⟩
      simpa [CV.slots,bC] using this
     ·exact hla.keep h2k ⟨hlr,hl19⟩
     ·exact (h1.view.empty).keep g2 (by decide)
     ·exact (h1.view.empty).keep g2 (by decide)
  ·
   have hs:=hk.sep
   unfold Cs at hs ⊢
   simp only [KV.roles,KV.addC,gU,cK,List.append_nil,Nat.zero_add] at hs ⊢
   rw [List.pairwise_cons,List.pairwise_cons] at hs
   obtain ⟨hs1,hs2,hs3⟩:=hs
   have new:∀ q∈crole ⟨c,n,(v.cls[j]).oop,ns,l,18,18,[],[],0⟩ v.cls.length,q.1=c∨q.1=l∨q.1=18:=by
    intro q hq
    simp only [crole,List.mem_cons,List.not_mem_nil,or_false] at hq
    rcases hq with rfl | rfl | rfl | rfl <;> simp
   refine List.pairwise_cons.2 ⟨fun q hq he=>?_,List.pairwise_cons.2 ⟨fun q hq he=>?_,?_⟩⟩
   ·
    exfalso
    simp only [List.mem_cons,List.mem_append] at hq
    rcases hq with rfl | rfl | rfl | rfl | hq | hq
    ·exact hd19 he.symm
    ·exact hne (v.globA,dO v.glob) (by simp) he.symm
    ·simp at he
    ·simp at he
    ·exact hne q (by simp [hq]) he.symm
    ·rcases new q hq with h | h | h
     ·exact hc19 (by rw [←h];exact he.symm)
     ·exact hl19 (by rw [←h];exact he.symm)
     ·rw [h] at he;simp at he
   ·exfalso
    simp only [List.mem_cons,List.mem_append] at hq
    rcases hq with rfl | rfl | rfl | hq | hq
    ·exact hdf (v.globA,dO v.glob) (by simp [KV.roles]) he.symm
    ·exact hdf (1,[]) (by simp [KV.roles]) he.symm
    ·exact hdf (18,[]) (by simp [KV.roles]) he.symm
    ·exact hdf q (by simp [KV.roles,hq]) he.symm
    ·rcases new q hq with h | h | h
     ·exact hdc (by rw [←h];exact he)
     ·exact hdl (by rw [←h];exact he)
     ·exact hdf (18,[]) r18 (by rw [←h];exact he.symm)
   ·show ((v.globA,dO v.glob) :: (1,[]) :: (18,[]) :: (cK v.cls 0++_)).Pairwise _
    rw [←List.cons_append,←List.cons_append,←List.cons_append]
    refine List.pairwise_append.2 ⟨hs3,?_,fun p hp q hq he=>?_⟩
    ·simp only [crole]
     refine List.pairwise_cons.2 ⟨fun q hq he=>?_,List.pairwise_cons.2 ⟨fun q hq he=>?_,List.pairwise_cons.2 ⟨fun q hq he=>rfl,List.pairwise_cons.2 ⟨fun q hq he=>rfl,List.Pairwise.nil⟩⟩⟩⟩
     ·exfalso
      simp only [List.mem_cons,List.not_mem_nil,or_false] at hq
      rcases hq with rfl | rfl | rfl
      ·exact hcl he
      ·exact hc18 he
      ·exact hc18 he
     ·rcases hlf with ⟨h,_⟩ | h
      ·simp [h]
      ·exfalso
       simp only [List.mem_cons,List.not_mem_nil,or_false] at hq
       rcases hq with rfl | rfl
       ·exact h _ r18 he.symm
       ·exact h _ r18 he.symm
    ·have hpr:p∈v.roles:=by
      simp only [KV.roles]
      exact List.mem_cons_of_mem _ (List.mem_cons_of_mem _ hp)
     have em:p.1=18->p.2=[]:=fun h=>by
      have:=hk.view p hpr
      rw [h] at this
      exact this.uniq hk.view.empty
     rcases new q hq with h | h | h
     ·exact absurd (he.trans h) (hcf p hpr)
     ·rcases hlf with ⟨_,h'⟩ | h'
      ·exact em (by rw [he,h,h'])
      ·exact absurd (he.trans h) (h' p hpr)
     ·exact em (he.trans h)
  ·
   have hsh:=hk.shape
   have hm0:=hsh.many0
   constructor
   ·exact hsh.rest
   ·simp only [KV.addC,List.length_append];omega
   ·simp only [KV.addC,List.length_append,List.length_cons,List.length_nil];omega
   ·exact hsh.globs
   ·intro h0
    have h0':0<v.cls.length:=by omega
    simp only [KV.addC,List.getElem_append_left h0']
    exact hsh.up0 h0'
   ·intro i hi hpos
    simp only [KV.addC,List.length_append,List.length_cons,List.length_nil] at hi
    by_cases hlt':i<v.cls.length
    ·obtain ⟨j',hj',h5,h6⟩:=hsh.ups i hlt' hpos
     refine ⟨j',by simp only [KV.addC,List.length_append];omega,h5,?_⟩
     simp only [KV.addC,List.getElem_append_left hlt',List.getElem_append_left hj']
     exact h6
    ·have hie:i=v.cls.length:=by omega
     subst hie
     refine ⟨j,by simp only [KV.addC,List.length_append];omega,hj,?_⟩
     simp only [KV.addC,List.getElem_append_left hj]
     rw [List.getElem_append_right (Nat.le_refl _)]
     simp
   ·intro i hi h14
    have hlt':i<v.cls.length:=by omega
    simp only [KV.addC,List.getElem_append_left hlt']
    exact hsh.kern i hlt' h14
   ·intro x hx
    simp only [KV.addC,List.mem_append,List.mem_singleton] at hx
    rcases hx with hx | rfl
    ·exact hsh.lay x hx
    ·simp
 ·rw [if_pos (by simpa using he)]
  exact ⟨h2.mono fun k hk=>hk.1,rfl,⟨m,h3,h3'⟩,fun _=>⟨h1,h2⟩,fun h=>absurd h he⟩
structure DefR (s:SP) (v:KV) (t:TB) (j:Nat) (name:ByteArray) (own:List ByteArray) (R:(Int × Int) × SP × TB):Prop where
 wft:WFT R.2.2
 most:R.2.2.most=t.most
 pre:∃ l,R.2.2.texts=t.texts++l
 stack:∃ m,R.2.1.stack=s.stack++m∧m.length<=3
 bad:R.1.2≠0->KS R.2.1 v∧bd s.h R.2.1.h (Reaches s.h s.roots)
 good:R.1.2=0->∃ c n ns l d,∃ hj:j<v.cls.length,R.1.1=c∧KS R.2.1 (v.addC ⟨c,n,(v.cls[j]).oop,ns,l,18,18,[],[],0⟩ d)∧R.2.2.texts[n]?=some name∧ns.map (fun n=>R.2.2.texts[n]?)=own.map some
 keep:bd s.h R.2.1.h (fun k=>Reaches s.h s.roots k∧k≠19)
theorem uq {s:SP}{v:KV}{t:TB} (hk:KS s v) (hst:s.stack.length<60000){n:Nat}{ns:List Nat}{j:Nat} (hj:j<v.cls.length) (hlt:v.cls.length<256) (hwt:WFT t) (hn:n<t.texts.length) (hns:∀ n∈ns,n<t.texts.length)
  {name:ByteArray}{own:List ByteArray} (e1:t.texts[n]?=some name) (e2:ns.map (fun n=>t.texts[n]?)=own.map some) :
  DefR s v t j name own (iv s t v.clsW (dI n) (v.cls[j]).oop (ns.map dI)):=by
 have hws:∀ w∈ns.map dI,cW w:=fun w hw=>by
  obtain ⟨x,hx,rfl⟩:=List.mem_map.1 hw
  exact jH hwt (hns x hx)
 obtain ⟨a1,a2,⟨m1,a3,a3'⟩,a4⟩:=gi hk (by omega) hws
 unfold iv
 by_cases he:(s.array (ns.map dI)).1.2=0
 ·rw [if_neg (by simpa using he)]
  obtain ⟨l,el,l1,l2,hla,hlr,hlf⟩:=a4 he
  rw [el]
  generalize (s.array (ns.map dI)).2=s1 at *
  have hl1:s1.stack.length<64000:=by rw [a3,List.length_append];omega
  have hup:=mH hk hj
  have hcw:v.clsW.length=v.cls.length:=by simp [KV.clsW]
  obtain ⟨b1,b2,b3,b4⟩:=jG a1 (by omega) (cls:=12) (by decide) (ws:=bC (dI n) (v.cls[j]).oop (4*l) v.clsW.length) (d7 (jH hwt hn) (cq hup.1 hup.2) (cq l1 l2) (by omega))
  have hrs:∀ k,Reaches s.h s.roots k->Reaches s1.h s1.roots k:=fun k hk'=>Reaches.mono hk.wf.h a2 (jp hk a1 a3) hk'
  unfold fu
  by_cases hf:(s1.make 12 (bC (dI n) (v.cls[j]).oop (4*l) v.clsW.length)).1.2=0
  ·rw [if_neg (by simpa using hf)]
   obtain ⟨c,ec,est,c1,c2,hca,hcn⟩:=b4 hf
   rw [ec]
   generalize (s1.make 12 (bC (dI n) (v.cls[j]).oop (4*l) v.clsW.length)).2=s2 at *
   have hrs2:∀ k,Reaches s1.h s1.roots k->Reaches s2.h s2.roots k:=fun k hk'=>Reaches.mono a1.wf.h b2 (jp a1 b1 est) hk'
   have hcr:Reaches s2.h s2.roots c:=Reaches.of_root c1 c2 hca.there (by rw [b1.roots,est];simp)
   have hlf':ns=[]∧l=18∨∀ p∈v.roles,p.1≠l:=by
    rcases hlf with h | h
    ·have hnil:ns=[]:=by simpa using h
     subst hnil
     left
     refine ⟨rfl,?_⟩
     have:(s.array (([]:List Nat).map dI)).1.1=72:=by simp [SP.array]
     omega
    ·exact .inr (hk.fresh h)
   obtain ⟨d1,d2,⟨m,d3,d3'⟩,d4,d5⟩:=tT (t:=t) b1 (by rw [est,List.length_append];simp;omega) (c:=c) (l:=l) (n:=n) (ns:=ns) hj hlt c1 c2 hcr (hrs2 l hlr) (by rw [hcw] at hca;exact hca) (hla.keep b2 hlr) (a1.fresh hcn) hlf' (fun e=>hcn (e ▸ hlr))
   generalize cL s2 t v.clsW (4*c)=R at *
   refine ⟨by rw [d2];exact hwt,by rw [d2],⟨[],by rw [d2];simp⟩,⟨m1++[4*c]++m,by rw [d3,est,a3];simp,by simp;omega⟩,fun h=>?_,fun h=>?_,((a2.trans (b2.mono hrs)).mono fun k hk'=>hk'.1).trans (d1.mono fun k hk'=>⟨hrs2 k (hrs k hk'.1),hk'.2⟩)⟩
   ·exact ⟨(d4 h).1,(a2.trans (b2.mono hrs)).trans ((d4 h).2.mono fun k hk'=>hrs2 k (hrs k hk'))⟩
   ·obtain ⟨e3,d,e4⟩:=d5 h
    rw [d2]
    exact ⟨c,n,ns,l,d,hj,e3,e4,e1,e2⟩
  ·rw [if_pos (by simpa using hf)]
   exact ⟨hwt,rfl,⟨[],by simp⟩,⟨m1,by rw [(b3 hf).1,a3],by omega⟩,fun _=>⟨b1,a2.trans (b2.mono hrs)⟩,fun h=>absurd h hf,(a2.trans (b2.mono hrs)).mono fun k hk'=>hk'.1⟩
 ·rw [if_pos (by simpa using he)]
  exact ⟨hwt,rfl,⟨[],by simp⟩,⟨m1,a3,by omega⟩,fun _=>⟨a1,a2⟩,fun h=>absurd h he,a2.mono fun k hk'=>hk'.1⟩
theorem qN {s:SP}{v:KV}{t:TB} (hk:KS s v) (hst:s.stack.length<60000){j:Nat} (hj:j<v.cls.length) (hlt:v.cls.length<256) (hwt:WFT t) (name:ByteArray) (own:List ByteArray) :
  DefR s v t j name own (eY s t v.clsW name (v.cls[j]).oop own):=by
 unfold eY
 have p1:=mP t name
 have w1:=fB hwt name
 by_cases h1:(t.add name).1.2=0
 ·rw [if_neg (by simpa using h1)]
  obtain ⟨n,e1,e2,_⟩:=kn name h1
  generalize (t.add name).2=t1 at *
  have p2:=fF t1 [] own
  have w2:=pK w1 [] own
  have pre:∃ l,(t1.addAll [] own).2.texts=t.texts++l:=by
   obtain ⟨l,e⟩:=p1.2
   obtain ⟨l',e'⟩:=p2.2
   exact ⟨l++l',by rw [e',e];simp⟩
  by_cases h2:(t1.addAll [] own).1.2=0
  ·rw [if_neg (by simpa using h2)]
   obtain ⟨ns,e3,e4⟩:=jg [] own h2
   rw [e3,e1]
   generalize (t1.addAll [] own).2=t2 at *
   have e5:t2.texts[n]?=some name:=by
    obtain ⟨l',e'⟩:=p2.2
    rw [e',List.getElem?_append_left (dS e2).2,e2]
   have hns:∀ n∈ns,n<t2.texts.length:=fun n hn=>by
    have:t2.texts[n]?∈own.map some:=by rw [←e4];exact List.mem_map.2 ⟨n,hn,rfl⟩
    obtain ⟨s,_,hs⟩:=List.mem_map.1 this
    exact (dS hs.symm).2
   have:=uq hk hst hj hlt w2 (dS e5).2 hns e5 e4
   have hpre:∃ l,(iv s t2 v.clsW (dI n) (v.cls[j]).oop (ns.map dI)).2.2.texts=t.texts++l:=by
    obtain ⟨l,e⟩:=pre
    obtain ⟨l',e'⟩:=this.pre
    exact ⟨l++l',e'.trans (by rw [e];simp)⟩
   exact { this with most:=this.most.trans (p2.1.trans p1.1),pre:=hpre }
  ·rw [if_pos (by simpa using h2)]
   exact ⟨w2,p2.1.trans p1.1,pre,⟨[],by simp,by simp⟩,fun _=>⟨hk,bd.refl _ _⟩,fun h=>absurd h h2,bd.refl _ _⟩
 ·rw [if_pos (by simpa using h1)]
  exact ⟨w1,p1.1,p1.2,⟨[],by simp,by simp⟩,fun _=>⟨hk,bd.refl _ _⟩,fun h=>absurd h h1,bd.refl _ _⟩
end Kw
namespace Kw
open Go
structure KAll (s:SP) (t:TB) (v:KV):Prop where
 ks:KS s v
 names:KNames v t
 stack:s.stack=[]
structure KAllW (s:SP) (t:TB) (v:KV):Prop where
 ks:KS s v
 names:KNames v t
 top:s.stack.length<60000
theorem KAll.w {s:SP}{t:TB}{v:KV} (h:KAll s t v):KAllW s t v:=⟨h.ks,h.names,by rw [h.stack];decide⟩
theorem uu {s:SP}{m:List Int} (h:s.stack=m):(s.drop ((s.stack.length:Int)-0)).2={ s with stack:=[] }:=by
 unfold SP.drop
 rw [if_neg (by omega)]
 simp
theorem KS.nostack {s:SP}{v:KV} (h:KS s v):KS { s with stack:=[] } v:=⟨{ h.wf with many:=by simp,words:=by simp },h.gc,h.op,h.king,h.view,h.sep,h.shape⟩
theorem KS.marks {s:SP}{v:KV} (h:KS s v) (k:Int):KS { s with h:=(s.h.marks k).2 } v :=
 ⟨{ h.wf with h:=tg h.wf.h k },ut h.gc k,h.op,h.king,h.view.keep (ge k) fun _ _=>trivial,h.sep,h.shape⟩
theorem pq {s:SP}{v:KV}{t:TB} (h:KAll s t v){j:Nat} (hj:j<v.cls.length) (hlt:v.cls.length<256){name:ByteArray}{own:List ByteArray} (hf:∀ c∈v.cls,tx t c.name≠name) :
  ((bn s t v.clsW name (v.cls[j]).oop own).1.2≠0->(bn s t v.clsW name (v.cls[j]).oop own).1.1=0∧KAll (bn s t v.clsW name (v.cls[j]).oop own).2.1 (bn s t v.clsW name (v.cls[j]).oop own).2.2 v∧(bn s t v.clsW name (v.cls[j]).oop own).2.2=t ∧
   bd s.h (bn s t v.clsW name (v.cls[j]).oop own).2.1.h (Reaches s.h s.roots)) ∧
  ((bn s t v.clsW name (v.cls[j]).oop own).1.2=0->∃ n ns l d,KAll (bn s t v.clsW name (v.cls[j]).oop own).2.1 (bn s t v.clsW name (v.cls[j]).oop own).2.2 (v.addC ⟨(bn s t v.clsW name (v.cls[j]).oop own).1.1,n,(v.cls[j]).oop,ns,l,18,18,[],[],0⟩ d) ∧
   (∃ m,(bn s t v.clsW name (v.cls[j]).oop own).2.2.texts=t.texts++m)∧tx (bn s t v.clsW name (v.cls[j]).oop own).2.2 n=name∧ns.map (tx (bn s t v.clsW name (v.cls[j]).oop own).2.2)=own):=by
 obtain ⟨hk,hn,hst⟩:=h
 have D:=qN hk (by rw [hst];simp) hj hlt hn.wf name own
 unfold bn
 generalize eY s t v.clsW name (v.cls[j]).oop own=R at D ⊢
 obtain ⟨m,hm,hm'⟩:=D.stack
 have hd:=uu (s:=R.2.1) (m:=R.2.1.stack) rfl
 simp only [hst,List.length_nil]
 by_cases he:R.1.2=0
 ·refine ⟨fun h=>absurd he h,fun _=>?_⟩
  obtain ⟨c,n,ns,l,d,_,e1,e2,e3,e4⟩:=D.good he
  unfold mO
  rw [if_pos he,if_pos he]
  simp only [Int.natCast_zero,hd]
  have hg:=hn.grow D.wft D.pre
  have t1:=dS e3
  have t2:ns.map (tx R.2.2)=own:=by
   have h2:∀ (ns:List Nat) (own:List ByteArray),ns.map (fun n=>R.2.2.texts[n]?)=own.map some->ns.map (tx R.2.2)=own:=by
    intro ns
    induction ns with
    | nil=>intro own h;simp only [List.map_nil] at h;simpa using h.symm
    | cons a ns ih =>
     intro own h
     cases own with
     | nil=>simp at h
     | cons b own =>
      simp only [List.map_cons,List.cons.injEq] at h
      rw [List.map_cons,(dS h.1).1,ih own h.2]
   exact h2 ns own e4
  have t3:∀ x∈ns,x<R.2.2.texts.length:=fun x hx=>by
   have:R.2.2.texts[x]?∈own.map some:=by rw [←e4];exact List.mem_map.2 ⟨x,hx,rfl⟩
   obtain ⟨_,_,hs⟩:=List.mem_map.1 this
   exact (dS hs.symm).2
  refine ⟨n,ns,l,d,⟨by rw [e1];exact e2.nostack,?_,rfl⟩,D.pre,t1.1,t2⟩
  refine ⟨D.wft,fun x hx=>?_,fun x hx=>?_,hg.glob,?_⟩
  ·simp only [KV.addC,List.mem_append,List.mem_singleton] at hx
   rcases hx with hx | rfl
   ·exact hg.name x hx
   ·exact t1.2
  ·simp only [KV.addC,List.mem_append,List.mem_singleton] at hx
   rcases hx with hx | rfl
   ·exact hg.own x hx
   ·exact t3
  ·simp only [KV.addC,List.map_append,List.map_cons,List.map_nil]
   rw [List.nodup_append]
   refine ⟨hg.nodup,by simp,fun a ha b hb hab=>?_⟩
   simp only [List.mem_singleton] at hb
   subst hb
   subst hab
   obtain ⟨x,hx,hxn⟩:=List.mem_map.1 ha
   have:=hf x hx
   rw [←yf D.pre (hn.name x hx),hxn] at this
   exact this t1.1
 ·refine ⟨fun _=>?_,fun h=>absurd h he⟩
  obtain ⟨b1,b2⟩:=D.bad he
  unfold mO
  rw [if_neg he,if_neg he]
  simp only [Int.natCast_zero,hd]
  have hb:=um D.most D.pre
  rw [hb]
  by_cases h24:R.1.2=24
  ·rw [if_pos h24]
   exact ⟨trivial,⟨b1.nostack,hn,rfl⟩,rfl,b2⟩
  ·rw [if_neg h24]
   exact ⟨trivial,⟨b1.nostack.marks _,hn,rfl⟩,rfl,b2.trans ((ge _).mono fun _ _=>trivial)⟩
theorem KAll.marks {s:SP}{t:TB}{v:KV} (h:KAll s t v) (k:Int):KAll { s with h:=(s.h.marks k).2 } t v:=⟨h.ks.marks k,h.names,h.stack⟩
theorem KAll.collect {s:SP}{t:TB}{v:KV} (h:KAll s t v):KAll s.collect.2 t v:=by
 have hr:=mz s
 exact ⟨⟨qa h.ks.wf,qd h.ks.gc,hr.2.2.trans h.ks.op,hr.1.trans h.ks.king,h.ks.view.keep (ln h.ks.wf.h) h.ks.reach,h.ks.sep,h.ks.shape⟩,h.names,hr.2.1.trans h.stack⟩
end Kw
namespace Kw
open Go
def iZ (w:Int):Int:=if bg w=3 then w / 4 else 0
def lg (w:Int):Int:=if bg w=1 then w / 2 else 0
def qq (t:TB) (w:Int):ByteArray:=if bg w=2 then tx t (w / 4).toNat else ⟨#[]⟩
def kslot (r:RH) (o i:Int):Int:=(r.at o i).1
def fO (r:RH) (o i:Int):Int:=iZ (kslot r o i)
def mX (r:RH) (o i:Int):Int:=lg (kslot r o i)
def g9 (r:RH) (t:TB) (o i:Int):ByteArray:=qq t (kslot r o i)
def ksize (r:RH) (o:Int):Int:=(r.size o).1
theorem dC {o:Int} (h0:1<=o) (h1:o<=65536):iZ (4*o)=o:=by
 unfold iZ
 have:=aW (4*o)
 rw [if_pos (by omega)];omega
theorem tf {n:Int} (h0:-1073741824<=n) (h1:n<=1073741823):lg (2*n+1)=n:=by
 unfold lg
 have:=aW (2*n+1)
 rw [if_pos (by omega)];omega
theorem iY {t:TB} (hw:WFT t){n:Nat} (h:n<t.texts.length):qq t (dI n)=tx t n:=by
 unfold qq dI
 have h1:=hw.m1
 have h2:=hw.len
 have:=aW (4*(n:Int)+2)
 rw [if_pos (by omega)]
 congr 1;omega
theorem dN.kslot {r:RH}{o:Int}{ws:List Int} (h:dN r o ws){i:Nat} (hi:i<ws.length):kslot r o i=ws[i]:=by
 unfold Kw.kslot
 rw [h.at (by omega) (by omega)]
 simp
theorem dN.ksize {r:RH}{o:Int}{ws:List Int} (h:dN r o ws):ksize r o=ws.length:=by unfold Kw.ksize;rw [h.size]
theorem jz {r:RH} (o:Int):0<=ksize r o:=by
 unfold ksize RH.size
 cases al r.objs o with
 | none=>exact Int.le_refl 0
 | some x=>exact Int.natCast_nonneg _
theorem qt {r:RH} (hw:WFH r) (o:Int):ksize r o<=8192:=by
 unfold ksize RH.size
 cases ho:al r.objs o with
 | none=>exact Int.le_of_lt (by decide)
 | some x=>have:=(hw.objs.good x (au ho).1).many;simp only;omega
def kwords (r:RH) (o:Int):List Int:=(List.range (ksize r o).toNat).map fun i:Nat=>kslot r o i
theorem dN.kwords {r:RH}{o:Int}{ws:List Int} (h:dN r o ws):kwords r o=ws:=by
 unfold Kw.kwords
 rw [h.ksize,Int.toNat_natCast]
 apply List.ext_getElem (by simp)
 intro i h1 h2
 simp only [List.getElem_map,List.getElem_range]
 exact h.kslot h2
section
variable {s:SP}{v:KV}{t:TB}
theorem KS.root0 (h:KS s v):fO s.h 19 0=v.clsA:=by
 have hb:=h.view.all.bnd h.wf.h
 have hr:=h.view.root
 unfold fO
 rw [show (0:Int)=((0:Nat):Int) from rfl,hr.kslot (by simp [KV.rootW])]
 exact dC hb.1 hb.2.1
theorem KS.root1 (h:KS s v):fO s.h 19 1=v.globA:=by
 have hb:=h.view.globs.bnd h.wf.h
 have hr:=h.view.root
 unfold fO
 rw [show (1:Int)=((1:Nat):Int) from rfl,hr.kslot (by simp [KV.rootW])]
 exact dC hb.1 hb.2.1
theorem KS.size0 (h:KS s v):ksize s.h v.clsA=v.cls.length:=by rw [h.view.all.ksize];simp [KV.clsW]
theorem KS.size1 (h:KS s v):ksize s.h v.globA=2*v.glob.length:=by rw [h.view.globs.ksize,lu];simp
theorem KS.clsAt (h:KS s v){i:Nat} (hi:i<v.cls.length):kslot s.h v.clsA i=4*(v.cls[i]).oop∧fO s.h v.clsA i=(v.cls[i]).oop:=by
 have hb:=(h.view.cls hi).bnd h.wf.h
 have e:kslot s.h v.clsA i=4*(v.cls[i]).oop:=by rw [h.view.all.kslot (by simpa [KV.clsW] using hi)];simp [KV.clsW]
 exact ⟨e,by unfold fO;rw [e];exact dC hb.1 hb.2.1⟩
theorem KS.globAt (h:KS s v){i:Nat} (hi:i<v.glob.length):kslot s.h v.globA (2*i:Nat)=dI v.glob[i].1∧kslot s.h v.globA (2*i+1:Nat)=v.glob[i].2:=by
 have hg:=rO hi
 have hl:=lu v.glob
 refine ⟨?_,?_⟩
 ·rw [h.view.globs.kslot (by omega)]
  have:=hg.1
  rw [List.getElem?_eq_getElem (by omega)] at this
  simpa using this
 ·rw [h.view.globs.kslot (by omega)]
  have:=hg.2
  rw [List.getElem?_eq_getElem (by omega)] at this
  simpa using this
theorem KS.c0 (h:KS s v){i:Nat} (hi:i<v.cls.length):kslot s.h (v.cls[i]).oop 0=dI (v.cls[i]).name:=(h.view.cls hi).kslot (i:=0) (by simp [CV.slots])
theorem KS.c1 (h:KS s v){i:Nat} (hi:i<v.cls.length):kslot s.h (v.cls[i]).oop 1=4*(v.cls[i]).up:=(h.view.cls hi).kslot (i:=1) (by simp [CV.slots])
theorem KS.c2 (h:KS s v){i:Nat} (hi:i<v.cls.length):kslot s.h (v.cls[i]).oop 2=4*(v.cls[i]).ownA:=(h.view.cls hi).kslot (i:=2) (by simp [CV.slots])
theorem KS.c3 (h:KS s v){i:Nat} (hi:i<v.cls.length):kslot s.h (v.cls[i]).oop 3=4*(v.cls[i]).selA:=(h.view.cls hi).kslot (i:=3) (by simp [CV.slots])
theorem KS.c4 (h:KS s v){i:Nat} (hi:i<v.cls.length):kslot s.h (v.cls[i]).oop 4=4*(v.cls[i]).metA:=(h.view.cls hi).kslot (i:=4) (by simp [CV.slots])
theorem KS.c5 (h:KS s v){i:Nat} (hi:i<v.cls.length):kslot s.h (v.cls[i]).oop 5=2*(v.cls[i]).lay+1:=(h.view.cls hi).kslot (i:=5) (by simp [CV.slots])
theorem KS.c6 (h:KS s v){i:Nat} (hi:i<v.cls.length):kslot s.h (v.cls[i]).oop 6=2*((i:Int)+1)+1:=(h.view.cls hi).kslot (i:=6) (by simp [CV.slots])
theorem KS.upB (h:KS s v){i:Nat} (hi:i<v.cls.length):1<=(v.cls[i]).up∧(v.cls[i]).up<=65536:=by
 by_cases h0:i=0
 ·subst h0;rw [(h.shape.up0 hi).1];decide
 ·obtain ⟨j,hj,_,e⟩:=h.shape.ups i hi (by omega)
  rw [←e]
  have:=(h.view.cls hj).bnd h.wf.h
  exact ⟨this.1,this.2.1⟩
theorem KS.up (h:KS s v){i:Nat} (hi:i<v.cls.length):fO s.h (v.cls[i]).oop 1=(v.cls[i]).up:=by
 unfold fO;rw [h.c1 hi];exact dC (h.upB hi).1 (h.upB hi).2
theorem KS.up1 (h:KS s v){i:Nat} (hi:i<v.cls.length):(v.cls[i]).up=1↔i=0:=by
 constructor
 ·intro e
  by_cases h0:i=0
  ·exact h0
  ·obtain ⟨j,hj,_,e'⟩:=h.shape.ups i hi (by omega)
   exact absurd (e'.trans e) (h.view.ne1 hj)
 ·rintro rfl;exact (h.shape.up0 hi).1
theorem KS.ownO (h:KS s v){i:Nat} (hi:i<v.cls.length):fO s.h (v.cls[i]).oop 2=(v.cls[i]).ownA:=by
 have hb:=(h.view.own hi).bnd h.wf.h
 unfold fO;rw [h.c2 hi];exact dC hb.1 hb.2.1
theorem KS.num (h:KS s v){i:Nat} (hi:i<v.cls.length):mX s.h (v.cls[i]).oop 6=(i:Int)+1:=by
 have:=h.shape.many1
 unfold mX;rw [h.c6 hi];exact tf (by omega) (by omega)
theorem KAllW.name (h:KAllW s t v){i:Nat} (hi:i<v.cls.length):g9 s.h t (v.cls[i]).oop 0=tx t (v.cls[i]).name:=by
 unfold g9;rw [h.ks.c0 hi];exact iY h.names.wf (h.names.name _ (List.getElem_mem hi))
theorem KAllW.gname (h:KAllW s t v){i:Nat} (hi:i<v.glob.length):g9 s.h t v.globA (2*i:Nat)=tx t v.glob[i].1:=by
 unfold g9;rw [(h.ks.globAt hi).1];exact iY h.names.wf (h.names.glob _ (List.getElem_mem hi))
theorem KAllW.ownT (h:KAllW s t v){i:Nat} (hi:i<v.cls.length){j:Nat} (hj:j<(v.cls[i]).own.length):g9 s.h t (v.cls[i]).ownA j=tx t (v.cls[i]).own[j]:=by
 unfold g9
 rw [(h.ks.view.own hi).kslot (i:=j) (by simpa using hj)]
 simp only [List.getElem_map]
 exact iY h.names.wf (h.names.own _ (List.getElem_mem hi) _ (List.getElem_mem hj))
theorem KS.ownL (h:KS s v){i:Nat} (hi:i<v.cls.length):ksize s.h (v.cls[i]).ownA=(v.cls[i]).own.length:=by rw [(h.view.own hi).ksize];simp
end
def jD (v:KV) (o:Int):Option Nat:=v.cls.findIdx? fun c=>decide (c.oop=o)
theorem er {v:KV}{o:Int}{i:Nat} (h:jD v o=some i):∃ hi:i<v.cls.length,(v.cls[i]).oop=o:=by
 unfold jD at h
 rw [List.findIdx?_eq_some_iff_getElem] at h
 obtain ⟨hi,h1,_⟩:=h
 exact ⟨hi,by simpa using h1⟩
theorem oe {v:KV}{o:Int} (h:jD v o=none):∀ i (hi:i<v.cls.length),(v.cls[i]).oop≠o:=by
 unfold jD at h
 rw [List.findIdx?_eq_none_iff] at h
 intro i hi
 simpa using h _ (List.getElem_mem hi)
theorem KS.idx {s:SP}{v:KV} (h:KS s v){i:Nat} (hi:i<v.cls.length):jD v (v.cls[i]).oop=some i:=by
 cases hx:jD v (v.cls[i]).oop with
 | none=>exact absurd rfl (oe hx i hi)
 | some j =>
  obtain ⟨hj,e⟩:=er hx
  rw [h.view.inj hj hi e]
def dH (v:KV) (t:TB) (name:ByteArray):Int × Int:=match v.cls.findIdx? (fun c=>decide (tx t c.name=name)) with
 | some i=>((v.cls.getD i ⟨0,0,0,[],0,0,0,[],[],0⟩).oop,0)
 | none=>(0,130)
def dn (v:KV) (i:Nat):Int:=match v.cls[i]? with
 | some c=>if c.up=1 then 0 else c.up
 | none=>0
def upIdx (v:KV) (i:Nat):Option Nat:=jD v (dn v i)
def bL (v:KV) (i:Nat):List Nat:=match v.cls[i]? with
 | none=>[]
 | some c=>match upIdx v i with
  | some j=>if j<i then bL v j++c.own else c.own
  | none=>c.own
termination_by i
theorem KS.upI {s:SP}{v:KV} (h:KS s v){i:Nat} (hi:i<v.cls.length):(i=0∧dn v i=0∧upIdx v i=none)∨(∃ j,∃ hj:j<v.cls.length,j<i∧dn v i=(v.cls[j]).oop∧(v.cls[i]).up=(v.cls[j]).oop∧upIdx v i=some j):=by
 have e:dn v i=if (v.cls[i]).up=1 then 0 else (v.cls[i]).up:=by unfold dn;rw [List.getElem?_eq_getElem hi]
 by_cases h0:i=0
 ·left
  have hu:(v.cls[i]).up=1:=(h.up1 hi).2 h0
  rw [if_pos hu] at e
  refine ⟨h0,e,?_⟩
  unfold Kw.upIdx
  rw [e]
  cases hx:jD v 0 with
  | none=>rfl
  | some j =>
   obtain ⟨hj,e'⟩:=er hx
   have:=((h.view.cls hj).bnd h.wf.h).1
   omega
 ·right
  obtain ⟨j,hj,hlt,e'⟩:=h.shape.ups i hi (by omega)
  have hu:(v.cls[i]).up≠1:=fun hx=>h0 ((h.up1 hi).1 hx)
  rw [if_neg hu] at e
  refine ⟨j,hj,hlt,by rw [e,e'],e'.symm,?_⟩
  unfold Kw.upIdx
  rw [e,←e']
  exact h.idx hj
theorem KS.fields0 {s:SP}{v:KV} (h:KS s v) (h0:0<v.cls.length):bL v 0=(v.cls[0]).own:=by
 rw [bL,List.getElem?_eq_getElem h0]
 rcases h.upI h0 with ⟨_,_,e⟩ | ⟨j,_,hlt,_⟩
 ·simp only [e]
 ·omega
theorem KS.fieldsS {s:SP}{v:KV} (h:KS s v){i j:Nat} (hi:i<v.cls.length) (hj:j<i) (e:Kw.upIdx v i=some j):bL v i=bL v j++(v.cls[i]).own:=by
 rw [bL,List.getElem?_eq_getElem hi]
 simp only [e,if_pos hj]
def dZ (v:KV) (t:TB):List ByteArray:=v.glob.map fun p=>tx t p.1
end Kw
namespace Kw
open Go
def sD (r:RH) (w:Int):Int × Int :=
 if bg w=1 then (8,0) else if bg w=2 then (9,0) else if bg w=3 then
  match r.clsAt (w / 4) with
  | (c,e)=>if e=0 then (iZ c,0) else (0,e)
 else (0,10)
theorem kK {s:SP}{v:KV} (h:KS s v):∀ i:Nat,i<v.cls.length->(bL v i).length<=8192*(i+1):=by
 intro i
 induction i using Nat.strongRecOn with
 | ind i ih =>
  intro hi
  have hb:(v.cls[i]).own.length<=8192:=by have:=((h.view.own hi).bnd h.wf.h).2.2.1;simpa using this
  rcases h.upI hi with ⟨h0,_,_⟩ | ⟨j,hj,hlt,_,_,e⟩
  ·subst h0;rw [h.fields0 hi];omega
  ·rw [h.fieldsS hi hlt e,List.length_append]
   have:=ih j hlt hj
   omega
end Kw
namespace Go.Proofs.YtgcoppcogllpbaaGreatDoor
open Kw
theorem mN {H:ae}{x v:Value}{t:TypeId}{fr:Nat × Nat}:aB (H.push (.cells #[x] t fr)) ⟨H.size,0,none⟩ v=H.push (.cells #[v] t fr):=by
 rw [ao];rfl
theorem Fr.late {H H2:ae} (h:Fr [] H H2){b o:Nat}{v:Value} (hb:H.size<=b):Fr [] H (aB H2 ⟨b,o,none⟩ v) :=
 ⟨Nat.le_trans h.1 (Fr.set (F:=[b]) (H:=H2) (a:=⟨b,o,none⟩) (v:=v) (by simp)).1,fun c hc _=>by rw [cy (by simp only;omega)];exact h.2 c hc (by simp)⟩
def PK (H:ae) (b:Nat) (F:az) (s:SP) (t:TB):Prop:=∃ sb tb F1 F2,F=b :: (F1++F2)∧b∉F1∧b∉F2∧co F1 F2∧b≠ap∧ap∉F2 ∧
 aV H b #[.pointer (some ⟨sb,0,none⟩),.pointer (some ⟨tb,0,none⟩)]∧eA H sb F1 s∧kx H tb F2 t
theorem PK.lt {H:ae}{b:Nat}{F:az}{s:SP}{t:TB} (h:PK H b F s t):∀ x∈F,x<H.size:=by
 obtain ⟨sb,tb,F1,F2,rfl,h1,h2,h3,k1,k2,hB,hS,hT⟩:=h
 intro x hx
 rcases List.mem_cons.1 hx with rfl | hx
 ·exact hB.lt
 ·rcases List.mem_append.1 hx with hx | hx
  ·exact hS.lt x hx
  ·exact hT.lt x hx
theorem PK.bmem {H:ae}{b:Nat}{F:az}{s:SP}{t:TB} (h:PK H b F s t):b∈F:=by obtain ⟨_,_,_,_,rfl,_⟩:=h;simp
theorem PK.kinds {H:ae}{b:Nat}{F:az}{s:SP}{t:TB} (h:PK H b F s t):bY H:=by obtain ⟨_,_,_,_,_,_,_,_,_,_,_,hS,_⟩:=h;exact hS.kinds
theorem PK.gk {H:ae}{b:Nat}{F:az}{s:SP}{t:TB} (h:PK H b F s t):ap∉F:=by
 obtain ⟨sb,tb,F1,F2,rfl,h1,h2,h3,k1,k2,hB,hS,hT⟩:=h
 simp only [List.mem_cons,List.mem_append,not_or]
 exact ⟨fun e=>k1 e.symm,hS.gk,k2⟩
theorem PK.fr {H H':ae}{b:Nat}{F G:az}{s:SP}{t:TB} (h:PK H b F s t) (hf:Fr G H H') (hd:co F G) (hg:ap∉G):PK H' b F s t:=by
 obtain ⟨sb,tb,F1,F2,rfl,h1,h2,h3,k1,k2,hB,hS,hT⟩:=h
 exact ⟨sb,tb,F1,F2,rfl,h1,h2,h3,k1,k2,hB.fr hf (hd b (by simp)),hS.fr hf (hd.mono (fun x hx=>by simp [hx]) fun _ h=>h) hg,hT.fr hf (hd.mono (fun x hx=>by simp [hx]) fun _ h=>h)⟩
theorem PK.nil {H H':ae}{b:Nat}{F:az}{s:SP}{t:TB} (h:PK H b F s t) (hf:Fr [] H H'):PK H' b F s t:=h.fr hf (co.nil_right _) (by simp)
theorem PK.wfs {H:ae}{b:Nat}{F:az}{s:SP}{t:TB} (h:PK H b F s t):WFS s:=by obtain ⟨_,_,_,_,_,_,_,_,_,_,_,hS,_⟩:=h;exact hS.wf
theorem PK.wft {H:ae}{b:Nat}{F:az}{s:SP}{t:TB} (h:PK H b F s t):WFT t:=by obtain ⟨_,_,_,_,_,_,_,_,_,_,_,_,hT⟩:=h;exact hT.wf
theorem PK.sp {H:ae}{b:Nat}{F:az}{s:SP}{t:TB} (h:PK H b F s t):∃ sb F1,aa H ⟨b,0,none⟩=some (.pointer (some ⟨sb,0,none⟩))∧eA H sb F1 s∧(∀ x∈F1,x∈F)∧b∉F1 ∧
  (∀ H' F1' s',eA H' sb F1' s'->Up F1 H F1' H'->∃ F',PK H' b F' s' t∧Up F H F' H')∧(∀ H' s',eA H' sb F1 s'->Fr F1 H H'->PK H' b F s' t):=by
 have hlt:=h.lt
 have hgl:=h.kinds.lt
 obtain ⟨sb,tb,F1,F2,rfl,h1,h2,h3,k1,k2,hB,hS,hT⟩:=h
 refine ⟨sb,F1,hB.cell 0,hS,fun x hx=>by simp [hx],h1,fun H' F1' s' hS' hu=>⟨b :: (F1'++F2),⟨sb,tb,F1',F2,rfl,fun hx=>?_,h2,fun x hx hx2=>?_,k1,k2,hB.fr hu.1 h1,hS',hT.fr hu.1 h3.symm⟩,hu.1.mono fun x hx=>by simp [hx],fun x hx=>?_⟩,fun H' s' hS' hf=>⟨sb,tb,F1,F2,rfl,h1,h2,h3,k1,k2,hB.fr hf h1,hS',hT.fr hf h3.symm⟩⟩
 ·rcases hu.2 b hx with h4 | h4
  ·exact h1 h4
  ·have:=hlt b (by simp);omega
 ·rcases hu.2 x hx with h4 | h4
  ·exact h3 x h4 hx2
  ·have:=hlt x (by simp [hx2]);omega
 ·rcases List.mem_cons.1 hx with rfl | hx
  ·exact .inl (by simp)
  ·rcases List.mem_append.1 hx with hx | hx
   ·exact (hu.2 x hx).imp (fun h4=>by simp [h4]) id
   ·exact .inl (by simp [hx])
theorem PK.tb {H:ae}{b:Nat}{F:az}{s:SP}{t:TB} (h:PK H b F s t):∃ tb F2,aa H ⟨b,1,none⟩=some (.pointer (some ⟨tb,0,none⟩))∧kx H tb F2 t∧(∀ x∈F2,x∈F)∧b∉F2 ∧
  (∀ H' F2' t',kx H' tb F2' t'->Up F2 H F2' H'->∃ F',PK H' b F' s t'∧Up F H F' H')∧(∀ H' t',kx H' tb F2 t'->Fr F2 H H'->PK H' b F s t'):=by
 have hlt:=h.lt
 have hgl:=h.kinds.lt
 obtain ⟨sb,tb,F1,F2,rfl,h1,h2,h3,k1,k2,hB,hS,hT⟩:=h
 have hgS:=hS.gk
 refine ⟨tb,F2,hB.cell 1,hT,fun x hx=>by simp [hx],h2,fun H' F2' t' hT' hu=>⟨b :: (F1++F2'),⟨sb,tb,F1,F2',rfl,h1,fun hx=>?_,fun x hx hx2=>?_,k1,fun hx=>?_,hB.fr hu.1 h2,hS.fr hu.1 h3 k2,hT'⟩,hu.1.mono fun x hx=>by simp [hx],fun x hx=>?_⟩,fun H' t' hT' hf=>⟨sb,tb,F1,F2,rfl,h1,h2,h3,k1,k2,hB.fr hf h2,hS.fr hf h3 k2,hT'⟩⟩
 ·rcases hu.2 b hx with h4 | h4
  ·exact h2 h4
  ·have:=hlt b (by simp);omega
 ·rcases hu.2 x hx2 with h4 | h4
  ·exact h3 x hx h4
  ·have:=hlt x (by simp [hx]);omega
 ·rcases hu.2 _ hx with h4 | h4
  ·exact k2 h4
  ·omega
 ·rcases List.mem_cons.1 hx with rfl | hx
  ·exact .inl (by simp)
  ·rcases List.mem_append.1 hx with hx | hx
   ·exact .inl (by simp [hx])
   ·exact (hu.2 x hx).imp (fun h4=>by simp [h4]) id
abbrev rd (b:Nat):Value:=.agg #[.pointer (some ⟨b,0,none⟩)]
section
variable {H:ae}{b:Nat}{F:az}{s:SP}{t:TB}{Q:QT}
theorem gH (hK:PK H b F s t) (h:Q (.bool true) H):ac PP Bx #[.pointer (some ⟨b,0,none⟩)] Q H:=by
 obtain ⟨sb,F1,hc,_⟩:=hK.sp
 apply y7
 unfold EF pV
 exact ⟨_,rfl,_,hc,h⟩
theorem np (hK:PK H b F s t){o i:Int} (h:∀ H',Fr [] H H'->Q (.int .i64 (kslot s.h o i)) H'):ac PP Ap #[rd b,.int .i64 o,.int .i64 i] Q H:=by
 apply vv
 unfold A4 A0 iV pV cS
 have hf:Fr [] H (H.push (.cells #[.pointer (some ⟨b,0,none⟩)] 217)):=Fr.push _ _ _
 obtain ⟨sb,F1,hc,hS,_⟩:=(hK.nil hf).sp
 refine ⟨_,(aV.new _ _ _).cell 0,_,rfl,_,hc,cB hS fun hb F2 hR _ _=>⟨_,rfl,qv hR ⟨_,_,rfl,h _ hf⟩⟩⟩
theorem lE (hK:PK H b F s t){o i:Int} (h:∀ H',Fr [] H H'->Q (.int .i64 (fO s.h o i)) H'):ac PP tD #[rd b,.int .i64 o,.int .i64 i] Q H:=by
 apply wy
 unfold CL A0 iV pV cS
 have hf:Fr [] H (H.push (.cells #[.pointer (some ⟨b,0,none⟩)] 217)):=Fr.push _ _ _
 have hK1:=hK.nil hf
 refine ⟨_,(aV.new _ _ _).cell 0,np hK1 fun H' hf'=>⟨_,rfl,gO (hK1.nil hf').kinds ?_⟩⟩
 have:=h H' (hf.trans hf')
 unfold fO iZ at this
 unfold jE
 split
 ·rename_i hk;rw [if_pos hk] at this;exact ⟨_,_,rfl,this⟩
 ·rename_i hk;rw [if_neg hk] at this;exact ⟨_,_,rfl,this⟩
theorem sK (hK:PK H b F s t){o i:Int} (h:∀ H',Fr [] H H'->Q (.int .i64 (mX s.h o i)) H'):ac PP yt #[rd b,.int .i64 o,.int .i64 i] Q H:=by
 apply vn
 unfold BK A0 iV pV cS
 have hf:Fr [] H (H.push (.cells #[.pointer (some ⟨b,0,none⟩)] 217)):=Fr.push _ _ _
 have hK1:=hK.nil hf
 refine ⟨_,(aV.new _ _ _).cell 0,np hK1 fun H' hf'=>⟨_,rfl,mh (hK1.nil hf').kinds ?_⟩⟩
 have:=h H' (hf.trans hf')
 unfold mX lg at this
 unfold jE
 split
 ·rename_i hk;rw [if_pos hk] at this;exact ⟨_,_,rfl,this⟩
 ·rename_i hk;rw [if_neg hk] at this;exact ⟨_,_,rfl,this⟩
theorem pm (hK:PK H b F s t){o i:Int} (h:∀ H',Fr [] H H'->Q (.string (g9 s.h t o i)) H'):ac PP Am #[rd b,.int .i64 o,.int .i64 i] Q H:=by
 apply xK
 unfold CP A0 iV pV sV cS
 have hf:Fr [] H (H.push (.cells #[.pointer (some ⟨b,0,none⟩)] 217)):=Fr.push _ _ _
 have hK1:=hK.nil hf
 refine ⟨_,(aV.new _ _ _).cell 0,np hK1 fun H' hf'=>⟨_,rfl,nk (hK1.nil hf').kinds ?_⟩⟩
 have hB':=(aV.new H #[.pointer (some ⟨b,0,none⟩)] 217).fr hf' (by simp)
 have:=h H' (hf.trans hf')
 unfold g9 qq at this
 unfold jE
 split
 ·rename_i hk
  rw [if_pos hk] at this
  refine ⟨_,_,rfl,?_⟩
  simp only [show ((0:Int) != 0)=false from rfl,cond_false]
  obtain ⟨tb,F2,hc,hT,_⟩:=(hK1.nil hf').tb
  refine ⟨_,hB'.cell 0,_,rfl,_,hc,nU hT ?_⟩
  unfold qI
  by_cases hlt:0<=kslot s.h o i / 4∧kslot s.h o i / 4<t.texts.length
  ·rw [dif_pos hlt]
   refine ⟨_,_,rfl,?_⟩
   have e:t.texts[(kslot s.h o i / 4).toNat]'(by omega)=tx t (kslot s.h o i / 4).toNat:=by
    unfold tx
    rw [List.getD_eq_getElem?_getD,List.getElem?_eq_getElem (by omega)];rfl
   rw [e];exact this
  ·rw [dif_neg hlt]
   refine ⟨_,_,rfl,?_⟩
   have hk':=aW (kslot s.h o i)
   have e:tx t (kslot s.h o i / 4).toNat=⟨#[]⟩:=by
    unfold tx
    rw [List.getD_eq_getElem?_getD,List.getElem?_eq_none (by omega)];rfl
   rw [e] at this;exact this
 ·rename_i hk
  rw [if_neg hk] at this
  exact ⟨_,_,rfl,this⟩
theorem hU (hK:PK H b F s t){o:Int} (h:∀ H',Fr [] H H'->Q (.int .i64 (ksize s.h o)) H'):ac PP yn #[rd b,.int .i64 o] Q H:=by
 apply vj
 unfold BJ A0 iV pV cS
 have hf:Fr [] H (H.push (.cells #[.pointer (some ⟨b,0,none⟩)] 217)):=Fr.push _ _ _
 obtain ⟨sb,F1,hc,hS,_⟩:=(hK.nil hf).sp
 refine ⟨_,(aV.new _ _ _).cell 0,_,rfl,_,hc,cB hS fun hb F2 hR _ _=>⟨_,rfl,mJ hR ⟨_,_,_,rfl,h _ hf⟩⟩⟩
theorem jc (hK:PK H b F s t){i:Int} (h:∀ H',Fr [] H H'->Q (.int .i64 (fO s.h 19 i)) H'):ac PP AL #[rd b,.int .i64 i] Q H:=by
 apply uR
 unfold Bp A0 iV pV cS
 have hf:Fr [] H (H.push (.cells #[.pointer (some ⟨b,0,none⟩)] 217)):=Fr.push _ _ _
 exact ⟨_,(aV.new _ _ _).cell 0,lE (hK.nil hf) fun H' hf'=>⟨_,rfl,h _ (hf.trans hf')⟩⟩
theorem qE (hK:PK H b F s t){o:Int} (h:∀ H',Fr [] H H'->Q (.int .i64 (if fO s.h o 1=1 then 0 else fO s.h o 1)) H'):ac PP yC #[rd b,.int .i64 o] Q H:=by
 apply vE
 unfold BT A0 iV pV cS
 have hf:Fr [] H (H.push (.cells #[.pointer (some ⟨b,0,none⟩)] 217)):=Fr.push _ _ _
 refine ⟨_,(aV.new _ _ _).cell 0,lE (hK.nil hf) fun H' hf'=>⟨_,rfl,?_⟩⟩
 have:=h _ (hf.trans hf')
 rw [aX,af]
 refine aA (fun h1=>?_) fun h1=>?_
 ·rw [if_neg h1] at this;exact this
 ·rw [if_pos (Classical.byContradiction h1)] at this;exact this
def fG (r:RH) (t:TB) (o:Int):List ByteArray:=(List.range (ksize r o).toNat).map fun i:Nat=>g9 r t o i
theorem xj (hK:PK H b F s t){o:Int} (h:∀ a l c G H',bN 1 H' a l c (aZ (fG s.h t o)) G->Fr [] H H'->(∀ x∈G,H.size<=x)->Q (.slice a l c) H'):ac PP tR #[rd b,.int .i64 o] Q H:=by
 have hs1:aH PP 73=some (1,16,some (.string (⟨#[]⟩:ByteArray))):=by kernel_rfl
 have hn0:=jz (r:=s.h) o
 have hn1:=qt hK.wfs.h o
 apply wR
 unfold BZ A0 iV wW pV sV lV cS
 have hf:Fr [] H (H.push (.cells #[.pointer (some ⟨b,0,none⟩)] 217)):=Fr.push _ _ _
 refine ⟨_,(aV.new _ _ _).cell 0,hU (hK.nil hf) fun H0 hf0=>⟨_,rfl,?_⟩⟩
 have hB0:=(aV.new H #[.pointer (some ⟨b,0,none⟩)] 217).fr hf0 (by simp)
 refine ⟨fun w H'=>∃(i:Nat) (a:Option Addr) (l' c:Nat) (G:az),w=[.slice a l' c,.int .i64 i]∧(i:Int)<=ksize s.h o∧bN 1 H' a l' c (aZ ((fG s.h t o).take i)) G∧Fr [] H0 H'∧(∀ x∈G,H0.size<=x),fun w _=>match w with
  | [_,.int _ i]=>(ksize s.h o-i).toNat
  | _=>0,⟨0,none,0,0,[],rfl,hn0,by simpa [aZ] using bN.nil 1 H0,Fr.refl _ _,by simp⟩,?_⟩
 rintro w H1 ⟨i,a1,l1,c1,G,rfl,hi,ho,hf1,hG⟩ _
 have hlen:(fG s.h t o).length=(ksize s.h o).toNat:=by simp [fG]
 have hl1:l1=i:=by have:=ho.len;simp only [aZ,List.length_map,List.length_take] at this;omega
 have hF1:Fr [] H H1:=(hf.trans hf0).trans hf1
 refine ⟨_,_,_,_,rfl,?_⟩
 rw [af]
 refine aA (fun hlt=>?_) fun hlt=>?_
 ·have htk:(fG s.h t o).take (i+1)=(fG s.h t o).take i++[g9 s.h t o i]:=by
   rw [List.take_add_one,List.getElem?_eq_getElem (by omega)];simp [fG]
  have e:IntKind.wrap .i64 ((i:Int)+1)=((i+1:Nat):Int):=by rw [ah (by omega) (by omega)];omega
  refine ⟨_,(hB0.fr hf1 (by simp)).cell 0,pm (hK.nil hF1) fun H2 hf2=>⟨_,rfl,?_⟩⟩
  refine bI hs1 rfl (by kernel_rfl) (ho.fr hf2 (by simp)) rfl (by simp [dB]) (by omega) (by decide) (by decide) fun a' c' G2 H3 g1 g2 g3=>⟨_,_,_,rfl,?_⟩
  have hfr:=Up.fresh (hf1.trans hf2) g2 hG
  rw [e]
  refine ⟨⟨i+1,a',l1+1,c',G2,rfl,by omega,?_,hfr.1,hfr.2⟩,by simp;omega⟩
  rw [htk,dT];exact g1
 ·rw [List.take_of_length_le (by omega)] at ho
  exact h _ _ _ _ H1 ho hF1 fun x hx=>Nat.le_trans (hf.trans hf0).1 (hG x hx)
end
section
variable {H:ae}{b:Nat}{F:az}{s:SP}{t:TB}{v:KV}{Q:QT}
theorem vH (hK:PK H b F s t) (hv:KAllW s t v){o:Int} (h:∀ H',Fr [] H H'->Q (.bool (jD v o).isSome) H'):ac PP zQ #[rd b,.int .i64 o] Q H:=by
 have hm1:=hv.ks.shape.many1
 apply xk
 unfold Ck A0 iV wW pV cS
 have hf:Fr [] H (H.push (.cells #[.pointer (some ⟨b,0,none⟩)] 217)):=Fr.push _ _ _
 have hB:=aV.new H #[.pointer (some ⟨b,0,none⟩)] 217
 refine ⟨_,hB.cell 0,sK (hK.nil hf) fun H1 hf1=>⟨_,rfl,_,(hB.fr hf1 (by simp)).cell 0,?_⟩⟩
 have hF1:=hf.trans hf1
 refine jc (hK.nil hF1) fun H2 hf2=>⟨_,rfl,?_⟩
 rw [hv.ks.root0]
 have hF2:=hF1.trans hf2
 have hB2:=(hB.fr hf1 (by simp)).fr hf2 (by simp)
 cases hp:jD v o with
 | some i =>
  rw [hp] at h
  obtain ⟨hi,he⟩:=er hp
  have hb:=(mH hv.ks hi).1
  have hn:mX s.h o 6=(i:Int)+1:=by rw [←he];exact hv.ks.num hi
  rw [hn,af,if_pos (by omega),af,if_pos (by omega)]
  refine ⟨_,hB2.cell 0,hU (hK.nil hF2) fun H3 hf3=>⟨_,rfl,?_⟩⟩
  rw [hv.ks.size0,af,if_pos (by omega)]
  refine ⟨_,(hB2.fr hf3 (by simp)).cell 0,lE (hK.nil (hF2.trans hf3)) fun H4 hf4=>⟨_,rfl,?_⟩⟩
  have e:IntKind.wrap .i64 ((i:Int)+1-1)=(i:Nat):=by rw [ah (by omega) (by omega)];omega
  rw [e,(hv.ks.clsAt hi).2,he]
  have:=h H4 ((hF2.trans hf3).trans hf4)
  simpa using this
 | none =>
  rw [hp] at h
  rw [af]
  refine aA (fun h1=>?_) fun h1=>h _ hF2
  rw [af]
  refine aA (fun h2=>?_) fun h2=>h _ hF2
  refine ⟨_,hB2.cell 0,hU (hK.nil hF2) fun H3 hf3=>⟨_,rfl,?_⟩⟩
  rw [hv.ks.size0,af]
  refine aA (fun h3=>?_) fun h3=>h _ (hF2.trans hf3)
  refine ⟨_,(hB2.fr hf3 (by simp)).cell 0,lE (hK.nil (hF2.trans hf3)) fun H4 hf4=>⟨_,rfl,?_⟩⟩
  have hi:(mX s.h o 6-1).toNat<v.cls.length:=by omega
  have e:IntKind.wrap .i64 (mX s.h o 6-1)=((mX s.h o 6-1).toNat:Nat):=by rw [ah (by omega) (by omega)];omega
  have hne:=oe hp _ hi
  rw [e,(hv.ks.clsAt hi).2]
  have:=h H4 ((hF2.trans hf3).trans hf4)
  rw [aU,decide_eq_false hne];exact this
theorem ta (hK:PK H b F s t) (hv:KAllW s t v){o:Int} (h1:∀ i,jD v o=some i->∀ H',Fr [] H H'->Q (.tuple #[rd b,.int .i64 0]) H') (h2:jD v o=none->∀ H',Fr [] H H'->Q (.tuple #[.agg #[.pointer none],.int .i64 130]) H'):ac PP yS #[.pointer (some ⟨b,0,none⟩),.int .i64 o] Q H:=by
 apply vT
 unfold Cd A0 iV pV cS;dsimp only [shH]
 have hf:Fr [] H (H.push (.cells #[.pointer none] 217)):=Fr.push _ _ _
 have hB:=aV.new H #[.pointer none] 217
 have hK1:=hK.nil hf
 generalize (H.push (.cells #[.pointer none] 217))=H1 at hf hB hK1 ⊢
 refine gH hK1 ⟨_,rfl,?_⟩
 simp only [Bool.not_true,cond_false]
 rw [mN]
 have hf1:Fr [] H1 (H1.push (.cells #[.pointer (some ⟨b,0,none⟩)] 217)):=Fr.push _ _ _
 have hB1:=aV.new H1 #[.pointer (some ⟨b,0,none⟩)] 217
 refine ⟨av.2 (by simp),_,hB1.cell 0,vH (hK1.nil hf1) hv fun H2 hf2=>⟨_,rfl,?_⟩⟩
 have hB2:=(hB.fr hf1 (by simp)).fr hf2 (by simp)
 have hF2:=(hf.trans hf1).trans hf2
 have hset:∀ x,Fr [] H (aB H2 ⟨H.size,0,none⟩ x):=fun x=>Fr.late hF2 (Nat.le_refl _)
 cases hp:jD v o with
 | none =>
  simp only [Option.isSome_none,Bool.not_false,cond_true]
  exact ⟨hB2.wr (by simp),_,(hB2.set 0 _).cell 0,h2 hp _ (hset _)⟩
 | some i =>
  simp only [Option.isSome_some,Bool.not_true,cond_false]
  exact ⟨_,(hB1.fr hf2 (by simp)).cell 0,hB2.wr (by simp),_,(hB2.set 0 _).cell 0,h1 i hp _ (hset _)⟩
theorem B3 (hK:PK H b F s t) (hv:KAllW s t v){o:Int} (h:∀ H',Fr [] H H'->Q (match jD v o with | some i=>.tuple #[.int .i64 ((i:Int)+1),.int .i64 0] | none=>.tuple #[.int .i64 0,.int .i64 130]) H'):ac PP AG #[.pointer (some ⟨b,0,none⟩),.int .i64 o] Q H:=by
 apply uE
 unfold Dd A0 iV pV cS;dsimp only [shH]
 refine ta hK hv (fun i hp H1 hf=>?_) fun hp H1 hf=>?_
 ·refine ⟨_,_,rfl,av.2 (by simp),?_⟩
  rw [hp] at h
  simp only [show ((0:Int) != 0)=false from rfl,cond_false]
  rw [mN]
  have hf1:Fr [] H1 (H1.push (.cells #[.pointer (some ⟨b,0,none⟩)] 217)):=Fr.push _ _ _
  obtain ⟨hi,he⟩:=er hp
  refine ⟨_,(aV.new H1 _ _).cell 0,sK (hK.nil (hf.trans hf1)) fun H2 hf2=>⟨_,rfl,?_⟩⟩
  have hn:mX s.h o 6=(i:Int)+1:=by rw [←he];exact hv.ks.num hi
  rw [hn];exact h _ ((hf.trans hf1).trans hf2)
 ·refine ⟨_,_,rfl,av.2 (by simp),?_⟩
  rw [hp] at h
  simp only [show ((130:Int) != 0)=true from rfl,cond_true]
  rw [mN]
  exact h _ hf.more
theorem tr (hK:PK H b F s t) (hv:KAllW s t v){o:Int} (h:∀ H',Fr [] H H'->Q (match jD v o with | some i=>.tuple #[.int .i64 (dn v i),.int .i64 0] | none=>.tuple #[.int .i64 0,.int .i64 130]) H'):ac PP zU #[.pointer (some ⟨b,0,none⟩),.int .i64 o] Q H:=by
 apply xq
 unfold Cq A0 iV pV cS;dsimp only [shH]
 refine ta hK hv (fun i hp H1 hf=>?_) fun hp H1 hf=>?_
 ·refine ⟨_,_,rfl,av.2 (by simp),?_⟩
  rw [hp] at h
  simp only [show ((0:Int) != 0)=false from rfl,cond_false]
  rw [mN]
  have hf1:Fr [] H1 (H1.push (.cells #[.pointer (some ⟨b,0,none⟩)] 217)):=Fr.push _ _ _
  obtain ⟨hi,he⟩:=er hp
  refine ⟨_,(aV.new H1 _ _).cell 0,qE (hK.nil (hf.trans hf1)) fun H2 hf2=>⟨_,rfl,?_⟩⟩
  have hn:fO s.h o 1=(v.cls[i]).up:=by rw [←he];exact hv.ks.up hi
  have:=h _ ((hf.trans hf1).trans hf2)
  simp only [dn,List.getElem?_eq_getElem hi] at this
  rw [hn];exact this
 ·refine ⟨_,_,rfl,av.2 (by simp),?_⟩
  rw [hp] at h
  simp only [show ((130:Int) != 0)=true from rfl,cond_true]
  rw [mN]
  exact h _ hf.more
theorem ov (hK:PK H b F s t) (hv:KS s v) (h:∀ H',Fr [] H H'->Q (.int .i64 (v.cls.length:Int)) H'):ac PP ug #[.pointer (some ⟨b,0,none⟩)] Q H:=by
 apply xO
 unfold CW A0 iV pV cS;dsimp only [shH]
 refine gH hK ⟨_,rfl,?_⟩
 simp only [Bool.not_true,cond_false]
 rw [mN]
 have hf1:Fr [] H (H.push (.cells #[.pointer (some ⟨b,0,none⟩)] 217)):=Fr.push _ _ _
 have hB:=aV.new H #[.pointer (some ⟨b,0,none⟩)] 217
 refine ⟨av.2 (by simp),_,hB.cell 0,_,hB.cell 0,jc (hK.nil hf1) fun H2 hf2=>⟨_,rfl,⟨⟨(hB.fr hf2 (by simp)).cell 0,trivial⟩,trivial⟩,?_⟩⟩
 rw [hv.root0]
 refine hU (hK.nil (hf1.trans hf2)) fun H3 hf3=>⟨_,rfl,trivial,?_⟩
 rw [hv.size0];exact h _ ((hf1.trans hf2).trans hf3)
theorem xv (hK:PK H b F s t) (hv:KAllW s t v) (h:∀ H',Fr [] H H'->Q (.int .i64 (v.cls.length:Int)) H'):ac PP ug #[.pointer (some ⟨b,0,none⟩)] Q H:=ov hK hv.ks h
theorem qY (hK:PK H b F s t) (hv:KAllW s t v){name:ByteArray} (h:∀ H',Fr [] H H'->Q (.tuple #[.int .i64 (dH v t name).1,.int .i64 (dH v t name).2]) H'):ac PP Ad #[.pointer (some ⟨b,0,none⟩),.string name] Q H:=by
 have hm1:=hv.ks.shape.many1
 apply vi
 unfold DE A0 iV wW pV sV cS;dsimp only [shH]
 refine gH hK ⟨_,rfl,?_⟩
 simp only [Bool.not_true,cond_false]
 rw [mN]
 have hf1:Fr [] H (H.push (.cells #[.pointer (some ⟨b,0,none⟩)] 217)):=Fr.push _ _ _
 have hB:=aV.new H #[.pointer (some ⟨b,0,none⟩)] 217
 refine ⟨av.2 (by simp),_,hB.cell 0,jc (hK.nil hf1) fun H2 hf2=>⟨_,rfl,?_⟩⟩
 rw [hv.ks.root0]
 have hF2:=hf1.trans hf2
 have hB2:=hB.fr hf2 (by simp)
 refine ⟨_,hB2.cell 0,hU (hK.nil hF2) fun H3 hf3=>⟨_,rfl,?_⟩⟩
 rw [hv.ks.size0]
 have hF3:=hF2.trans hf3
 have hB3:=hB2.fr hf3 (by simp)
 refine ⟨fun w H'=>∃ i:Nat,w=[.int .i64 i]∧i<=v.cls.length∧Fr [] H3 H'∧∀ j (hj:j<v.cls.length),j<i->tx t (v.cls[j]).name≠name,fun w _=>match w with
  | [.int _ i]=>(v.cls.length-i).toNat
  | _=>0,⟨0,rfl,Nat.zero_le _,Fr.refl _ _,fun j _ hj=>by omega⟩,?_⟩
 rintro w H4 ⟨i,rfl,hi,hf4,hno⟩ _
 have hF4:=hF3.trans hf4
 have hB4:=hB3.fr hf4 (by simp)
 refine ⟨_,rfl,?_⟩
 rw [af]
 refine aA (fun hlt=>?_) fun hlt=>?_
 ·have hlt':i<v.cls.length:=by omega
  refine ⟨_,hB4.cell 0,lE (hK.nil hF4) fun H5 hf5=>⟨_,rfl,_,(hB4.fr hf5 (by simp)).cell 0,?_⟩⟩
  rw [(hv.ks.clsAt hlt').2]
  refine pm (hK.nil (hF4.trans hf5)) fun H6 hf6=>⟨_,rfl,?_⟩
  rw [hv.name hlt',fj,af]
  refine aA (fun he=>?_) fun he=>?_
  ·have hfd:dH v t name=((v.cls[i]).oop,0):=by
    unfold dH
    have:v.cls.findIdx? (fun c=>decide (tx t c.name=name))=some i:=by
     rw [List.findIdx?_eq_some_iff_getElem]
     exact ⟨hlt',by simpa using he,fun j hj=>by simpa using hno j (by omega) hj⟩
    rw [this]
    simp [hlt']
   rw [hfd] at h
   exact h _ ((hF4.trans hf5).trans hf6)
  ·have e:IntKind.wrap .i64 ((i:Int)+1)=((i+1:Nat):Int):=by rw [ah (by omega) (by omega)];omega
   rw [e]
   refine ⟨⟨i+1,rfl,by omega,(hf4.trans hf5).trans hf6,fun j hj hji=>?_⟩,by simp;omega⟩
   rcases Nat.lt_or_ge j i with h1 | h1
   ·exact hno j hj h1
   ·have:j=i:=by omega
    subst this;exact he
 ·have hfd:dH v t name=(0,130):=by
   unfold dH
   have:v.cls.findIdx? (fun c=>decide (tx t c.name=name))=none:=by
    rw [List.findIdx?_eq_none_iff]
    intro c hc
    obtain ⟨j,hj,rfl⟩:=hv.ks.view.idx hc
    simpa using hno j hj (by omega)
   rw [this]
  rw [hfd] at h
  exact h _ hF4
end
section
variable {H:ae}{b:Nat}{F:az}{s:SP}{t:TB}{v:KV}{Q:QT}
theorem nf (hK:PK H b F s t){o:Int} (h:∀ a l c G H',bN 1 H' a l c (aj (kwords s.h o)) G->Fr [] H H'->(∀ x∈G,H.size<=x)->Q (.slice a l c) H'):ac PP AJ #[rd b,.int .i64 o] Q H:=by
 have hs1:aH PP 30=some (1,8,some (.int .i64 0)):=by kernel_rfl
 have hn0:=jz (r:=s.h) o
 have hn1:=qt hK.wfs.h o
 apply uL
 unfold Dg A0 iV wW pV lV cS
 have hf:Fr [] H (H.push (.cells #[.pointer (some ⟨b,0,none⟩)] 217)):=Fr.push _ _ _
 refine ⟨_,(aV.new _ _ _).cell 0,hU (hK.nil hf) fun H0 hf0=>⟨_,rfl,?_⟩⟩
 have hB0:=(aV.new H #[.pointer (some ⟨b,0,none⟩)] 217).fr hf0 (by simp)
 refine ⟨fun w H'=>∃(i:Nat) (a:Option Addr) (l' c:Nat) (G:az),w=[.slice a l' c,.int .i64 i]∧(i:Int)<=ksize s.h o∧bN 1 H' a l' c (aj ((kwords s.h o).take i)) G∧Fr [] H0 H'∧(∀ x∈G,H0.size<=x),fun w _=>match w with
  | [_,.int _ i]=>(ksize s.h o-i).toNat
  | _=>0,⟨0,none,0,0,[],rfl,hn0,by simpa [aj] using bN.nil 1 H0,Fr.refl _ _,by simp⟩,?_⟩
 rintro w H1 ⟨i,a1,l1,c1,G,rfl,hi,ho,hf1,hG⟩ _
 have hlen:(kwords s.h o).length=(ksize s.h o).toNat:=by simp [kwords]
 have hl1:l1=i:=by have:=ho.len;simp only [aj,List.length_map,List.length_take] at this;omega
 have hF1:Fr [] H H1:=(hf.trans hf0).trans hf1
 refine ⟨_,_,_,_,rfl,?_⟩
 rw [af]
 refine aA (fun hlt=>?_) fun hlt=>?_
 ·have htk:(kwords s.h o).take (i+1)=(kwords s.h o).take i++[kslot s.h o i]:=by
   rw [List.take_add_one,List.getElem?_eq_getElem (by omega)];simp [kwords]
  have e:IntKind.wrap .i64 ((i:Int)+1)=((i+1:Nat):Int):=by rw [ah (by omega) (by omega)];omega
  refine ⟨_,(hB0.fr hf1 (by simp)).cell 0,np (hK.nil hF1) fun H2 hf2=>⟨_,rfl,?_⟩⟩
  refine bI hs1 rfl (by kernel_rfl) (ho.fr hf2 (by simp)) rfl (by simp [dB]) (by omega) (by decide) (by decide) fun a' c' G2 H3 g1 g2 g3=>⟨_,_,_,rfl,?_⟩
  have hfr:=Up.fresh (hf1.trans hf2) g2 hG
  rw [e]
  refine ⟨⟨i+1,a',l1+1,c',G2,rfl,by omega,?_,hfr.1,hfr.2⟩,by simp;omega⟩
  rw [htk,bO];exact g1
 ·rw [List.take_of_length_le (by omega)] at ho
  exact h _ _ _ _ H1 ho hF1 fun x hx=>Nat.le_trans (hf.trans hf0).1 (hG x hx)
theorem rf (hK:PK H b F s t) (hv:KAllW s t v) (h:∀ a l c G H',bN 1 H' a l c (aZ (dZ v t)) G->Fr [] H H'->(∀ x∈G,H.size<=x)->Q (.slice a l c) H'):ac PP z6 #[.pointer (some ⟨b,0,none⟩)] Q H:=by
 have hs1:aH PP 73=some (1,16,some (.string (⟨#[]⟩:ByteArray))):=by kernel_rfl
 have hg:=hv.ks.shape.globs
 apply ve
 unfold DA A0 iV wW pV sV lV cS;dsimp only [shH]
 refine gH hK ⟨_,rfl,?_⟩
 simp only [Bool.not_true,cond_false]
 rw [mN]
 have hf1:Fr [] H (H.push (.cells #[.pointer (some ⟨b,0,none⟩)] 217)):=Fr.push _ _ _
 have hB:=aV.new H #[.pointer (some ⟨b,0,none⟩)] 217
 refine ⟨av.2 (by simp),_,hB.cell 0,jc (hK.nil hf1) fun H2 hf2=>⟨_,rfl,?_⟩⟩
 rw [hv.ks.root1]
 have hF2:=hf1.trans hf2
 have hB2:=hB.fr hf2 (by simp)
 refine ⟨_,hB2.cell 0,hU (hK.nil hF2) fun H0 hf0=>⟨_,rfl,?_⟩⟩
 rw [hv.ks.size1]
 have hF0:=hF2.trans hf0
 have hB0:=hB2.fr hf0 (by simp)
 have ed:IntKind.wrap .i64 (Int.tdiv (2*(v.glob.length:Int)) 2)=v.glob.length:=by
  rw [show Int.tdiv (2*(v.glob.length:Int)) 2=v.glob.length by rw [Int.tdiv_eq_ediv_of_nonneg (by omega)];omega]
  exact ah (by omega) (by omega)
 have hlen:(dZ v t).length=v.glob.length:=by simp [dZ]
 refine ⟨fun w H'=>∃(i:Nat) (a:Option Addr) (l' c:Nat) (G:az),w=[.slice a l' c,.int .i64 i]∧i<=v.glob.length∧bN 1 H' a l' c (aZ ((dZ v t).take i)) G∧Fr [] H0 H'∧(∀ x∈G,H0.size<=x),fun w _=>match w with
  | [_,.int _ i]=>(v.glob.length-i).toNat
  | _=>0,⟨0,none,0,0,[],rfl,Nat.zero_le _,by simpa [aZ] using bN.nil 1 H0,Fr.refl _ _,by simp⟩,?_⟩
 rintro w H1 ⟨i,a1,l1,c1,G,rfl,hi,ho,hf3,hG⟩ _
 have hl1:l1=i:=by have:=ho.len;simp only [aZ,List.length_map,List.length_take] at this;omega
 have hF1:Fr [] H H1:=hF0.trans hf3
 refine ⟨_,_,_,_,rfl,?_⟩
 rw [ed,af]
 refine aA (fun hlt=>?_) fun hlt=>?_
 ·have hlt':i<v.glob.length:=by omega
  have htk:(dZ v t).take (i+1)=(dZ v t).take i++[tx t v.glob[i].1]:=by
   rw [List.take_add_one,List.getElem?_eq_getElem (by omega)];simp [dZ]
  have e:IntKind.wrap .i64 ((i:Int)+1)=((i+1:Nat):Int):=by rw [ah (by omega) (by omega)];omega
  have e2:IntKind.wrap .i64 (2*(i:Int))=((2*i:Nat):Int):=by rw [ah (by omega) (by omega)];omega
  rw [e2]
  refine ⟨_,(hB0.fr hf3 (by simp)).cell 0,pm (hK.nil hF1) fun H2 hf4=>⟨_,rfl,?_⟩⟩
  rw [hv.gname hlt']
  refine bI hs1 rfl (by kernel_rfl) (ho.fr hf4 (by simp)) rfl (by simp [dB]) (by omega) (by decide) (by decide) fun a' c' G2 H3 g1 g2 g3=>⟨_,_,_,rfl,?_⟩
  have hfr:=Up.fresh (hf3.trans hf4) g2 hG
  rw [e]
  refine ⟨⟨i+1,a',l1+1,c',G2,rfl,by omega,?_,hfr.1,hfr.2⟩,by simp;omega⟩
  rw [htk,dT];exact g1
 ·rw [List.take_of_length_le (by omega)] at ho
  exact h _ _ _ _ H1 ho hF1 fun x hx=>Nat.le_trans hF0.1 (hG x hx)
theorem DV (hK:PK H b F s t) (hv:KAllW s t v){w:Int} (h:Q (.tuple #[.int .i64 (sD s.h w).1,.int .i64 (sD s.h w).2]) H):ac PP yV #[.pointer (some ⟨b,0,none⟩),.int .i64 w] Q H:=by
 apply vX
 unfold Ci iV pV cS
 unfold sD at h
 refine gH hK ⟨_,rfl,?_⟩
 simp only [Bool.not_true,cond_false]
 refine ie hK.kinds ⟨_,rfl,?_⟩
 rw [aU,aU,aU,af]
 refine aA (fun h1=>?_) fun h1=>?_
 ·rw [if_pos h1] at h;exact h
 rw [if_neg h1] at h
 rw [af]
 refine aA (fun h2=>?_) fun h2=>?_
 ·rw [if_pos h2] at h;exact h
 rw [if_neg h2] at h
 rw [af]
 refine aA (fun h3=>?_) fun h3=>?_
 ·rw [if_pos h3] at h
  refine gO hK.kinds ?_
  unfold jE
  rw [if_pos h3]
  obtain ⟨sb,F1,hc,hS,_⟩:=hK.sp
  refine ⟨_,_,rfl,_,rfl,_,hc,cB hS fun hb F2 hR _ _=>⟨_,rfl,iy hR ?_⟩⟩
  unfold RH.clsAt at h ⊢
  cases ho:al s.h.objs (w / 4) with
  | none=>rw [ho] at h;exact ⟨_,_,rfl,h⟩
  | some x =>
   rw [ho] at h
   refine ⟨_,_,rfl,?_⟩
   have hc:=hv.ks.gc x (au ho).1
   simp only [show ((0:Int) != 0)=false from rfl,cond_false]
   refine gO hK.kinds ?_
   unfold jE
   rw [if_pos hc]
   refine ⟨_,_,rfl,?_⟩
   simp only [iZ,if_pos hc] at h
   exact h
 ·rw [if_neg h3] at h;exact h
end
section
variable {H:ae}{b:Nat}{F:az}{s:SP}{t:TB}{v:KV}{Q:QT}
theorem oW (hv:KAllW s t v){i:Nat} (hi:i<v.cls.length):fG s.h t (v.cls[i]).ownA=(v.cls[i]).own.map (tx t):=by
 unfold fG
 rw [hv.ks.ownL hi,Int.toNat_natCast]
 apply List.ext_getElem (by simp)
 intro j h1 h2
 simp only [List.getElem_map,List.getElem_range]
 exact hv.ownT hi (by simpa using h2)
theorem td (hv:KAllW s t v):∀ (i:Nat){H:ae}{Q:QT} (hK:PK H b F s t) (hi:i<v.cls.length) (h:∀ a l c G H',bN 1 H' a l c (aZ ((bL v i).map (tx t))) G->Fr [] H H'->(∀ x∈G,H.size<=x)->Q (.slice a l c) H'),ac PP tG #[rd b,.int .i64 (v.cls[i]).oop] Q H:=by
 intro i
 induction i using Nat.strongRecOn with
 | ind i ih =>
  intro H Q hK hi h
  have hs1:aH PP 73=some (1,16,some (.string (⟨#[]⟩:ByteArray))):=by kernel_rfl
  have hm1:=hv.ks.shape.many1
  have hb:=mH hv.ks hi
  have hfl:=kK hv.ks i hi
  apply qA
  unfold y6 A0 iV pV lV cS
  rw [aU,af,if_neg (by omega)]
  have hf:Fr [] H (H.push (.cells #[.pointer (some ⟨b,0,none⟩)] 217)):=Fr.push _ _ _
  have hB:=aV.new H #[.pointer (some ⟨b,0,none⟩)] 217
  refine ⟨_,hB.cell 0,_,hB.cell 0,_,hB.cell 0,_,hB.cell 0,qE (hK.nil hf) fun H1 hf1=>⟨_,rfl,?_⟩⟩
  have hB1:=hB.fr hf1 (by simp)
  have hF1:=hf.trans hf1
  refine ⟨⟨⟨hB1.cell 0,trivial⟩,⟨hB1.cell 0,trivial⟩,⟨hB1.cell 0,trivial⟩,trivial⟩,?_⟩
  have es:(if fO s.h (v.cls[i]).oop 1=1 then 0 else fO s.h (v.cls[i]).oop 1)=dn v i:=by
   rw [hv.ks.up hi];unfold dn;rw [List.getElem?_eq_getElem hi]
  rw [es]
  have fin:∀ (l:List Nat) (hl:bL v i=l++(v.cls[i]).own) (a:Option Addr) (n c:Nat) (G:az) (H2:ae),bN 1 H2 a n c (aZ (l.map (tx t))) G->Fr [] H1 H2->(∀ x∈G,H1.size<=x) ->
    ∃ a10 l10 c10,Value.slice a n c=.slice a10 l10 c10∧((aa H2 ⟨H.size,0,none⟩=some (.pointer (some ⟨b,0,none⟩))∧True)∧((aa H2 ⟨H.size,0,none⟩=some (.pointer (some ⟨b,0,none⟩))∧True)∧True))∧ac PP tD #[rd b,.int .i64 (v.cls[i]).oop,.int .i64 2] (fun v11 H3=>∃ n12:Int,v11=.int .i64 n12∧((aa H3 ⟨H.size,0,none⟩=some (.pointer (some ⟨b,0,none⟩))∧True)∧True)∧ac PP tR #[rd b,.int .i64 n12] (fun v13 H4=>∃ a14:Option Addr,∃ l14:Nat,∃ c14:Nat,v13=.slice a14 l14 c14∧True∧aI PP (Builtin.append_ #[73,73] 73 #[.slice a10 l10 c10,.slice a14 l14 c14]) (fun v15 H5=>∃ a16:Option Addr,∃ l16:Nat,∃ c16:Nat,v15=.slice a16 l16 c16∧True∧Q (.slice a16 l16 c16) H5) H4) H3) H2:=by
   intro l hl a n c G H2 ho hf2 hG
   have hB2:=hB1.fr hf2 (by simp)
   refine ⟨_,_,_,rfl,⟨⟨hB2.cell 0,trivial⟩,⟨hB2.cell 0,trivial⟩,trivial⟩,lE (hK.nil (hF1.trans hf2)) fun H3 hf3=>⟨_,rfl,⟨⟨(hB2.fr hf3 (by simp)).cell 0,trivial⟩,trivial⟩,?_⟩⟩
   rw [hv.ks.ownO hi]
   refine xj (hK.nil ((hF1.trans hf2).trans hf3)) fun a3 l3 c3 G3 H4 ho3 hf4 hG3=>⟨_,_,_,rfl,trivial,?_⟩
   rw [oW hv hi] at ho3
   have hlen:n+l3<=8192*(i+1):=by
    have h1:=ho.len
    have h2:=ho3.len
    rw [hl,List.length_append] at hfl
    simp only [aZ,List.length_map] at h1 h2
    omega
   refine cR hs1 rfl (by kernel_rfl) (ho.fr (hf3.trans hf4) (by simp)) ho3.rd ri (by omega) (by decide) (by decide) fun a' c' G4 H5 g1 g2 g3=>⟨_,_,_,rfl,trivial,?_⟩
   have hfr:=Up.fresh ((hf2.trans hf3).trans hf4) g2 hG
   refine h _ _ _ G4 H5 ?_ (hF1.trans hfr.1) fun x hx=>Nat.le_trans hF1.1 (hfr.2 x hx)
   rw [hl,List.map_append,dT];exact g1
  rcases hv.ks.upI hi with ⟨h0,e0,_⟩ | ⟨j,hj,hlt,e0,_,e⟩
  ·rw [e0]
   show ac PP tG #[rd b,.int .i64 0] _ H1
   apply qA
   unfold y6 A0 iV pV lV cS
   simp only [show ((0:Int) == 0)=true from rfl,cond_true]
   subst h0
   exact fin [] (by rw [hv.ks.fields0 hi];rfl) none 0 0 [] _ (by simpa [aZ] using bN.nil 1 _) (Fr.push _ _ _) (by simp)
  ·rw [e0]
   exact ih j hlt (hK.nil hF1) hj fun a n c G H2 ho hf2 hG=>fin (bL v j) (hv.ks.fieldsS hi hlt e) a n c G H2 ho hf2 hG
end
end Go.Proofs.YtgcoppcogllpbaaGreatDoor
namespace Kw
open Go
def gB (s:ByteArray) (i:Nat):Nat:=(s[i]?.getD 0).toNat
theorem uS {s:ByteArray}{i:Nat}{u:UInt8} (h:s[i]?=some u):gB s i=u.toNat:=by unfold gB;rw [h];rfl
def cJ (n:Nat):Prop:=(97<=n∧n<=122)∨(65<=n∧n<=90)∨(48<=n∧n<=57)
instance (n:Nat):Decidable (cJ n):=inferInstanceAs (Decidable (_∨_∨_))
def fD (lo hi:Nat) (s:ByteArray):Prop:=1<=s.size∧s.size<=32∧lo<=gB s 0∧gB s 0<=hi∧∀ i,i<s.size->cJ (gB s i)
noncomputable instance (lo hi:Nat) (s:ByteArray):Decidable (fD lo hi s):=Classical.propDecidable _
def tW (s:ByteArray):Prop:=s=⟨#[115,101,108,102]⟩∨s=⟨#[115,117,112,101,114]⟩∨s=⟨#[110,105,108]⟩∨s=⟨#[116,114,117,101]⟩∨s=⟨#[102,97,108,115,101]⟩
instance (s:ByteArray):Decidable (tW s):=inferInstanceAs (Decidable (_∨_))
def eI (s:ByteArray):Prop:=¬ tW s∧fD 97 122 s
noncomputable instance (s:ByteArray):Decidable (eI s):=Classical.propDecidable _
noncomputable instance memBA (s:ByteArray) (l:List ByteArray):Decidable (s∈l):=Classical.propDecidable _
noncomputable def jW (inh pre:List ByteArray):List ByteArray->Int
 | []=>0
 | s :: l=>if ¬ eI s then 133 else if s∈pre then 134 else if s∈inh then 135 else jW inh (pre++[s]) l
def gz (v:KV) (t:TB) (name:ByteArray):Prop:=(dH v t name).2=0∨name∈dZ v t
noncomputable instance (v:KV) (t:TB) (name:ByteArray):Decidable (gz v t name):=Classical.propDecidable _
noncomputable def iU (v:KV) (t:TB) (name sup:ByteArray) (own:List ByteArray):Int × Int :=
 if ¬ fD 65 90 name then (0,133)
 else if gz v t name then (0,131)
 else if (dH v t sup).2≠0 then (0,(dH v t sup).2)
 else match jD v (dH v t sup).1 with
  | none=>(0,130)
  | some j=>if 1<=j∧j<14 then (0,132)
   else if jW ((bL v j).map (tx t)) [] own≠0 then (0,jW ((bL v j).map (tx t)) [] own)
   else if 32<(bL v j).length+own.length then (0,137)
   else if 256<=v.cls.length then (0,138)
   else ((dH v t sup).1,0)
theorem fX (v:KV) (t:TB) (name:ByteArray):(dH v t name=(0,130)∧∀ c∈v.cls,tx t c.name≠name)∨∃ i,∃ hi:i<v.cls.length,dH v t name=((v.cls[i]).oop,0)∧tx t (v.cls[i]).name=name:=by
 unfold dH
 cases hx:v.cls.findIdx? (fun c=>decide (tx t c.name=name)) with
 | none =>
  left
  rw [List.findIdx?_eq_none_iff] at hx
  exact ⟨rfl,fun c hc=>by simpa using hx c hc⟩
 | some i =>
  right
  rw [List.findIdx?_eq_some_iff_getElem] at hx
  obtain ⟨hi,h1,_⟩:=hx
  exact ⟨i,hi,by simp [hi],by simpa using h1⟩
noncomputable def bf (s:SP) (v:KV) (t:TB) (name sup:ByteArray) (own:List ByteArray):(Int × Int) × SP × TB :=
 if (iU v t name sup own).2≠0 then ((0,(iU v t name sup own).2),s,t) else bn s t v.clsW name (iU v t name sup own).1 own
theorem wE {s:SP}{v:KV}{t:TB} (hv:KAllW s t v){name sup:ByteArray}{own:List ByteArray} (h:(iU v t name sup own).2=0) :
  ∃ j,∃ hj:j<v.cls.length,(iU v t name sup own).1=(v.cls[j]).oop∧v.cls.length<256∧(∀ c∈v.cls,tx t c.name≠name)∧dH v t sup=((v.cls[j]).oop,0)∧jD v (v.cls[j]).oop=some j:=by
 unfold iU at h ⊢
 split at h
 ·cases h
 rename_i h1
 split at h
 ·cases h
 rename_i h2
 split at h
 ·rename_i h3;exact absurd h h3
 rename_i h3
 rw [if_neg h1,if_neg h2,if_neg h3]
 rcases fX v t sup with ⟨e,_⟩ | ⟨j,hj,e,_⟩
 ·rw [e] at h3;simp at h3
 rw [e] at h ⊢
 have hp:=hv.ks.idx hj
 simp only [hp] at h ⊢
 split at h
 ·cases h
 rename_i h4
 split at h
 ·rename_i h5;exact absurd h h5
 rename_i h5
 split at h
 ·cases h
 rename_i h6
 split at h
 ·cases h
 rename_i h7
 rw [if_neg h4,if_neg h5,if_neg h6,if_neg h7]
 refine ⟨j,hj,rfl,by omega,?_,rfl,hp⟩
 rcases fX v t name with ⟨_,h8⟩ | ⟨i,hi,e',_⟩
 ·exact h8
 ·exact absurd (.inl (by rw [e'])) h2
theorem ui {v:KV}{t:TB}{name sup:ByteArray}{own:List ByteArray} (h:(iU v t name sup own).2=0):own.length<=32:=by
 unfold iU at h
 split at h
 ·cases h
 split at h
 ·cases h
 split at h
 ·rename_i h3;exact absurd h h3
 split at h
 ·cases h
 split at h
 ·cases h
 split at h
 ·rename_i h5;exact absurd h h5
 split at h
 ·cases h
 ·omega
end Kw
namespace Go.Proofs.YtgcoppcogllpbaaGreatDoor
open Kw
theorem zq {s:ByteArray}{i:Nat} (h:i<s.size):s[i]?=some s[i]∧(s[i]).toNat=gB s i:=by
 have:s[i]?=some s[i]:=by simp [h]
 exact ⟨this,by rw [uS this]⟩
section
variable {H:ae}{b:Nat}{F:az}{s:SP}{t:TB}{v:KV}{Q:QT}
theorem qR {x:ByteArray}{lo up:Nat} (h:∀ H',Fr [] H H'->Q (.bool (decide (fD lo up x))) H'):ac PP AM #[.string x,.int .u8 lo,.int .u8 up] Q H:=by
 apply vS
 unfold Bq iV wW sV lV
 have no:¬ fD lo up x->∀ H',Fr [] H H'->Q (.bool false) H':=fun hn H' hf=>by have:=h H' hf;rw [decide_eq_false hn] at this;exact this
 rw [fj,af]
 refine aA (fun h1=>no (fun hn=>?_) _ (Fr.refl _ _)) fun h1=>?_
 ·have:=hn.1;rw [h1] at this;exact absurd this (by decide)
 have hpos:0<x.size:=by
  rcases Nat.eq_zero_or_pos x.size with h0 | h0
  ·exfalso;apply h1
   obtain ⟨d⟩:=x
   have:d=#[]:=Array.eq_empty_of_size_eq_zero h0
   rw [this]
  ·exact h0
 rw [af]
 refine aA (fun h2=>no (fun hn=>by have:=hn.2.1;omega) _ (Fr.refl _ _)) fun h2=>?_
 obtain ⟨g1,g2⟩:=zq hpos
 refine ⟨_,⟨Int.le_refl 0,g1⟩,?_⟩
 rw [g2,af]
 refine aA (fun h3=>no (fun hn=>by have:=hn.2.2.1;omega) _ (Fr.refl _ _)) fun h3=>⟨_,⟨Int.le_refl 0,g1⟩,?_⟩
 rw [g2,af]
 refine aA (fun h4=>no (fun hn=>by have:=hn.2.2.2.1;omega) _ (Fr.refl _ _)) fun h4=>?_
 refine sB (e:=5) (by kernel_rfl) (by kernel_rfl) (by kernel_rfl) fun cap H0 hf0 hcell=>⟨_,_,_,rfl,?_⟩
 refine ⟨fun w H'=>H'=H0∧∃ i:Nat,w=[.int .i64 i]∧i<=x.size∧∀ j,j<i->cJ (gB x j),fun w _=>match w with
  | [.int _ i]=>(x.size-i).toNat
  | _=>0,⟨rfl,0,rfl,Nat.zero_le _,fun j hj=>by omega⟩,?_⟩
 rintro w H1 ⟨rfl,i,rfl,hi,hall⟩ _
 refine ⟨_,rfl,?_⟩
 rw [af]
 refine aA (fun hlt=>?_) fun hlt=>?_
 ·have hlt':i<x.size:=by omega
  have e:IntKind.wrap .i64 ((i:Int)+1)=((i+1:Nat):Int):=by rw [ah (by omega) (by omega)];omega
  have hc:=hcell i hlt'
  have hgb:((x[i]?.getD 0).toNat:Int)=(gB x i:Int):=rfl
  rw [hgb] at hc
  refine ⟨⟨by omega,hlt⟩,_,rfl,_,by rw [Int.toNat_natCast,Nat.mul_one,ak,Nat.zero_add];exact hc,?_⟩
  have go:cJ (gB x i)->(True∧∃ i_1:Nat,[Value.int .i64 (IntKind.wrap .i64 ((i:Int)+1))]=[.int .i64 i_1]∧i_1<=x.size∧∀ j,j<i_1->cJ (gB x j))∧((x.size:Int)-(IntKind.wrap .i64 ((i:Int)+1))).toNat<((x.size:Int)-(i:Int)).toNat:=fun ha=>by
   rw [e]
   refine ⟨⟨trivial,i+1,rfl,by omega,fun j hj=>?_⟩,by omega⟩
   rcases Nat.lt_or_ge j i with h5 | h5
   ·exact hall j h5
   ·have:j=i:=by omega
    rw [this];exact ha
  have bad:¬ cJ (gB x i)->Q (.bool false) H1:=fun ha=>no (fun hn=>ha (hn.2.2.2.2 i hlt')) _ hf0
  simp only [af]
  refine aA (fun c1=>aA (fun c2=>aA (fun c3=>bad (by unfold cJ;omega)) fun c3=>aA (fun c4=>bad (by unfold cJ;omega)) fun c4=>go (by unfold cJ;omega)) fun c2=>aA (fun c3=>aA (fun c4=>bad (by unfold cJ;omega)) fun c4=>aA (fun c5=>bad (by unfold cJ;omega)) fun c5=>go (by unfold cJ;omega)) fun c3=>go (by unfold cJ;omega)) fun c1=>aA (fun c2=>aA (fun c3=>aA (fun c4=>bad (by unfold cJ;omega)) fun c4=>aA (fun c5=>bad (by unfold cJ;omega)) fun c5=>go (by unfold cJ;omega)) fun c3=>aA (fun c4=>aA (fun c5=>bad (by unfold cJ;omega)) fun c5=>aA (fun c6=>bad (by unfold cJ;omega)) fun c6=>go (by unfold cJ;omega)) fun c4=>go (by unfold cJ;omega)) fun c2=>go (by unfold cJ;omega)
 ·have:i=x.size:=by omega
  subst this
  have:=h H1 hf0
  have hok:fD lo up x:=⟨hpos,by omega,by omega,by omega,hall⟩
  rw [decide_eq_true hok] at this
  exact this
theorem uP {x:ByteArray} (h:∀ H',Fr [] H H'->Q (.bool (decide (eI x))) H'):ac PP yW #[.string x] Q H:=by
 apply vY
 unfold Cj sV cS
 have no:¬ eI x->Q (.bool false) H:=fun hn=>by have:=h H (Fr.refl _ _);rw [decide_eq_false hn] at this;exact this
 simp only [fj,af]
 refine aA (fun h1=>no fun hn=>hn.1 (.inl h1)) fun h1=>aA (fun h2=>no fun hn=>hn.1 (.inr (.inl h2))) fun h2=>aA (fun h3=>no fun hn=>hn.1 (.inr (.inr (.inl h3)))) fun h3=>aA (fun h4=>no fun hn=>hn.1 (.inr (.inr (.inr (.inl h4))))) fun h4=>aA (fun h5=>no fun hn=>hn.1 (.inr (.inr (.inr (.inr h5))))) fun h5=>?_
 refine qR (lo:=97) (up:=122) fun H' hf=>⟨_,rfl,?_⟩
 have:=h H' hf
 have e:decide (eI x)=decide (fD 97 122 x):=by
  rw [decide_eq_decide]
  unfold eI tW
  constructor
  ·exact fun h=>h.2
  ·exact fun hn=>⟨fun h=>by rcases h with h | h | h | h | h <;> contradiction,hn⟩
 rw [e] at this;exact this
theorem im {a:Option Addr}{l c:Nat}{xs:List ByteArray}{x:ByteArray} (hk:Rd 1 H a l (aZ xs)) (hlk:l<=1000000000000000) (h:Q (.bool (decide (x∈xs))) H):ac PP zV #[.slice a l c,.string x] Q H:=by
 have hl:l=xs.length:=by have:=hk.1;simpa [aZ] using this.symm
 apply xr
 unfold Cr iV sV lV
 apply vx
 unfold BQ iV wW sV
 refine ⟨fun w H'=>H'=H∧∃ i:Nat,w=[.int .i64 i]∧i<=l∧∀ j (hj:j<xs.length),j<i->xs[j]≠x,fun w _=>match w with
  | [.int _ i]=>(l-i).toNat
  | _=>0,⟨rfl,0,rfl,Nat.zero_le _,fun j _ hj=>by omega⟩,?_⟩
 rintro w H1 ⟨rfl,i,rfl,hi,hall⟩ _
 refine ⟨_,rfl,?_⟩
 rw [af]
 refine aA (fun hlt=>?_) fun hlt=>?_
 ·obtain ⟨p,hlt2,rfl,hcell⟩:=hk.str (i:=(i:Int)) (by omega) hlt
  simp only [Int.toNat_natCast] at hcell hlt2
  have e:IntKind.wrap .i64 ((i:Int)+1)=((i+1:Nat):Int):=by rw [ah (by omega) (by omega)];omega
  refine ⟨⟨by omega,hlt⟩,_,rfl,_,by rw [Int.toNat_natCast,Nat.mul_one];exact hcell,?_⟩
  rw [fj,af]
  refine aA (fun he=>⟨_,rfl,?_⟩) fun he=>?_
  ·rw [decide_eq_true (show x∈xs by rw [he];exact List.getElem_mem _)] at h
   rw [decide_eq_true (show (i:Int) ≥ 0 by omega)];exact h
  ·rw [e]
   refine ⟨⟨rfl,i+1,rfl,by omega,fun j hj hji=>?_⟩,by simp;omega⟩
   rcases Nat.lt_or_ge j i with h5 | h5
   ·exact hall j hj h5
   ·have:j=i:=by omega
    subst this;exact fun e=>he e.symm
 ·refine ⟨_,rfl,?_⟩
  have:x∉xs:=fun hm=>by
   obtain ⟨j,hj,he⟩:=List.getElem_of_mem hm
   exact hall j hj (by omega) he
  rw [decide_eq_false this] at h
  exact h
theorem vk (hK:PK H b F s t) (hv:KAllW s t v){name:ByteArray} (h:∀ H',Fr [] H H'->Q (.bool (decide (gz v t name))) H'):ac PP z1 #[.pointer (some ⟨b,0,none⟩),.string name] Q H:=by
 have hg:=hv.ks.shape.globs
 apply xy
 unfold Cw iV pV sV lV cS
 refine qY hK hv fun H1 hf1=>⟨_,_,rfl,?_⟩
 rw [aU,af]
 refine aA (fun h1=>?_) fun h1=>?_
 ·have:=h H1 hf1
  rw [decide_eq_true (show gz v t name from .inl h1)] at this
  exact this
 ·refine rf (hK.nil hf1) hv fun a l c G H2 ho hf2 hG=>⟨_,_,_,rfl,im ho.rd ?_ ⟨_,rfl,?_⟩⟩
  ·have:=ho.len
   simp only [aZ,dZ,List.length_map] at this
   omega
  ·have:=h H2 (hf1.trans hf2)
   have e:decide (gz v t name)=decide (name∈dZ v t):=by
    rw [decide_eq_decide];unfold gz
    exact ⟨fun h=>h.resolve_left h1,.inr⟩
   rw [e] at this;exact this
theorem nJ (hK:PK H b F s t) (hv:KAllW s t v){name sup:ByteArray}{a:Option Addr}{l c:Nat}{own:List ByteArray} (hk:Rd 1 H a l (aZ own)) (hlc:l<=c) (hlk:l<=1000000000000000)
  (h:∀ H',Fr [] H H'->Q (.tuple #[.int .i64 (iU v t name sup own).1,.int .i64 (iU v t name sup own).2]) H'):ac PP Ct #[.pointer (some ⟨b,0,none⟩),.string name,.string sup,.slice a l c] Q H:=by
 have hm1:=hv.ks.shape.many1
 have hl:l=own.length:=by have:=hk.1;simpa [aZ] using this.symm
 apply Ab
 unfold EH A0 iV wW pV sV lV cS;dsimp only [shH]
 unfold iU at h
 refine qR (lo:=65) (up:=90) fun H1 hf1=>⟨_,rfl,?_⟩
 rw [←decide_not,af]
 refine aA (fun h1=>?_) fun h1=>?_
 ·rw [if_pos h1] at h;exact h H1 hf1
 rw [if_neg h1] at h
 refine vk (hK.nil hf1) hv fun H2 hf2=>⟨_,rfl,?_⟩
 have hF2:=hf1.trans hf2
 rw [af]
 refine aA (fun h2=>?_) fun h2=>?_
 ·rw [if_pos h2] at h;exact h H2 hF2
 rw [if_neg h2] at h
 refine qY (hK.nil hF2) hv fun H3 hf3=>⟨_,_,rfl,?_⟩
 have hF3:=hF2.trans hf3
 rw [aX,af]
 refine aA (fun h3=>?_) fun h3=>?_
 ·rw [if_pos h3] at h;exact h H3 hF3
 rw [if_neg h3] at h
 rcases fX v t sup with ⟨e,_⟩ | ⟨j,hj,e,_⟩
 ·rw [e] at h3;simp at h3
 have hfl:=kK hv.ks j hj
 rw [e] at h ⊢
 simp only [hv.ks.idx hj] at h
 rw [mN]
 have hf4:Fr [] H3 (H3.push (.cells #[.pointer (some ⟨b,0,none⟩)] 217)):=Fr.push _ _ _
 have hB:=aV.new H3 #[.pointer (some ⟨b,0,none⟩)] 217
 have hF4:=hF3.trans hf4
 generalize (H3.push (.cells #[.pointer (some ⟨b,0,none⟩)] 217))=H4 at hf4 hB hF4 ⊢
 have hW:Wr (H3.push (.cells #[.pointer none] 217)) ⟨H3.size,0,none⟩:=av.2 (by simp)
 refine ⟨hW,fun w H'=>w=[]∧Fr [] H4 H'∧¬ (1<=j∧j<14),⟨_,hB.cell 0,sK (hK.nil hF4) fun H5 hf5=>⟨_,rfl,?_⟩⟩,?_⟩
 ·rw [hv.ks.num hj,af]
  refine aA (fun h4=>?_) fun h4=>⟨rfl,hf5,by omega⟩
  rw [af]
  refine aA (fun h5=>?_) fun h5=>⟨rfl,hf5,by omega⟩
  rw [if_pos (by omega)] at h
  exact h H5 (hF4.trans hf5)
 rintro w H5 ⟨rfl,hf5,h4⟩ _
 rw [if_neg h4] at h
 have hF5:=hF4.trans hf5
 refine ⟨rfl,_,(hB.fr hf5 (by simp)).cell 0,td hv j (hK.nil hF5) hj fun a6 l6 c6 G H6 ho6 hf6 hG=>⟨_,_,_,rfl,?_⟩⟩
 have hF6:=hF5.trans hf6
 have hl6:l6=(bL v j).length:=by have:=ho6.len;simpa [aZ] using this.symm
 refine ⟨fun w H'=>∃ i:Nat,w=[.int .i64 i]∧i<=l∧Fr [] H6 H'∧jW ((bL v j).map (tx t)) (own.take i) (own.drop i)=jW ((bL v j).map (tx t)) [] own,fun w _=>match w with
  | [.int _ i]=>(l-i).toNat
  | _=>0,⟨0,rfl,Nat.zero_le _,Fr.refl _ _,by simp⟩,?_⟩
 rintro w H7 ⟨i,rfl,hi,hf7,hown⟩ _
 have hF7:=hF6.trans hf7
 refine ⟨_,rfl,?_⟩
 rw [af]
 refine aA (fun hlt=>?_) fun hlt=>?_
 ·have hlt':i<own.length:=by omega
  obtain ⟨p,hlt2,rfl,hcell⟩:=(hk.fr' hF7 (by simp)).str (i:=(i:Int)) (by omega) hlt
  simp only [Int.toNat_natCast] at hcell hlt2
  have e1:IntKind.wrap .i64 ((i:Int)+1)=((i+1:Nat):Int):=by rw [ah (by omega) (by omega)];omega
  have ed:own.drop i=own[i] :: own.drop (i+1):=List.drop_eq_getElem_cons hlt'
  have et:own.take (i+1)=own.take i++[own[i]]:=by rw [List.take_add_one];simp [hlt']
  rw [ed] at hown
  rw [jW] at hown
  refine ⟨⟨by omega,hlt⟩,_,rfl,_,by rw [Int.toNat_natCast,Nat.mul_one];exact hcell,uP fun H8 hf8=>⟨_,rfl,?_⟩⟩
  rw [←decide_not,af]
  refine aA (fun h5=>?_) fun h5=>?_
  ·rw [if_pos h5] at hown
   rw [if_pos (by rw [←hown];decide),←hown] at h
   exact h H8 (hF7.trans hf8)
  rw [if_neg h5] at hown
  have hF8:=hF7.trans hf8
  refine ⟨⟨by omega,by omega⟩,im (xs:=own.take i) ?_ (by simp;omega) ⟨_,rfl,?_⟩⟩
  ·have:=hk.fr' hF8 (by simp)
   refine ⟨by simp [aZ];omega,(fun hn=>by cases hn),fun q hq k hk'=>?_⟩
   rw [Int.toNat_natCast] at hk'
   have h6:=this.2.2 q hq k (by omega)
   rw [h6]
   simp only [aZ,List.getElem?_map]
   rw [List.getElem?_take_of_lt (by omega)]
  rw [af]
  refine aA (fun h6=>?_) fun h6=>?_
  ·rw [if_pos h6] at hown
   rw [if_pos (by rw [←hown];decide),←hown] at h
   exact h H8 hF8
  rw [if_neg h6] at hown
  refine im ((ho6.fr hf7 (by simp)).fr hf8 (by simp)).rd (by omega) ⟨_,rfl,?_⟩
  rw [af]
  refine aA (fun h7=>?_) fun h7=>?_
  ·rw [if_pos h7] at hown
   rw [if_pos (by rw [←hown];decide),←hown] at h
   exact h H8 hF8
  rw [if_neg h7] at hown
  rw [e1]
  exact ⟨⟨i+1,rfl,by omega,hf7.trans hf8,by rw [et];exact hown⟩,by simp;omega⟩
 ·have hil:i=own.length:=by omega
  rw [hil,List.drop_length] at hown
  have h0:jW ((bL v j).map (tx t)) [] own=0:=by rw [←hown];rfl
  rw [if_neg (by rw [h0];decide)] at h
  have ew:IntKind.wrap .i64 ((l6:Int)+(l:Int))=(l6:Int)+l:=ah (by omega) (by omega)
  rw [ew,af]
  refine aA (fun h5=>?_) fun h5=>?_
  ·rw [if_pos (by omega)] at h;exact h H7 hF7
  rw [if_neg (by omega)] at h
  refine xv (hK.nil hF7) hv fun H8 hf8=>⟨_,rfl,?_⟩
  rw [af]
  refine aA (fun h6=>?_) fun h6=>?_
  ·rw [if_pos (by omega)] at h;exact h H8 (hF7.trans hf8)
  rw [if_neg (by omega)] at h
  exact h H8 (hF7.trans hf8)
end
structure PM (H:ae) (mb b:Nat) (F:az) (s:SP) (t:TB) (cnt mk kp:Int):Prop where
 k:PK H b F s t
 m:aV H mb #[.pointer (some ⟨b,0,none⟩),.int .i64 cnt,.int .i64 mk,.int .i64 kp]
 out:mb∉F
theorem Up.out {F F':az}{H H':ae} (h:Up F H F' H'){x:Nat} (hx:x∉F) (hl:x<H.size):x∉F':=fun hm=>by
 rcases h.2 x hm with h1 | h1
 ·exact hx h1
 ·omega
theorem PM.up {H H':ae}{mb b:Nat}{F F':az}{s s':SP}{t t':TB}{cnt mk kp:Int} (h:PM H mb b F s t cnt mk kp) (hk:PK H' b F' s' t') (hu:Up F H F' H'):PM H' mb b F' s' t' cnt mk kp :=
 ⟨hk,h.m.fr hu.1 h.out,Up.out hu h.out h.m.lt⟩
theorem PM.nil {H H':ae}{mb b:Nat}{F:az}{s:SP}{t:TB}{cnt mk kp:Int} (h:PM H mb b F s t cnt mk kp) (hf:Fr [] H H'):PM H' mb b F s t cnt mk kp:=⟨h.k.nil hf,h.m.fr hf (by simp),h.out⟩
theorem Up.of_nil {F:az}{H H':ae} (h:Fr [] H H'):Up F H F H':=⟨Kw.Fr.of_nil h,fun _ h=>.inl h⟩
theorem qs {r:RH} (k i w j:Int){y:RO} (h:al (r.put k i w).2.objs j=some y):∃ x,al r.objs j=some x∧y.fmt=x.fmt:=by
 unfold RH.put at h
 split at h
 ·exact ⟨y,h,rfl⟩
 split at h
 ·exact ⟨y,h,rfl⟩
 split at h
 ·exact ⟨y,h,rfl⟩
 ·simp only at h
  rw [ce (f:=cC i w) (fun o=>rfl)] at h
  cases hx:al r.objs j with
  | none=>rw [hx] at h;cases h
  | some x =>
   rw [hx] at h
   simp only [Option.map_some,Option.some.injEq] at h
   refine ⟨x,rfl,?_⟩
   rw [←h]
   split <;> rfl
section
variable {H:ae}{mb b:Nat}{F:az}{s:SP}{t:TB}{v:KV}{cnt mk kp:Int}{Q:QT}
theorem lY (hM:PM H mb b F s t cnt mk kp){x:ByteArray} (h:∀ H' F',PM H' mb b F' s (t.add x).2 cnt mk kp->Up F H F' H'->Q (.tuple #[.int .i64 (if (t.add x).1.2=0 then 4*(t.add x).1.1+2 else 0),.int .i64 (t.add x).1.2]) H'):ac PP Aw #[.pointer (some ⟨mb,0,none⟩),.string x] Q H:=by
 apply vD
 unfold A9 iV pV sV cS
 obtain ⟨tb,F2,hc,hT,hsub,hnb,hup,_⟩:=hM.k.tb
 refine ⟨_,rfl,_,hM.m.cell 0,_,rfl,_,hc,mQ hT fun H1 F1 hT1 hu1=>⟨_,_,rfl,?_⟩⟩
 obtain ⟨F',hK',hu'⟩:=hup H1 F1 _ hT1 hu1
 have hM':=hM.up hK' hu'
 rw [aX,af]
 refine aA (fun h1=>?_) fun h1=>?_
 ·have:=h _ _ hM' hu'
  rw [if_neg h1] at this;exact this
 ·have hz:(t.add x).1.2=0:=Classical.byContradiction h1
  obtain ⟨n,e1,e2,_⟩:=kn x hz
  have hw:=hK'.wft
  have h2:=(dS e2).2
  have h3:=hw.m1
  have h4:=hw.len
  rw [e1]
  refine tA ⟨by omega,by omega⟩ ⟨_,_,rfl,?_⟩
  have:=h _ _ hM' hu'
  rw [if_pos hz,e1,hz] at this;exact this
theorem qF (hM:PM H mb b F s t cnt mk kp){cls:Int} (hcls:1<=cls∧cls<=65536){a:Option Addr}{l c:Nat}{ws:List Int} (hk:Rd 1 H a l (aj ws)) (hd:∀ p,a=some p->p.block∉F) (hlk:l<=1000000000)
  (h:∀ H' F',PM H' mb b F' (s.make cls ws).2 t cnt mk kp->Up F H F' H'->Q (.tuple #[.int .i64 (s.make cls ws).1.1,.int .i64 (s.make cls ws).1.2]) H'):ac PP zD #[.pointer (some ⟨mb,0,none⟩),.int .i64 cls,.slice a l c] Q H:=by
 have hl:l=ws.length:=by have:=hk.1;simpa [aj] using this.symm
 apply wY
 unfold B6 A0 iV wW pV lV cS
 unfold SP.make at h
 obtain ⟨sb,F1,hc,hS,hsub,hnb,_,hup⟩:=hM.k.sp
 refine ⟨_,rfl,_,hM.m.cell 0,_,rfl,_,hc,bV hcls ⟨_,rfl,⟨⟨hc,trivial⟩,⟨hM.m.cell 0,trivial⟩,trivial⟩,?_⟩⟩
 rw [hl]
 refine i7 hS fun H1 hS1 hf1=>⟨_,_,rfl,trivial,?_⟩
 have hfF:=hf1.mono hsub
 have hu':Up F H F H1:=⟨hfF,fun _ h=>.inl h⟩
 have hM':=hM.up (hup H1 _ hS1 hf1) hu'
 have hd':=hk.fr' hfF hd
 rw [aX,af]
 refine aA (fun h1=>?_) fun h1=>?_
 ·rw [if_pos h1] at h;exact h _ _ hM' hu'
 rw [if_neg h1] at h
 have hz:(s.alloc (4*cls) ws.length 0).1.2=0:=Classical.byContradiction h1
 obtain ⟨o,e1,o1,o2,_,_,harr,_⟩:=lL hM.k.wfs hz
 rw [if_pos hz]
 rw [e1] at h ⊢
 have e2:4*o / 4=o:=by omega
 rw [e2] at h
 generalize (s.alloc (4*cls) ws.length 0).2=s1 at *
 have hk3:bg (4*o)=3:=by have:=aW (4*o);omega
 refine gO hM'.k.kinds ?_
 unfold jE
 rw [if_pos hk3]
 simp only [e2]
 refine ⟨_,_,rfl,?_⟩
 refine ⟨fun w H'=>∃(i:Nat) (r:RH),w=[.int .i64 i]∧i<=ws.length∧PM H' mb b F { s1 with h:=r } t cnt mk kp∧Fr F H1 H'∧r.lay o i (ws.drop i)=s1.h.lay o 0 ws∧∀ x,al r.objs o=some x->x.fmt=0,fun w _=>match w with
  | [.int _ i]=>(ws.length-i).toNat
  | _=>0,⟨0,s1.h,rfl,Nat.zero_le _,hM',Fr.refl _ _,rfl,fun x hx=>by obtain ⟨y,h2,h3,_⟩:=harr;rw [h2] at hx;cases hx;exact h3⟩,?_⟩
 rintro w H4 ⟨i,r,rfl,hi,hM4,hf4,hlay,hfmt⟩ _
 refine ⟨_,rfl,?_⟩
 rw [af]
 refine aA (fun hlt=>?_) fun hlt=>?_
 ·obtain ⟨p,rfl,hcell,hlt2⟩:=(hd'.fr' hf4 hd).int (i:=(i:Int)) (by omega) (by omega)
  rw [Int.toNat_natCast] at hcell hlt2
  have hx:ws.getD i 0=ws[i]:=by simp [hlt2]
  rw [hx] at hcell
  have ed:ws.drop i=ws[i] :: ws.drop (i+1):=List.drop_eq_getElem_cons hlt2
  have e:IntKind.wrap .i64 ((i:Int)+1)=((i+1:Nat):Int):=by rw [ah (by omega) (by omega)];omega
  obtain ⟨sb4,F4,hc4,hS4,hsub4,_,_,hup4⟩:=hM4.k.sp
  refine ⟨⟨by omega,hlt⟩,_,rfl,_,by rw [Int.toNat_natCast,Nat.mul_one];exact hcell,_,rfl,_,hM4.m.cell 0,_,rfl,_,hc4,cB hS4 fun hb F5 hR hsub5 hup5=>⟨_,rfl,kl hR hfmt fun H6 hR6 hf6=>⟨_,rfl,?_⟩⟩⟩
  have hS6:=hup5 H6 _ hR6 hf6
  have hK6:=hup4 H6 _ hS6 (hf6.mono hsub5)
  have hf6':Fr F H4 H6:=(hf6.mono hsub5).mono hsub4
  have hM6:=hM4.up hK6 ⟨hf6',fun _ h=>.inl h⟩
  rw [e]
  refine ⟨⟨i+1,(r.put o i ws[i]).2,rfl,by omega,hM6,hf4.trans hf6',?_,fun x hx=>?_⟩,by simp;omega⟩
  ·rw [←hlay,ed]
   simp only [RH.lay]
   congr 1
   all_goals omega
  ·obtain ⟨y,h2,h3⟩:=qs o i ws[i] o hx
   rw [h3];exact hfmt y h2
 ·have hil:i=ws.length:=by omega
  subst hil
  rw [List.drop_length] at hlay
  simp only [RH.lay] at hlay
  rw [hlay] at hM4
  obtain ⟨sb4,F4,hc4,hS4,hsub4,_,hup4,_⟩:=hM4.k.sp
  refine ⟨_,rfl,_,hM4.m.cell 0,_,rfl,_,hc4,?_⟩
  have fp:Fr [] H4 (H4.push (.cells #[.int .i64 (4*o)] 24)):=Fr.push _ _ _
  have hM5:=hM4.nil fp
  obtain ⟨sb5,F5,hc5,hS5,hsub5,_,hup5,_⟩:=hM5.k.sp
  have hsb:sb5=sb4:=by
   have:aa (H4.push (.cells #[.int .i64 (4*o)] 24)) ⟨b,0,none⟩=aa H4 ⟨b,0,none⟩:=eQ (hM4.k.lt b hM4.k.bmem)
   rw [this,hc4] at hc5
   simpa using hc5.symm
  subst hsb
  refine kh hS5 (ws:=[4*o]) ?_ (by omega) fun H7 F7 hS7 hu7=>⟨_,rfl,?_⟩
  ·refine ⟨rfl,(fun h=>by cases h),fun p hp k hk=>?_⟩
   cases hp
   have:k=0:=by omega
   subst this
   rw [ak]
   exact (aV.new H4 _ _).cell 0
  ·obtain ⟨F',hK7,hu7'⟩:=hup5 H7 F7 _ hS7 hu7
   have hM7:=hM5.up hK7 hu7'
   exact h H7 F' hM7 ((hu'.trans ⟨hf4,fun _ h=>.inl h⟩).trans ((Up.of_nil fp).trans hu7'))
theorem oR (hM:PM H mb b F s t cnt mk kp){a:Option Addr}{l c:Nat}{ws:List Int} (hk:Rd 1 H a l (aj ws)) (hd:∀ p,a=some p->p.block∉F) (hlk:l<=1000000000)
  (h:∀ H' F',PM H' mb b F' (s.array ws).2 t cnt mk kp->Up F H F' H'->Q (.tuple #[.int .i64 (s.array ws).1.1,.int .i64 (s.array ws).1.2]) H'):ac PP sU #[.pointer (some ⟨mb,0,none⟩),.slice a l c] Q H:=by
 have hl:l=ws.length:=by have:=hk.1;simpa [aj] using this.symm
 apply vL
 unfold BY iV pV lV cS
 unfold SP.array at h
 rw [aU,af]
 refine aA (fun h0=>?_) fun h0=>?_
 ·have:ws=[]:=List.eq_nil_of_length_eq_zero (by omega)
  rw [if_pos this] at h
  exact bV (by decide) ⟨_,rfl,h H F hM (Up.refl _ _)⟩
 ·have:ws≠[]:=fun e=>h0 (by rw [hl,e];rfl)
  rw [if_neg this] at h
  exact qF hM (by decide) hk hd hlk fun H' F' hM' hu=>⟨_,_,rfl,h H' F' hM' hu⟩
end
def sE (H:ae) (a:Option Addr) (F:az):Prop:=∀ p,a=some p->p.block<H.size∧p.block∉F
theorem sE.up {H H':ae}{a:Option Addr}{F F':az} (h:sE H a F) (hu:Up F H F' H'):sE H' a F':=fun p hp=>⟨Nat.lt_of_lt_of_le (h p hp).1 hu.1.1,Up.out hu (h p hp).2 (h p hp).1⟩
theorem sE.rd {H H':ae}{a:Option Addr}{F F':az}{l:Nat}{ys:List Value} (h:sE H a F) (hu:Up F H F' H') (hk:Rd 1 H a l ys):Rd 1 H' a l ys:=hk.fr' hu.1 fun p hp=>(h p hp).2
def o7 (H:ae) (a:Option Addr) (l:Nat) (F:az):Prop:=l=0∨sE H a F
theorem o7.up {H H':ae}{a:Option Addr}{l:Nat}{F F':az} (h:o7 H a l F) (hu:Up F H F' H'):o7 H' a l F':=h.imp id fun h=>h.up hu
theorem o7.rd {H H':ae}{a:Option Addr}{F F':az}{l:Nat}{ys:List Value} (h:o7 H a l F) (hu:Up F H F' H') (hk:Rd 1 H a l ys):Rd 1 H' a l ys:=by
 rcases h with h | h
 ·subst h
  exact ⟨hk.1,hk.2.1,fun p _ i hi=>by simp at hi⟩
 ·exact h.rd hu hk
theorem bN.out {H:ae}{a:Option Addr}{l c:Nat}{xs:List Value}{F G:az} (h:bN 1 H a l c xs G) (hd:co G F):sE H a F:=fun p hp=>by
 have hlt:=h.lt
 rcases h.2.2 with ⟨h1,_⟩ | ⟨b',cs,h1,rfl,_⟩
 ·rw [h1] at hp;cases hp
 ·rw [h1] at hp;cases hp
  exact ⟨hlt _ (by simp),hd _ (by simp)⟩
theorem cr {F:az}{H H':ae}{b o:Nat} (hf:Fr F H H') (hb:b∉F) (hl:b<H.size):aa H' ⟨b,o,none⟩=aa H ⟨b,o,none⟩:=by
 unfold aa;rw [hf.2 b hl hb]
theorem kI {H:ae}{cs:List Int}{t:TypeId}:Rd 1 (H.push (.cells (aj cs).toArray t)) (some ⟨H.size,0,none⟩) cs.length (aj cs):=by
 refine ⟨by simp [aj],(fun h=>by cases h),fun p hp k hk=>?_⟩
 cases hp
 rw [ak,Nat.zero_add,(aV.new H _ _).cell]
 simp
section
variable {H:ae}{mb b:Nat}{F:az}{s:SP}{t:TB}{v:KV}{cnt mk kp:Int}{Q:QT}
theorem wP (hK:PK H b F s t) (h:∀ H' mb,PM H' mb b F s t t.texts.length s.h.mark s.stack.length->Fr [] H H'->Q (.pointer (some ⟨mb,0,none⟩)) H'):ac PP CB #[.pointer (some ⟨b,0,none⟩)] Q H:=by
 apply yp
 unfold EU A0 iV pV lV cS
 obtain ⟨tb,F2,hc2,hT,_⟩:=hK.tb
 obtain ⟨sb,F1,hc,hS,_⟩:=hK.sp
 refine ⟨_,rfl,_,hc2,_,rfl,_,hc,_,rfl,_,hc,rF hT ⟨_,rfl,⟨⟨hc,trivial⟩,⟨hc,trivial⟩,trivial⟩,cB hS fun hb F3 hR _ _=>⟨_,rfl,⟨⟨hc,trivial⟩,trivial⟩,rW hR ⟨_,rfl,⟨⟨hc,trivial⟩,trivial⟩,?_⟩⟩⟩⟩
 refine og hS fun a c H1 _ hf=>⟨_,_,_,rfl,trivial,trivial,?_⟩
 have hf2:=hf.more (o:=.cells #[.pointer (some ⟨b,0,none⟩),.int .i64 (t.texts.length:Int),.int .i64 s.h.mark,.int .i64 (s.stack.length:Int)] 221)
 refine h _ H1.size ⟨hK.nil hf2,aV.new _ _ _,fun hm=>?_⟩ hf2
 have:=(hK.nil hf).lt _ hm
 omega
theorem Dr (hM:PM H mb b F s t cnt mk kp) (hkp:0<=kp∧kp<=1000000){e:Int} (h:∀ H',PK H' b F (mO s t mk cnt kp e).1 (mO s t mk cnt kp e).2->Fr F H H'->Q (.int .i64 e) H'):ac PP yY #[.pointer (some ⟨mb,0,none⟩),.int .i64 e] Q H:=by
 have hmany:=hM.k.wfs.many
 apply wg
 unfold Cp iV wW pV lV cS
 unfold mO at h
 obtain ⟨sb,F1,hc,hS,hsub,hbF1,_,hup⟩:=hM.k.sp
 refine ⟨_,rfl,_,hM.m.cell 0,_,rfl,_,hc,_,rfl,_,hM.m.cell 3,og hS fun a c H1 _ hf=>⟨_,_,_,rfl,⟨⟨(hM.m.fr hf (by simp)).cell 3,trivial⟩,trivial⟩,?_⟩⟩
 have ew:IntKind.wrap .i64 ((s.stack.length:Int)-kp)=(s.stack.length:Int)-kp:=ah (by omega) (by omega)
 rw [ew]
 refine oq (hS.nilfr hf) ⟨by omega,by omega⟩ fun H2 hS2 hf2=>⟨_,rfl,trivial,?_⟩
 have hf12:Fr F1 H H2:=hf.of_nil.trans hf2
 have hfF:Fr F H H2:=hf12.mono hsub
 have hM2:=hM.up (hup H2 _ hS2 hf12) ⟨hfF,fun _ h=>.inl h⟩
 rw [aU,af]
 refine aA (fun h1=>?_) fun h1=>?_
 ·rw [if_pos h1] at h;exact h H2 hM2.k hfF
 rw [if_neg h1] at h
 obtain ⟨tb,F3,hc3,hT,hsub3,hbF3,_,hup3⟩:=hM2.k.tb
 refine ⟨_,rfl,_,hM2.m.cell 0,_,rfl,_,hc3,_,rfl,_,hM2.m.cell 1,uw hT fun H3 hT3 hf3=>⟨_,rfl,trivial,?_⟩⟩
 have hf3':Fr F H2 H3:=hf3.mono hsub3
 have hM3:=hM2.up (hup3 H3 _ hT3 hf3) ⟨hf3',fun _ h=>.inl h⟩
 rw [aX,af]
 refine aA (fun h2=>?_) fun h2=>?_
 ·rw [if_neg h2] at h
  obtain ⟨sb4,F4,hc4,hS4,hsub4,_,_,hup4⟩:=hM3.k.sp
  have hsb:sb4=sb:=by
   have hbl:=hM.k.lt b hM.k.bmem
   have e1:aa H3 ⟨b,0,none⟩=some (.pointer (some ⟨sb,0,none⟩)):=by
    rw [cr hf3 hbF3 (Nat.lt_of_lt_of_le hbl hf12.1),cr hf12 hbF1 hbl,hc]
   rw [hc4] at e1;simpa using e1
  subst hsb
  refine ⟨_,rfl,_,hM3.m.cell 2,cB hS4 fun hb F5 hR hsub5 hup5=>⟨_,rfl,⟨⟨hM3.m.cell 2,trivial⟩,trivial⟩,yo hR fun H5 hR5 hf5=>⟨_,rfl,trivial,?_⟩⟩⟩
  have hS5:=hup5 H5 _ hR5 hf5
  have hK5:=hup4 H5 _ hS5 (hf5.mono hsub5)
  have:=h H5 ?_ ((hfF.trans hf3').trans ((hf5.mono hsub5).mono hsub4))
  ·exact this
  ·have ed:(s.drop ((s.stack.length:Int)-kp)).2.h=s.h:=by unfold SP.drop;split <;> rfl
   simp only [ed] at hK5
   exact hK5
 ·have h24:e=24:=Classical.byContradiction h2
  rw [if_pos h24] at h
  refine h H3 ?_ (hfF.trans hf3')
  have ed:(s.drop ((s.stack.length:Int)-kp)).2.h=s.h:=by unfold SP.drop;split <;> rfl
  have hK3:=hM3.k
  generalize (s.drop ((s.stack.length:Int)-kp)).2=s' at *
  cases s'
  simp only at ed
  subst ed
  exact hK3
theorem KS.words {s:SP}{v:KV} (h:KS s v):kwords s.h v.clsA=v.clsW:=h.view.all.kwords
theorem iQ {H0:ae} (hM:PM H0 mb b F s t cnt mk kp) (hf:Fr [] H0 H){a a2:Option Addr}{l c c2 l2:Nat}{G:az}{ws xs:List Int}{Q:QT} (ho:bN 1 H a l c (aj ws) G) (hG:∀ x∈G,H0.size<=x) (hws:ws.length<=8192) (h2:Rd 1 H a2 l2 (aj xs)) (hxs:l2<=8192)
  (h:∀ H' F',PM H' mb b F' (s.array (ws++xs)).2 t cnt mk kp->Up F H0 F' H'->Q (.tuple #[.int .i64 (s.array (ws++xs)).1.1,.int .i64 (s.array (ws++xs)).1.2]) H') :
  aI PP (Builtin.append_ #[30,30] 30 #[.slice a l c,.slice a2 l2 c2]) (fun v H'=>∃ a3:Option Addr,∃ l3:Nat,∃ c3:Nat,v=.slice a3 l3 c3∧True∧ac PP sU #[.pointer (some ⟨mb,0,none⟩),.slice a3 l3 c3] Q H') H:=by
 have hs1:aH PP 30=some (1,8,some (.int .i64 0)):=by kernel_rfl
 have hl:l=ws.length:=by have:=ho.len;simpa [aj] using this.symm
 have hlt:=hM.k.lt
 refine cR hs1 rfl (by kernel_rfl) ho h2 fe (by omega) (by decide) (by decide) fun a' c' G' H' g1 g2 g3=>⟨_,_,_,rfl,trivial,?_⟩
 obtain ⟨hf',hG'⟩:=Up.fresh hf g2 hG
 have ho':sE H' a' F:=bN.out g1 fun x hx hm=>by have:=hG' x hx;have:=hlt x hm;omega
 rw [←bO] at g1
 exact oR (hM.nil hf') g1.rd (fun p hp=>(ho' p hp).2) (by omega) fun H2 F' hM2 hu=>h H2 F' hM2 ((Up.of_nil hf').trans hu)
theorem pi (hM:PM H mb b F s t cnt mk kp) (hk:KS s v){c:Int} (hc:1<=c∧c<=65536) (hst:s.stack.length<65000)
  (h:∀ H' F',PM H' mb b F' (cL s t v.clsW (4*c)).2.1 t cnt mk kp->Up F H F' H'->Q (.tuple #[.int .i64 (cL s t v.clsW (4*c)).1.1,.int .i64 (cL s t v.clsW (4*c)).1.2]) H') :
  ∃ J37:List Value->ae->Prop,(∃ q38,(some ⟨mb,0,none⟩:Option Addr)=some q38∧∃ p39:Option Addr,aa H q38=some (.pointer p39)∧∃ q40,(some ⟨mb,0,none⟩:Option Addr)=some q40∧∃ p41:Option Addr,aa H q40=some (.pointer p41)∧(ac PP 181 #[.agg #[.pointer p41],.int .i64 0] (fun v42 H12=>∃ n43:Int,v42=.int .i64 n43∧((aa H12 q38=some (.pointer p39)∧True)∧True)∧(ac PP 180 #[.agg #[.pointer p39],.int .i64 n43] (fun v44 H13=>∃ a45:Option Addr,∃ l45:Nat,∃ c45:Nat,v44=.slice a45 l45 c45∧True∧True∧aI PP (Builtin.append_ #[30,30] 30 #[.slice a45 l45 c45,.slice (some (⟨H13.size,0,none⟩:Addr)) 1 1]) (fun v46 H14=>∃ a47:Option Addr,∃ l47:Nat,∃ c47:Nat,v46=.slice a47 l47 c47∧True∧ac PP 178 #[.pointer (some ⟨mb,0,none⟩:Option Addr),.slice a47 l47 c47] (fun v48 H15=>∃ n49:Int,∃ n50:Int,v48=.tuple #[.int .i64 n49,.int .i64 n50]∧True∧J37 [.int .i64 n50,.int .i64 n49] H15) H14) (H13.push (.cells #[.int .i64 (4*c)] 24))) H12)∧(((aa (H12.push (.cells #[.int .i64 (4*c)] 24)) q38=some (.pointer p39)∧True)∧True)∧ac PP 180 #[.agg #[.pointer p39],.int .i64 n43] (fun v51 H16=>∃ a52:Option Addr,∃ l52:Nat,∃ c52:Nat,v51=.slice a52 l52 c52∧True∧aI PP (Builtin.append_ #[30,30] 30 #[.slice a52 l52 c52,.slice (some (⟨H12.size,0,none⟩:Addr)) 1 1]) (fun v53 H17=>∃ a54:Option Addr,∃ l54:Nat,∃ c54:Nat,v53=.slice a54 l54 c54∧True∧ac PP 178 #[.pointer (some ⟨mb,0,none⟩:Option Addr),.slice a54 l54 c54] (fun v55 H18=>∃ n56:Int,∃ n57:Int,v55=.tuple #[.int .i64 n56,.int .i64 n57]∧True∧J37 [.int .i64 n57,.int .i64 n56] H18) H17) H16) (H12.push (.cells #[.int .i64 (4*c)] 24)))) H)∧(((aa (H.push (.cells #[.int .i64 (4*c)] 24)) q40=some (.pointer p41)∧True)∧((aa (H.push (.cells #[.int .i64 (4*c)] 24)) q38=some (.pointer p39)∧True)∧True))∧ac PP 181 #[.agg #[.pointer p41],.int .i64 0] (fun v58 H19=>∃ n59:Int,v58=.int .i64 n59∧((aa H19 q38=some (.pointer p39)∧True)∧True)∧ac PP 180 #[.agg #[.pointer p39],.int .i64 n59] (fun v60 H20=>∃ a61:Option Addr,∃ l61:Nat,∃ c61:Nat,v60=.slice a61 l61 c61∧True∧aI PP (Builtin.append_ #[30,30] 30 #[.slice a61 l61 c61,.slice (some (⟨H.size,0,none⟩:Addr)) 1 1]) (fun v62 H21=>∃ a63:Option Addr,∃ l63:Nat,∃ c63:Nat,v62=.slice a63 l63 c63∧True∧ac PP 178 #[.pointer (some ⟨mb,0,none⟩:Option Addr),.slice a63 l63 c63] (fun v64 H22=>∃ n65:Int,∃ n66:Int,v64=.tuple #[.int .i64 n65,.int .i64 n66]∧True∧J37 [.int .i64 n66,.int .i64 n65] H22) H21) H20) H19) (H.push (.cells #[.int .i64 (4*c)] 24))))∧∀ w67 H23,J37 w67 H23->∀ _g:Nat->Value,∃ n68:Int,∃ n69:Int,w67=[.int .i64 n68,.int .i64 n69]∧cond (n68 != 0) (Q (.tuple #[.int .i64 0,.int .i64 n68]) H23) (∃ q70,(some ⟨mb,0,none⟩:Option Addr)=some q70∧∃ p71:Option Addr,aa H23 q70=some (.pointer p71)∧∃ q72,p71=some q72∧∃ p73:Option Addr,aa H23 q72=some (.pointer p73)∧ac PP 182 #[.pointer p73,.int .i64 0,.int .i64 n69] (fun v74 H24=>∃ n75:Int,v74=.int .i64 n75∧ac PP 109 #[.int .i64 (4*c)] (fun v76 H25=>∃ n77:Int,∃ n78:Int,v76=.tuple #[.int .i64 n77,.int .i64 n78]∧Q (.tuple #[.int .i64 n77,.int .i64 n78]) H25) H24) H23):=by
 have hm1:=hk.shape.many1
 have hcw:v.clsW.length<=8192:=by simp [KV.clsW];omega
 have hws:∀ w∈v.clsW++[4*c],cW w:=fun w hw=>by
  rcases List.mem_append.1 hw with hw | hw
  ·exact ig hk w hw
  ·simp only [List.mem_singleton] at hw;rw [hw];exact cq hc.1 hc.2
 obtain ⟨h1,h2,⟨m,h3,h3'⟩,h4⟩:=gi hk (by omega) hws
 refine ⟨fun w H'=>∃ F',w=[.int .i64 (s.array (v.clsW++[4*c])).1.2,.int .i64 (s.array (v.clsW++[4*c])).1.1]∧PM H' mb b F' (s.array (v.clsW++[4*c])).2 t cnt mk kp∧Up F H F' H',?_,?_⟩
 ·have hB:=hM.m
  have mc:∀ {H':ae},Fr [] H H'->aa H' ⟨mb,0,none⟩=some (.pointer (some ⟨b,0,none⟩)):=fun hf=>(hB.fr hf (by simp)).cell 0
  have one:∀ {H':ae},Rd 1 (H'.push (.cells #[.int .i64 (4*c)] 24)) (some ⟨H'.size,0,none⟩) 1 (aj [4*c]):=fun {H'}=>kI (H:=H') (cs:=[4*c])
  refine ⟨_,rfl,_,hB.cell 0,_,rfl,_,hB.cell 0,?_,?_⟩
  ·refine jc hM.k fun H12 f12=>⟨_,rfl,⟨⟨mc f12,trivial⟩,trivial⟩,?_,?_⟩
   ·rw [hk.root0]
    refine nf (hM.k.nil f12) fun a l cc G H13 ho f13 hG=>⟨_,_,_,rfl,trivial,trivial,?_⟩
    rw [KS.words hk] at ho
    have fp:=(Fr.push [] H13 (.cells #[.int .i64 (4*c)] 24))
    refine iQ hM ((f12.trans f13).trans fp) (ho.fr fp (by simp)) (fun x hx=>Nat.le_trans f12.1 (hG x hx)) hcw one (by decide) fun H' F' hM' hu=>⟨_,_,rfl,trivial,F',rfl,hM',hu⟩
   ·have fp:=(Fr.push [] H12 (.cells #[.int .i64 (4*c)] 24))
    refine ⟨⟨⟨mc (f12.trans fp),trivial⟩,trivial⟩,?_⟩
    rw [hk.root0]
    refine nf (hM.k.nil (f12.trans fp)) fun a l cc G H13 ho f13 hG=>⟨_,_,_,rfl,trivial,?_⟩
    rw [KS.words hk] at ho
    refine iQ hM ((f12.trans fp).trans f13) ho (fun x hx=>Nat.le_trans (f12.trans fp).1 (hG x hx)) hcw (one.fr' f13 (by simp)) (by decide) fun H' F' hM' hu=>⟨_,_,rfl,trivial,F',rfl,hM',hu⟩
  ·have fp:=(Fr.push [] H (.cells #[.int .i64 (4*c)] 24))
   refine ⟨⟨⟨mc fp,trivial⟩,⟨mc fp,trivial⟩,trivial⟩,?_⟩
   refine jc (hM.k.nil fp) fun H12 f12=>⟨_,rfl,⟨⟨mc (fp.trans f12),trivial⟩,trivial⟩,?_⟩
   rw [hk.root0]
   refine nf (hM.k.nil (fp.trans f12)) fun a l cc G H13 ho f13 hG=>⟨_,_,_,rfl,trivial,?_⟩
   rw [KS.words hk] at ho
   refine iQ hM ((fp.trans f12).trans f13) ho (fun x hx=>Nat.le_trans (fp.trans f12).1 (hG x hx)) hcw (one.fr' (f12.trans f13) (by simp)) (by decide) fun H' F' hM' hu=>⟨_,_,rfl,trivial,F',rfl,hM',hu⟩
 ·rintro w H23 ⟨F',rfl,hM',hu⟩ _
  unfold cL at h
  refine ⟨_,_,rfl,?_⟩
  rw [aX,af]
  refine aA (fun he=>?_) fun he=>?_
  ·rw [if_pos he] at h;exact h _ _ hM' hu
  rw [if_neg he] at h
  obtain ⟨sb,F1,hcs,hS,hsub,_,_,hup⟩:=hM'.k.sp
  refine ⟨_,rfl,_,hM'.m.cell 0,_,rfl,_,hcs,nP hS (fun o ho=>?_) fun H4 hS4 hf4=>⟨_,rfl,?_⟩⟩
  ·obtain ⟨x,hx1,hx2,_⟩:=h1.view.root
   rw [h1.king] at ho
   rw [hx1] at ho;cases ho;exact hx2
  have hK4:=hup H4 _ hS4 hf4
  have hu4:Up F' H23 F' H4:=⟨hf4.mono hsub,fun _ h=>.inl h⟩
  have hM4:=hM'.up hK4 hu4
  refine gO hM4.k.kinds ?_
  unfold jE
  rw [if_pos (show bg (4*c)=3 by have:=aW (4*c);omega)]
  exact ⟨_,_,rfl,h _ _ hM4 (hu.trans hu4)⟩
theorem o9 (hM:PM H mb b F s t cnt mk kp) (hk:KS s v){n up l:Int} (hn:cW n) (hup:1<=up∧up<=65536) (hl:cW l) (hst:s.stack.length<64000){n27 n31:Int} (e27:n27=72) (e31:n31=1)
  {n29:Int} (e29:n29=4*up){n33:Int} (e33:n33=2*((v.cls.length:Int)+1)+1)
  (h:∀ H' F',PM H' mb b F' (fu s t v.clsW n up l).2.1 t cnt mk kp->Up F H F' H'->Q (.tuple #[.int .i64 (fu s t v.clsW n up l).1.1,.int .i64 (fu s t v.clsW n up l).1.2]) H') :
  ac PP 179 #[.pointer (some ⟨mb,0,none⟩:Option Addr),.int .i64 12,.slice (some (⟨H.size,0,none⟩:Addr)) 7 7] (fun v34 H11=>∃ n35:Int,∃ n36:Int,v34=.tuple #[.int .i64 n35,.int .i64 n36]∧cond (n36 != 0) (Q (.tuple #[.int .i64 0,.int .i64 n36]) H11) (∃ J37:List Value->ae->Prop,(∃ q38,(some ⟨mb,0,none⟩:Option Addr)=some q38∧∃ p39:Option Addr,aa H11 q38=some (.pointer p39)∧∃ q40,(some ⟨mb,0,none⟩:Option Addr)=some q40∧∃ p41:Option Addr,aa H11 q40=some (.pointer p41)∧(ac PP 181 #[.agg #[.pointer p41],.int .i64 0] (fun v42 H12=>∃ n43:Int,v42=.int .i64 n43∧((aa H12 q38=some (.pointer p39)∧True)∧True)∧(ac PP 180 #[.agg #[.pointer p39],.int .i64 n43] (fun v44 H13=>∃ a45:Option Addr,∃ l45:Nat,∃ c45:Nat,v44=.slice a45 l45 c45∧True∧True∧aI PP (Builtin.append_ #[30,30] 30 #[.slice a45 l45 c45,.slice (some (⟨H13.size,0,none⟩:Addr)) 1 1]) (fun v46 H14=>∃ a47:Option Addr,∃ l47:Nat,∃ c47:Nat,v46=.slice a47 l47 c47∧True∧ac PP 178 #[.pointer (some ⟨mb,0,none⟩:Option Addr),.slice a47 l47 c47] (fun v48 H15=>∃ n49:Int,∃ n50:Int,v48=.tuple #[.int .i64 n49,.int .i64 n50]∧True∧J37 [.int .i64 n50,.int .i64 n49] H15) H14) (H13.push (.cells #[.int .i64 n35] 24))) H12)∧(((aa (H12.push (.cells #[.int .i64 n35] 24)) q38=some (.pointer p39)∧True)∧True)∧ac PP 180 #[.agg #[.pointer p39],.int .i64 n43] (fun v51 H16=>∃ a52:Option Addr,∃ l52:Nat,∃ c52:Nat,v51=.slice a52 l52 c52∧True∧aI PP (Builtin.append_ #[30,30] 30 #[.slice a52 l52 c52,.slice (some (⟨H12.size,0,none⟩:Addr)) 1 1]) (fun v53 H17=>∃ a54:Option Addr,∃ l54:Nat,∃ c54:Nat,v53=.slice a54 l54 c54∧True∧ac PP 178 #[.pointer (some ⟨mb,0,none⟩:Option Addr),.slice a54 l54 c54] (fun v55 H18=>∃ n56:Int,∃ n57:Int,v55=.tuple #[.int .i64 n56,.int .i64 n57]∧True∧J37 [.int .i64 n57,.int .i64 n56] H18) H17) H16) (H12.push (.cells #[.int .i64 n35] 24)))) H11)∧(((aa (H11.push (.cells #[.int .i64 n35] 24)) q40=some (.pointer p41)∧True)∧((aa (H11.push (.cells #[.int .i64 n35] 24)) q38=some (.pointer p39)∧True)∧True))∧ac PP 181 #[.agg #[.pointer p41],.int .i64 0] (fun v58 H19=>∃ n59:Int,v58=.int .i64 n59∧((aa H19 q38=some (.pointer p39)∧True)∧True)∧ac PP 180 #[.agg #[.pointer p39],.int .i64 n59] (fun v60 H20=>∃ a61:Option Addr,∃ l61:Nat,∃ c61:Nat,v60=.slice a61 l61 c61∧True∧aI PP (Builtin.append_ #[30,30] 30 #[.slice a61 l61 c61,.slice (some (⟨H11.size,0,none⟩:Addr)) 1 1]) (fun v62 H21=>∃ a63:Option Addr,∃ l63:Nat,∃ c63:Nat,v62=.slice a63 l63 c63∧True∧ac PP 178 #[.pointer (some ⟨mb,0,none⟩:Option Addr),.slice a63 l63 c63] (fun v64 H22=>∃ n5:Int,∃ n6:Int,v64=.tuple #[.int .i64 n5,.int .i64 n6]∧True∧J37 [.int .i64 n6,.int .i64 n5] H22) H21) H20) H19) (H11.push (.cells #[.int .i64 n35] 24))))∧∀ w67 H23,J37 w67 H23->∀ _g:Nat->Value,∃ n8:Int,∃ n9:Int,w67=[.int .i64 n8,.int .i64 n9]∧cond (n8 != 0) (Q (.tuple #[.int .i64 0,.int .i64 n8]) H23) (∃ q70,(some ⟨mb,0,none⟩:Option Addr)=some q70∧∃ p71:Option Addr,aa H23 q70=some (.pointer p71)∧∃ q72,p71=some q72∧∃ p73:Option Addr,aa H23 q72=some (.pointer p73)∧ac PP 182 #[.pointer p73,.int .i64 0,.int .i64 n9] (fun v74 H24=>∃ n75:Int,v74=.int .i64 n75∧ac PP 109 #[.int .i64 n35] (fun v76 H25=>∃ n77:Int,∃ n78:Int,v76=.tuple #[.int .i64 n77,.int .i64 n78]∧Q (.tuple #[.int .i64 n77,.int .i64 n78]) H25) H24) H23))) (H.push (.cells #[.int .i64 n,.int .i64 n29,.int .i64 l,.int .i64 n27,.int .i64 n27,.int .i64 n31,.int .i64 n33] 24)):=by
 have hm1:=hk.shape.many1
 have hcw:v.clsW.length=v.cls.length:=by simp [KV.clsW]
 subst e27 e31 e29 e33
 have hws:=d7 (n:=n) (up:=up) (l:=l) (k:=v.clsW.length) hn (cq hup.1 hup.2) hl (by omega)
 obtain ⟨b1,b2,b3,b4⟩:=jG hk (by omega) (cls:=12) (by decide) hws
 have fp:=(Fr.push [] H (.cells (aj (bC n up l v.clsW.length)).toArray 24))
 have hlt:=hM.k.lt
 rw [←hcw]
 unfold fu at h
 refine qF (s:=s) (ws:=bC n up l v.clsW.length) (hM.nil fp) (by decide) kI (fun p hp hm=>?_) (by decide) fun H' F' hM' hu=>⟨_,_,rfl,?_⟩
 ·cases hp
  exact absurd (hlt _ hm) (Nat.lt_irrefl _)
 rw [aX,af]
 have hu':=(Up.of_nil fp).trans hu
 refine aA (fun he=>?_) fun he=>?_
 ·rw [if_pos he] at h
  have:=h _ _ hM' hu'
  have hz:=(b3 he).2
  exact this
 rw [if_neg he] at h
 have hz:(s.make 12 (bC n up l v.clsW.length)).1.2=0:=Classical.byContradiction he
 obtain ⟨c,ec,est,c1,c2,_⟩:=b4 hz
 rw [ec] at h ⊢
 exact pi hM' b1 ⟨c1,c2⟩ (by rw [est,List.length_append];simp;omega) fun H2 F2 hM2 hu2=>h H2 F2 hM2 (hu'.trans hu2)
theorem vN (s:SP) (t:TB) (cw:List Int) (n up l:Int):(fu s t cw n up l).2.2=t:=by
 unfold fu
 split
 ·rfl
 ·unfold cL;split <;> rfl
theorem rz (hM:PM H mb b F s t cnt mk kp) (hk:KS s v){name:ByteArray}{up:Int} (hup:1<=up∧up<=65536) (hst:s.stack.length<60000){a:Option Addr}{l c:Nat}{own:List ByteArray} (hr:Rd 1 H a l (aZ own)) (hout:o7 H a l F) (hlk:l<=100000000)
  (h:∀ H' F',PM H' mb b F' (eY s t v.clsW name up own).2.1 (eY s t v.clsW name up own).2.2 cnt mk kp->Up F H F' H'->Q (.tuple #[.int .i64 (eY s t v.clsW name up own).1.1,.int .i64 (eY s t v.clsW name up own).1.2]) H') :
  ac PP DH #[.pointer (some ⟨mb,0,none⟩),.string name,.int .i64 up,.slice a l c] Q H:=by
 have hs1:aH PP 30=some (1,8,some (.int .i64 0)):=by kernel_rfl
 have hm1:=hk.shape.many1
 have hl:l=own.length:=by have:=hr.1;simpa [aZ] using this.symm
 apply yv
 unfold Ew A0 iV wW pV sV lV cS
 unfold eY at h
 refine lY hM fun H1 F1 hM1 hu1=>⟨_,_,rfl,?_⟩
 rw [aX,af]
 refine aA (fun h1=>?_) fun h1=>?_
 ·rw [if_pos h1] at h;exact h H1 F1 hM1 hu1
 rw [if_neg h1] at h
 have hz1:(t.add name).1.2=0:=Classical.byContradiction h1
 rw [if_pos hz1]
 obtain ⟨nn,en,en2,_⟩:=kn name hz1
 rw [en] at h ⊢
 generalize (t.add name).2=t1 at *
 have hout1:=hout.up hu1
 have hr1:=hout.rd hu1 hr
 refine ⟨fun w H'=>∃(i:Nat) (t':TB) (acc:List Int) (a':Option Addr) (l' c':Nat) (G F':az),w=[.slice a' l' c',.int .i64 i]∧i<=own.length∧PM H' mb b F' s t' cnt mk kp∧Up F1 H1 F' H'∧t'.addAll acc (own.drop i)=t1.addAll [] own∧bN 1 H' a' l' c' (aj acc) G∧(∀ x∈G,H1.size<=x∧x∉F')∧acc.length=i,fun w _=>match w with
  | [_,.int _ i]=>(own.length-i).toNat
  | _=>0,⟨0,t1,[],none,0,0,[],F1,rfl,Nat.zero_le _,hM1,Up.refl _ _,rfl,by simpa [aj] using bN.nil 1 H1,by simp,rfl⟩,?_⟩
 rintro w H2 ⟨i,t2,acc,a2,l2,c2,G,F2,rfl,hi,hM2,hu2,hadd,ho,hG,hacc⟩ _
 have hl2:l2=i:=by have:=ho.len;simp only [aj,List.length_map] at this;omega
 have hgm:=hM1.m.lt
 have hgk:=hM1.k.kinds.lt
 refine ⟨_,_,_,_,rfl,?_⟩
 rw [af]
 refine aA (fun hlt=>?_) fun hlt=>?_
 ·obtain ⟨p,hlt2,rfl,hcell⟩:=(hout1.rd hu2 hr1).str (i:=(i:Int)) (by omega) hlt
  simp only [Int.toNat_natCast] at hcell hlt2
  have e1:IntKind.wrap .i64 ((i:Int)+1)=((i+1:Nat):Int):=by rw [ah (by omega) (by omega)];omega
  have ed:own.drop i=own[i] :: own.drop (i+1):=List.drop_eq_getElem_cons hlt2
  rw [ed,TB.addAll] at hadd
  refine ⟨⟨by omega,hlt⟩,_,rfl,_,by rw [Int.toNat_natCast,Nat.mul_one];exact hcell,lY hM2 fun H3 F3 hM3 hu3=>⟨_,_,rfl,?_⟩⟩
  rw [aX,af]
  refine aA (fun h3=>?_) fun h3=>?_
  ·rw [if_pos h3] at hadd
   rw [if_pos (by rw [←hadd];exact h3),←hadd] at h
   exact h H3 F3 hM3 ((hu1.trans hu2).trans hu3)
  rw [if_neg h3] at hadd
  have hz3:(t2.add own[i]).1.2=0:=Classical.byContradiction h3
  rw [if_pos hz3]
  have hoG:∀ x∈G,x<H2.size:=ho.lt
  have ho3:bN 1 H3 a2 l2 c2 (aj acc) G:=ho.fr hu3.1 fun x hx=>(hG x hx).2
  refine bI hs1 rfl (by kernel_rfl) ho3 rfl (by simp [dB]) (by omega) (by decide) (by decide) fun a' c' G2 H4 g1 g2 g3=>⟨_,_,_,rfl,?_⟩
  rw [e1]
  have hG3:∀ x∈G,H1.size<=x∧x∉F3:=fun x hx=>⟨(hG x hx).1,Up.out hu3 (hG x hx).2 (hoG x hx)⟩
  have hF3lt:=hM3.k.lt
  have hM4:PM H4 mb b F3 s (t2.add own[i]).2 cnt mk kp:=⟨hM3.k.fr g2.1 (fun x hx hm=>(hG3 x hm).2 hx) (fun hm=>by have:=(hG3 _ hm).1;omega),hM3.m.fr g2.1 (fun hm=>by have:=(hG3 _ hm).1;omega),hM3.out⟩
  have hu4:Up F1 H1 F3 H4:=by
   have h12:=hu2.trans hu3
   refine ⟨⟨Nat.le_trans h12.1.1 g2.1.1,fun x hx hn=>?_⟩,h12.2⟩
   rw [g2.1.2 x (Nat.lt_of_lt_of_le hx h12.1.1) (fun hm=>by have:=(hG3 x hm).1;omega),h12.1.2 x hx hn]
  refine ⟨⟨i+1,_,_,a',l2+1,c',G2,F3,rfl,by omega,hM4,hu4,hadd,?_,fun x hx=>?_,by simp [hacc]⟩,by simp;omega⟩
  ·rw [bO];exact g1
  ·rcases g2.2 x hx with h5 | h5
   ·exact hG3 x h5
   ·exact ⟨Nat.le_trans (hu2.trans hu3).1.1 h5,fun hm=>by have:=hF3lt x hm;omega⟩
 ·have hil:i=own.length:=by omega
  rw [hil,List.drop_length,TB.addAll] at hadd
  rw [if_neg (by rw [←hadd];simp),←hadd] at h
  simp only at h
  unfold iv at h
  have hu12:=hu1.trans hu2
  have hall:=jg (t:=t1) [] own (by rw [←hadd])
  rw [←hadd] at hall
  simp only at hall
  obtain ⟨ns,ens,ens2⟩:=hall
  rw [List.nil_append] at ens
  have hwt2:=hM2.k.wft
  have hns:∀ n∈ns,n<t2.texts.length:=fun n hn=>by
   have:t2.texts[n]?∈own.map some:=by rw [←ens2];exact List.mem_map.2 ⟨n,hn,rfl⟩
   obtain ⟨s,_,hs⟩:=List.mem_map.1 this
   exact (dS hs.symm).2
  have hnn:nn<t2.texts.length:=by
   have h5:=(dS en2).2
   have h6:=(fF t1 [] own).2
   rw [←hadd] at h6
   obtain ⟨m,e⟩:=h6
   rw [e,List.length_append];omega
  have hws:∀ w∈acc,cW w:=fun w hw=>by
   rw [ens] at hw
   obtain ⟨x,hx,rfl⟩:=List.mem_map.1 hw
   exact jH hwt2 (hns x hx)
  obtain ⟨a1,a2',⟨m1,a3,a3'⟩,a4⟩:=gi hk (by omega) hws
  refine oR hM2 ho.rd (fun p hp=>?_) (by omega) fun H3 F3 hM3 hu3=>⟨_,_,rfl,?_⟩
  ·rcases ho.2.2 with ⟨h5,_⟩ | ⟨b',cs,h5,h6,_⟩
   ·rw [h5] at hp;cases hp
   ·rw [h5] at hp;cases hp
    exact (hG b' (by rw [h6];simp)).2
  have hu13:=hu12.trans hu3
  rw [aX,af]
  refine aA (fun h5=>?_) fun h5=>?_
  ·rw [if_pos h5] at h;exact h H3 F3 hM3 hu13
  rw [if_neg h5] at h
  have hz5:(s.array acc).1.2=0:=Classical.byContradiction h5
  obtain ⟨lo,elo,lo1,lo2,_⟩:=a4 hz5
  refine ⟨_,rfl,_,hM3.m.cell 0,ov hM3.k a1 fun H4 f4=>⟨_,rfl,bV (by decide) ⟨_,rfl,bV hup ⟨_,rfl,gD (by decide) ⟨_,rfl,?_⟩⟩⟩⟩⟩
  have ew:IntKind.wrap .i64 ((v.cls.length:Int)+1)=(v.cls.length:Int)+1:=ah (by omega) (by omega)
  rw [ew]
  refine gD ⟨by omega,by omega⟩ ⟨_,rfl,?_⟩
  have hu4:Up F3 H3 F3 H4:=Up.of_nil f4
  refine o9 (hM3.nil f4) a1 (jH hwt2 hnn) hup (by rw [elo];exact cq lo1 lo2) (by rw [a3,List.length_append];omega) rfl rfl rfl rfl fun H5 F5 hM5 hu5=>?_
  have et:(fu (s.array acc).2 t2 v.clsW (4*(nn:Int)+2) up (s.array acc).1.1).2.2=t2:=vN _ _ _ _ _ _
  exact h H5 F5 (by rw [et];exact hM5) ((hu13.trans hu4).trans hu5)
end
section
variable {H:ae}{b:Nat}{F:az}{s:SP}{t:TB}{v:KV}{Q:QT}
theorem sr (hK:PK H b F s t) (hv:KAllW s t v){name sup:ByteArray}{a:Option Addr}{l c:Nat}{own:List ByteArray} (hr:Rd 1 H a l (aZ own)) (hout:o7 H a l F) (hlc:l<=c) (hlk:l<=1000000000000000)
  (h:∀ H' F',PK H' b F' (bf s v t name sup own).2.1 (bf s v t name sup own).2.2->Up F H F' H'->Q (.tuple #[.int .i64 (bf s v t name sup own).1.1,.int .i64 (bf s v t name sup own).1.2]) H') :
  ac PP B9 #[.pointer (some ⟨b,0,none⟩),.string name,.string sup,.slice a l c] Q H:=by
 apply zM
 unfold ED iV pV sV lV cS
 unfold bf at h
 refine gH hK ⟨_,rfl,?_⟩
 simp only [Bool.not_true,cond_false]
 refine nJ hK hv hr hlc (by omega) fun H1 hf1=>⟨_,_,rfl,?_⟩
 rw [aX,af]
 refine aA (fun h1=>?_) fun h1=>?_
 ·rw [if_pos h1] at h;exact h H1 F (hK.nil hf1) (Up.of_nil hf1)
 rw [if_neg h1] at h
 obtain ⟨j,hj,ej,hlt,hno,_,_⟩:=wE hv (Classical.byContradiction h1)
 rw [ej] at h ⊢
 have hb:=mH hv.ks hj
 have hst:s.stack.length<60000:=hv.top
 refine wP (hK.nil hf1) fun H2 mb hM2 hf2=>⟨_,rfl,?_⟩
 have hf12:=hf1.trans hf2
 have hu2:Up F H F H2:=Up.of_nil hf12
 have hl32:=ui (Classical.byContradiction h1)
 refine rz hM2 hv.ks hb hst (hout.rd hu2 hr) (hout.up hu2) (by have:=hr.1;simp only [aZ,List.length_map] at this;omega) fun H3 F3 hM3 hu3=>⟨_,_,rfl,?_⟩
 refine Dr hM3 ⟨by omega,by omega⟩ fun H4 hK4 hf4=>⟨_,rfl,?_⟩
 have hu4:Up F H F3 H4:=(hu2.trans hu3).trans ⟨hf4,fun _ h=>.inl h⟩
 have:=h H4 F3 hK4 hu4
 unfold bn at this
 rw [aX,af]
 refine aA (fun h2=>?_) fun h2=>?_
 ·rw [if_neg h2] at this;exact this
 ·have hz:=Classical.byContradiction h2
  rw [if_pos hz] at this
  have e0:(eY s t v.clsW name (v.cls[j]).oop own).1.2=0:=hz
  rw [e0] at this
  exact this
theorem dD (hK:PK H b F s t) (h:∀ sb F1,aa H ⟨b,0,none⟩=some (.pointer (some ⟨sb,0,none⟩))->eA H sb F1 s->(∀ x∈F1,x∈F)->(∀ H' F1' s',eA H' sb F1' s'->Up F1 H F1' H'->∃ F',PK H' b F' s' t∧Up F H F' H')->(∀ H' s',eA H' sb F1 s'->Fr F1 H H'->PK H' b F s' t)->Q (.pointer (some ⟨sb,0,none⟩)) H):ac PP yd #[.pointer (some ⟨b,0,none⟩)] Q H:=by
 obtain ⟨sb,F1,hc,hS,hsub,_,hup,hup2⟩:=hK.sp
 apply yJ
 unfold Er pV
 exact ⟨_,rfl,_,hc,h sb F1 hc hS hsub hup hup2⟩
theorem pr (hK:PK H b F s t) (h:∀ tb F1,aa H ⟨b,1,none⟩=some (.pointer (some ⟨tb,0,none⟩))->kx H tb F1 t->Q (.pointer (some ⟨tb,0,none⟩)) H):ac PP Dk #[.pointer (some ⟨b,0,none⟩)] Q H:=by
 obtain ⟨tb,F1,hc,hT,_⟩:=hK.tb
 apply uv
 unfold Eh pV
 exact ⟨_,rfl,_,hc,h tb F1 hc hT⟩
end
end Go.Proofs.YtgcoppcogllpbaaGreatDoor
namespace Kw
open Go
theorem DC (s j:Nat):(255*2 ^ s).testBit j=(decide (s<=j) && decide (j-s<8)):=by
 rw [←Nat.shiftLeft_eq,Nat.testBit_shiftLeft]
 have:(255:Nat)=2 ^ 8-1:=rfl
 rw [this,Nat.testBit_two_pow_sub_one]
theorem Fp (w s j:Nat):(w*2 ^ s).testBit j=(decide (s<=j) && w.testBit (j-s)):=by
 rw [←Nat.shiftLeft_eq,Nat.testBit_shiftLeft]
theorem qj {w s:Nat} (hw:w<256) (hs:s<=24):ee .i64 (w:Int) (s:Int)=((w*2 ^ s:Nat):Int):=by
 have h1:2 ^ s<=2 ^ 24:=Nat.pow_le_pow_right (by decide) hs
 have h2:w*2 ^ s<=255*2 ^ 24:=Nat.mul_le_mul (by omega) h1
 have h3:((w:Int)*((2 ^ s:Nat):Int))=((w*2 ^ s:Nat):Int):=by rw [Int.natCast_mul]
 rw [iD _ _ (by omega) (by rw [h3];constructor <;> omega),h3]
theorem gL (n:Nat):BitVec.ofInt 64 (n:Int)=BitVec.ofNat 64 n:=by simp
def dP (n w s:Nat):Nat:=(BitVec.ofNat 64 n &&& ~~~(BitVec.ofNat 64 (255*2 ^ s)) ||| BitVec.ofNat 64 (w*2 ^ s)).toNat
theorem iW {n w s:Nat} (hn:n<4294967296) (hw:w<256) (hs:s<=24) (i:Nat):(dP n w s).testBit i=((n.testBit i && !(decide (s<=i) && decide (i-s<8))) || (decide (s<=i) && w.testBit (i-s))):=by
 unfold dP
 rw [BitVec.testBit_toNat,BitVec.getLsbD_or,BitVec.getLsbD_and,BitVec.getLsbD_not,BitVec.getLsbD_ofNat,BitVec.getLsbD_ofNat,BitVec.getLsbD_ofNat,DC,Fp]
 by_cases h:i<64
 ·simp [h]
 ·have h1:n.testBit i=false:=Nat.testBit_lt_two_pow (Nat.lt_of_lt_of_le hn (by
   have:2 ^ 32<=2 ^ i:=Nat.pow_le_pow_right (by decide) (by omega)
   exact this))
  have h2:w.testBit (i-s)=false:=Nat.testBit_lt_two_pow (Nat.lt_of_lt_of_le hw (by
   have:2 ^ 8<=2 ^ (i-s):=Nat.pow_le_pow_right (by decide) (by omega)
   exact this))
  simp [h,h1,h2]
theorem oa {n w s:Nat} (hn:n<4294967296) (hw:w<256) (hs:s<=24):dP n w s<4294967296:=by
 have:dP n w s<2 ^ 32:=by
  refine Nat.lt_pow_two_of_testBit _ fun i hi=>?_
  rw [iW hn hw hs]
  have h1:n.testBit i=false:=Nat.testBit_lt_two_pow (Nat.lt_of_lt_of_le hn (by
   have:2 ^ 32<=2 ^ i:=Nat.pow_le_pow_right (by decide) (by omega)
   exact this))
  have h2:w.testBit (i-s)=false:=Nat.testBit_lt_two_pow (Nat.lt_of_lt_of_le hw (by
   have:2 ^ 8<=2 ^ (i-s):=Nat.pow_le_pow_right (by decide) (by omega)
   exact this))
  simp [h1,h2]
 exact this
theorem pJ {n w s:Nat} (hn:n<4294967296) (hw:w<256) (hs:s<=24):dP n w s / 2 ^ s % 256=w:=by
 have:dP n w s / 2 ^ s % 2 ^ 8=w:=by
  refine Nat.eq_of_testBit_eq fun i=>?_
  rw [Nat.testBit_mod_two_pow,Nat.testBit_div_two_pow,iW hn hw hs]
  by_cases h:i<8
  ·have h1:s<=i+s:=by omega
   have h2:i+s-s=i:=by omega
   simp [h,h1,h2]
  ·have h2:w.testBit i=false:=Nat.testBit_lt_two_pow (Nat.lt_of_lt_of_le hw (by
    have:2 ^ 8<=2 ^ i:=Nat.pow_le_pow_right (by decide) (by omega)
    exact this))
   simp [h,h2]
 exact this
theorem oo {n w s s':Nat} (hn:n<4294967296) (hw:w<256) (hs:s<=24) (hd:s'+8<=s∨s+8<=s'):dP n w s / 2 ^ s' % 256=n / 2 ^ s' % 256:=by
 have:dP n w s / 2 ^ s' % 2 ^ 8=n / 2 ^ s' % 2 ^ 8:=by
  refine Nat.eq_of_testBit_eq fun i=>?_
  rw [Nat.testBit_mod_two_pow,Nat.testBit_div_two_pow,iW hn hw hs,Nat.testBit_mod_two_pow,Nat.testBit_div_two_pow]
  by_cases h:i<8
  ·rcases hd with hd | hd
   ·have h1:¬ s<=i+s':=by omega
    simp [h,h1]
   ·have h1:¬ (i+s'-s<8):=by omega
    have h2:w.testBit (i+s'-s)=false:=Nat.testBit_lt_two_pow (Nat.lt_of_lt_of_le hw (by
     have:2 ^ 8<=2 ^ (i+s'-s):=Nat.pow_le_pow_right (by decide) (by omega)
     exact this))
    simp [h,h1,h2]
  ·simp [h]
 exact this
theorem t7 {n w s:Nat} (hn:n<4294967296) (hw:w<256) (hs:s<=24):rb .i64 (ip .i64 (n:Int) (ee .i64 255 (s:Int))) (ee .i64 (w:Int) (s:Int))=(dP n w s:Int):=by
 have e255:ee .i64 255 (s:Int)=((255*2 ^ s:Nat):Int):=qj (w:=255) (by decide) hs
 have e1:ip .i64 (n:Int) (ee .i64 255 (s:Int))=((BitVec.ofNat 64 n &&& ~~~(BitVec.ofNat 64 (255*2 ^ s))).toNat:Int):=by
  unfold ip
  rw [e255]
  show IntKind.wrap .i64 ((BitVec.ofInt 64 (n:Int) &&& ~~~(BitVec.ofInt 64 ((255*2 ^ s:Nat):Int))).toNat:Int)=_
  rw [gL,gL]
  have h1:(BitVec.ofNat 64 n &&& ~~~(BitVec.ofNat 64 (255*2 ^ s))).toNat<=n:=by
   rw [BitVec.toNat_and]
   refine Nat.le_trans Nat.and_le_left ?_
   rw [BitVec.toNat_ofNat];exact Nat.mod_le _ _
  exact fI (by omega) (by omega)
 rw [e1,qj hw hs]
 unfold rb
 show IntKind.wrap .i64 ((BitVec.ofInt 64 ((BitVec.ofNat 64 n &&& ~~~(BitVec.ofNat 64 (255*2 ^ s))).toNat:Int) ||| BitVec.ofInt 64 ((w*2 ^ s:Nat):Int)).toNat:Int)=_
 rw [gL,gL,BitVec.ofNat_toNat,BitVec.setWidth_eq]
 have h2:=oa hn hw hs
 unfold dP at h2 ⊢
 exact fI (by omega) (by omega)
end Kw
namespace Go.Proofs.YtgcoppcogllpbaaGreatDoor
open Kw
section
variable {H:ae}{hb:Nat}{W T B:Int->Int}{low:Int}{r:RH}{Q:QT}
theorem vA (hw:WFH r) (hs:SimH W T B low r){o:RO}{k i w:Int} (ho:al r.objs k=some o) (h0:0<=i) (h1:i<o.slots.length) (hf:o.fmt=1) (w0:0<=w) (w1:w<=255) :
  SimH (upd W (o.place+2+i / 4) (dP (W (o.place+2+i / 4)).toNat w.toNat (i % 4*8).toNat:Nat)) T B low { r with objs:=eR r.objs k (cC i w) }:=by
 have hom:=au ho
 have hlen:o.len=2+((o.slots.length:Int)+3) / 4:=by unfold RO.len lenOf;rw [if_pos hf]
 obtain ⟨n0,n1⟩:=hs.byr o hom.1 hf (o.place+2+i / 4) (by omega) (by omega)
 have hn:(W (o.place+2+i / 4)).toNat<4294967296:=by omega
 have hwn:w.toNat<256:=by omega
 have hsn:(i % 4*8).toNat<=24:=by omega
 have key:∀ o'∈eR r.objs k (cC i w),∃ a∈r.objs,(a.oop=k∧a=o∧o'=cC i w o)∨(a.oop≠k∧o'=a∧(a.place+a.len<=o.place∨o.place+o.len<=a.place)):=by
  intro o' ho'
  simp only [eR,List.mem_map] at ho'
  obtain ⟨a,ha,rfl⟩:=ho'
  refine ⟨a,ha,?_⟩
  split
  ·rename_i hk
   have:a=o:=by have:=bW hw.objs ha;rw [hk,ho] at this;exact (Option.some.inj this).symm
   exact .inl ⟨hk,this,by rw [this]⟩
  ·rename_i hk
   exact .inr ⟨hk,rfl,apart hw.objs ha hom.1 (by rw [hom.2];exact hk)⟩
 refine { tab:=fun j g0 g1=>?_,bor:=fun o' ho'=>?_,cls:=fun o' ho'=>?_,shp:=fun o' ho'=>?_,wrd:=fun o' ho' hf' j hj=>?_,byt:=fun o' ho' hf' j hj=>?_,byr:=fun o' ho' hf' j hj1 hj2=>?_,low1:=hs.low1,low2:=hs.low2,low3:=fun j g0 g1=>?_ }
 ·rw [hs.tab j g0 g1]
  have e:=ce (l:=r.objs) (k:=k) (j:=j) (f:=cC i w) fun _=>rfl
  simp only [e]
  cases al r.objs j with
  | none=>rfl
  | some a=>simp only [Option.map_some];split <;> rfl
 ·obtain ⟨a,ha,⟨hk,rfl,rfl⟩ | ⟨hk,rfl,hd⟩⟩:=key o' ho'
  ·exact hs.bor a ha
  ·exact hs.bor _ ha
 ·obtain ⟨a,ha,⟨hk,rfl,rfl⟩ | ⟨hk,rfl,hd⟩⟩:=key o' ho'
  ·show upd W _ _ a.place=a.cls
   rw [upd,if_neg (by omega)];exact hs.cls _ ha
  ·have:=o'.len_pos
   rw [upd,if_neg (by omega)];exact hs.cls _ ha
 ·obtain ⟨a,ha,⟨hk,rfl,rfl⟩ | ⟨hk,rfl,hd⟩⟩:=key o' ho'
  ·show upd W _ _ (a.place+1)=2*(((a.slots.set i.toNat w).length:Nat):Int)+a.fmt
   rw [upd,if_neg (by omega),List.length_set];exact hs.shp _ ha
  ·have:=o'.len_pos
   rw [upd,if_neg (by omega)];exact hs.shp _ ha
 ·obtain ⟨a,ha,⟨hk,rfl,rfl⟩ | ⟨hk,rfl,hd⟩⟩:=key o' ho'
  ·have:a.fmt=0:=hf'
   omega
  ·have hl:o'.len=2+(o'.slots.length:Int):=by unfold RO.len lenOf;rw [if_neg (by omega)]
   rw [upd,if_neg (by omega)];exact hs.wrd _ ha hf' j hj
 ·obtain ⟨a,ha,⟨hk,rfl,rfl⟩ | ⟨hk,rfl,hd⟩⟩:=key o' ho'
  ·have hj':j<a.slots.length:=by simpa [cC] using hj
   show upd W _ _ (a.place+2+(j / 4:Nat)) / ((2 ^ (j % 4*8):Nat):Int) % 256=(a.slots.set i.toNat w).getD j 0
   have hold:=hs.byt _ ha hf j hj'
   unfold upd
   split
   ·rename_i he
    have e4:(j / 4:Nat)=i / 4:=by omega
    by_cases hji:i.toNat=j
    ·have es:j % 4*8=(i % 4*8).toNat:=by omega
     rw [es]
     have:=pJ hn hwn hsn
     have h2:((dP (W (a.place+2+i / 4)).toNat w.toNat (i % 4*8).toNat:Nat):Int) / ((2 ^ (i % 4*8).toNat:Nat):Int) % 256=(w.toNat:Int):=by
      rw [←Int.natCast_ediv]
      have h3:=congrArg (fun x:Nat=>(x:Int)) this
      simp only [Int.natCast_emod] at h3
      exact h3
     rw [h2]
     simp [hji,hj']
     omega
    ·have:=oo (s':=j % 4*8) hn hwn hsn (by omega)
     have h2:((dP (W (a.place+2+i / 4)).toNat w.toNat (i % 4*8).toNat:Nat):Int) / ((2 ^ (j % 4*8):Nat):Int) % 256=W (a.place+2+i / 4) / ((2 ^ (j % 4*8):Nat):Int) % 256:=by
      rw [←Int.natCast_ediv]
      have h3:=congrArg (fun x:Nat=>(x:Int)) this
      simp only [Int.natCast_emod] at h3
      rw [Int.natCast_ediv (W (a.place+2+i / 4)).toNat,Int.toNat_of_nonneg n0] at h3
      exact h3
     rw [h2]
     have e5:a.place+2+((j / 4:Nat):Int)=a.place+2+i / 4:=by omega
     rw [e5] at hold
     rw [hold]
     simp [List.getElem?_set,hji]
   ·rename_i he
    have hji:i.toNat≠j:=by omega
    rw [hold]
    simp [List.getElem?_set,hji]
  ·have hl:o'.len=2+((o'.slots.length:Int)+3) / 4:=by unfold RO.len lenOf;rw [if_pos hf']
   rw [upd,if_neg (by omega)];exact hs.byt _ ha hf' j hj
 ·obtain ⟨a,ha,⟨hk,rfl,rfl⟩ | ⟨hk,rfl,hd⟩⟩:=key o' ho'
  ·have hl2:(cC i w a).len=a.len:=fk i w a
   have hj2':j<a.place+a.len:=by
    have:(cC i w a).place=a.place:=rfl
    omega
   have hj1':a.place+2<=j:=hj1
   unfold upd
   split
   ·have:=oa hn hwn hsn
    omega
   ·exact hs.byr _ ha hf j hj1' hj2'
  ·rw [upd]
   split
   ·rename_i he
    have hl:o'.len=2+((o'.slots.length:Int)+3) / 4:=by unfold RO.len lenOf;rw [if_pos hf']
    omega
   ·exact hs.byr _ ha hf' j hj1 hj2
 ·have:=hs.low3 j g0 g1
  have e:=ce (l:=r.objs) (k:=k) (j:=j) (f:=cC i w) fun _=>rfl
  simp only [e]
  cases hj:al r.objs j with
  | none=>exact absurd hj this
  | some a=>simp
theorem zy {F:az} (hR:bQ H hb F r){k i w:Int} (h:∀ H',bQ H' hb F (r.put k i w).2->Fr F H H'->Q (.int .i64 (r.put k i w).1) H'):ac PP pu #[.pointer (some ⟨hb,0,none⟩),.int .i64 k,.int .i64 i,.int .i64 w] Q H:=by
 cases ho:al r.objs k with
 | none=>exact kl hR (fun o h=>by rw [ho] at h;cases h) h
 | some o =>
  by_cases hf0:o.fmt=0
  ·exact kl hR (fun o' h=>by rw [ho] at h;cases h;exact hf0) h
  have hR0:=hR
  obtain ⟨wb,tb,bb,W,T,B,low,rfl,hR⟩:=hR
  have hm:=(au ho).1
  have hf1:o.fmt=1:=by have:=(hR.wf.objs.good o hm).fmt;omega
  apply qP
  unfold zK iV pV lV cS
  refine pA hR ?_
  unfold nQ
  have hwf:=iS hR.wf k i w
  unfold RH.put at h hwf
  rw [ho] at h hwf ⊢
  obtain ⟨h1,h2,h3,h4,h5,h6⟩:=hR.in_ hm
  simp only at h hwf ⊢
  split
  ·rename_i hi
   simp only [if_pos hi] at h
   exact ⟨_,_,_,_,rfl,by simpa using h H hR0 (Fr.refl _ _)⟩
  ·rename_i hi
   simp only [if_neg hi] at h hwf
   have hs:=(mW hR hm (i:=i) (by omega) (by omega)).1 hf1
   first | rw [if_pos hf1] | skip
   refine ⟨_,_,_,_,rfl,?_⟩
   simp only [af,cond_true,cond_false,Option.isNone_some,Option.isNone_none,aE,ay,aP,aJ,aF,aK,aL,aw,aN,aM,aD,aO,and_assoc,true_and,and_true,ak,Nat.zero_add,Nat.mul_one,ao,am,av,Bool.not_true,Bool.not_false,aU,aX,ne_eq,not_true_eq_false,if_false]
   refine ye hR.kinds ⟨_,rfl,?_⟩
   by_cases hmay:eS o.fmt w
   ·simp only [hmay,not_true_eq_false,if_false] at h hwf
    have hmay':eS 1 w:=hf1 ▸ hmay
    have hw01:0<=w∧w<=255:=by unfold eS at hmay';rwa [if_pos rfl] at hmay'
    have hsg:¬ (i % 4*8<0):=by omega
    obtain ⟨n0,n1⟩:=hR.sim.byr o hm hf1 (o.place+2+i / 4) (by omega) (by omega)
    have hcw:=hR.word (i:=o.place+2+i / 4) (by omega) (by omega)
    have ew:rb .i64 (ip .i64 (W (o.place+2+i / 4)) (ee .i64 255 (i % 4*8))) (ee .i64 w (i % 4*8))=((dP (W (o.place+2+i / 4)).toNat w.toNat (i % 4*8).toNat:Nat):Int):=by
     have:=t7 (n:=(W (o.place+2+i / 4)).toNat) (w:=w.toNat) (s:=(i % 4*8).toNat) (by omega) (by omega) (by omega)
     rw [Int.toNat_of_nonneg n0,Int.toNat_of_nonneg hw01.1,Int.toNat_of_nonneg (by omega:0<=i % 4*8)] at this
     exact this
    simp only [af,cond_true,cond_false,Option.isNone_some,Option.isNone_none,aE,ay,aP,aJ,aF,aK,aL,aw,aN,aM,aD,aO,and_assoc,true_and,and_true,ak,Nat.zero_add,Nat.mul_one,ao,am,av,Bool.not_true,Bool.not_false,aU,aX,hmay',decide_true,hR.c0,hcw,hsg,decide_false,if_false,if_true,not_true_eq_false]
    refine ⟨by omega,by omega,by omega,by omega,hR.mw.wr (by omega) (by omega),?_⟩
    rw [ew]
    refine h _ ⟨wb,tb,bb,upd W (o.place+2+i / 4) ((dP (W (o.place+2+i / 4)).toNat w.toNat (i % 4*8).toNat:Nat):Int),T,B,low,rfl,?_⟩ (Fr.set (by simp))
    have hd:=hR.d
    simp only [List.nodup_cons,List.mem_cons,List.not_mem_nil,or_false,not_or] at hd
    refine { hd:=?_,mw:=hR.mw.set (by omega) _,mt:=hR.mt.set_ne (by simp;omega) _,mb:=hR.mb.set_ne (by simp;omega) _,d:=hR.d,kinds:=hR.kinds.fr (Fr.set (F:=[wb]) (by simp)) (by simp;omega),wf:=hwf,sim:=vA hR.wf hR.sim ho (by omega) (by omega) hf1 hw01.1 hw01.2 }
    have:=hR.hd.set_ne (a:=⟨wb,(o.place+2+i / 4).toNat,none⟩) (by simp;omega) (.int .i64 ((dP (W (o.place+2+i / 4)).toNat w.toNat (i % 4*8).toNat:Nat):Int))
    simp only [oh,iR (k:=k) (f:=cC i w) (l:=r.objs) (fun _=>rfl) (fk i w)]
    exact this
   ·simp only [hmay,not_false_eq_true,if_true] at h
    have hmay':¬ eS 1 w:=hf1 ▸ hmay
    simp only [af,cond_true,cond_false,Option.isNone_some,Option.isNone_none,aE,ay,aP,aJ,aF,aK,aL,aw,aN,aM,aD,aO,and_assoc,true_and,and_true,ak,Nat.zero_add,Nat.mul_one,ao,am,av,Bool.not_true,Bool.not_false,aU,aX,hmay',decide_false,if_false,not_false_eq_true,if_true]
    exact h H hR0 (Fr.refl _ _)
end
end Go.Proofs.YtgcoppcogllpbaaGreatDoor
namespace Kw
open Go
def aq:List (Int × Int):=[(5,0),(6,0),(7,0),(12,7),(12,7),(12,7),(12,7),(12,7),(12,7),(12,7),(12,7),(12,7),(12,7),(12,7),(12,7),(12,7),(12,7),(11,0),(11,8),(11,14)]
def RH.allocAll (r:RH):List (Int × Int)->Int × RH
 | []=>(0,r)
 | (c,n) :: l=>if (r.alloc (4*c) n 0).1.2≠0 then ((r.alloc (4*c) n 0).1.2,(r.alloc (4*c) n 0).2) else RH.allocAll (r.alloc (4*c) n 0).2 l
def qx (p:List RO × Int) (x:Int × Int):List RO × Int:=(p.1++[⟨bk p.1,0,aQ p.1,p.2,4*x.1,List.replicate x.2.toNat 4⟩],IntKind.wrap .i64 (p.2+1))
def jK (p:List RO × Int):List (Int × Int)->List RO × Int
 | []=>p
 | x :: l=>jK (qx p x) l
theorem pO {r:RH} (hm:r.mark=0){c n:Int} (h:(r.alloc (4*c) n 0).1.2=0):(r.alloc (4*c) n 0).2={ r with objs:=(qx (r.objs,r.born) (c,n)).1,born:=(qx (r.objs,r.born) (c,n)).2 }:=by
 unfold RH.alloc at h ⊢
 split at h
 ·cases h
 rename_i g1
 split at h
 ·cases h
 rename_i g2
 split at h
 ·cases h
 rename_i g3
 split at h
 ·cases h
 rename_i g4
 rw [if_neg g1,if_neg g2,if_neg g3,if_neg g4]
 simp [qx,bF,hm]
theorem gT (l:List (Int × Int)):∀ {r:RH},r.mark=0->(r.allocAll l).1=0->(r.allocAll l).2={ r with objs:=(jK (r.objs,r.born) l).1,born:=(jK (r.objs,r.born) l).2 }:=by
 induction l with
 | nil=>intro r _ _;rfl
 | cons x l ih =>
  intro r hm h
  obtain ⟨c,n⟩:=x
  unfold RH.allocAll at h ⊢
  split at h
  ·rename_i hn;exact absurd h hn
  rename_i hn
  rw [if_neg hn]
  have e:=pO hm (Classical.byContradiction hn)
  have:=ih (r:=(r.alloc (4*c) n 0).2) (by rw [e];exact hm) h
  rw [this,e]
  rfl
theorem oJ (l:List (Int × Int)):∀ {r:RH},WFH r->WFH (r.allocAll l).2:=by
 induction l with
 | nil=>intro r h;exact h
 | cons x l ih =>
  intro r h
  obtain ⟨c,n⟩:=x
  unfold RH.allocAll
  split
  ·exact eZ h _ _ _
  ·exact ih (eZ h _ _ _)
def br:List ByteArray:=[⟨#[79,98,106,101,99,116]⟩,⟨#[85,110,100,101,102,105,110,101,100,79,98,106,101,99,116]⟩,⟨#[70,97,108,115,101]⟩,⟨#[84,114,117,101]⟩,⟨#[73,110,116,101,103,101,114]⟩,⟨#[83,121,109,98,111,108]⟩,⟨#[83,116,114,105,110,103]⟩,⟨#[65,114,114,97,121]⟩,⟨#[67,108,97,115,115]⟩,⟨#[77,101,116,104,111,100]⟩,⟨#[66,108,111,99,107]⟩,⟨#[67,111,110,116,101,120,116]⟩,⟨#[80,114,111,99,101,115,115]⟩,⟨#[77,101,115,115,97,103,101]⟩]
def cX (i:Nat):List Int:=[4*(i:Int)+2,if i=0 then 4 else 16,72,72,72,1,2*((i:Int)+1)+1]
def xW (i:Nat) (r:RH):RH:=((r.lay (4+i) 0 (cX i)).put 20 i (4*(4+i))).2
def gN (r:RH):Nat->RH
 | 0=>r
 | n+1=>xW n (gN r n)
def nW:List Int:=[80,72,72,72,4,8,12]
def cY (r:RH):RH:=(gN r 14).lay 19 0 nW
def eE:List RO:=(jK ([],0) aq).1
def bw (words oops:Int):RH:=⟨words,oops,0,0,0,[]⟩
def bo (words oops:Int):RH:=cY (((bw words oops).allocAll aq).2)
def dm (words oops:Int):SP:=⟨bo words oops,19,[],false,0,0,0⟩
def bZ:TB:=⟨4096,br⟩
def bm:KV:=⟨(List.range 14).map fun i:Nat=>⟨4+i,i,if i=0 then 1 else 4,[],18,18,18,[],[],0⟩,20,[],18,[72,72,4,8,12,4]⟩
def uf:List (Int × List Int):=[(1,[]),(2,[]),(3,[])]++(List.range 14).map (fun i:Nat=>((4+i:Int),cX i))++[(18,[]),(19,[80,72,72,72,4,8,12,4]),(20,(List.range 14).map fun i:Nat=>4*(4+(i:Int)))]
theorem oX (w o m b t:Int):((cY ⟨w,o,m,b,t,eE⟩).objs.map fun x=>(x.oop,x.slots))=uf:=by kernel_rfl
theorem lH (w o m b t:Int):((cY ⟨w,o,m,b,t,eE⟩).objs.all fun x=>decide (x.fmt=0) && decide (bg x.cls=3))=true:=by kernel_rfl
theorem ro:(eE.all fun x=>decide (x.fmt=0))=true:=by kernel_rfl
theorem ju:(br.all fun s=>decide (bi s))=true:=by kernel_rfl
theorem iA:br.Nodup:=by decide +kernel
theorem rU {words oops:Int} (h0:0<=words) (h1:words<=1048576) (h2:0<=oops) (h3:oops<=65536):WFH (bw words oops) :=
 ⟨h0,h1,h2,h3,Int.le_refl _,by simp [bw],⟨by simp [bw],by simp [bw]⟩⟩
theorem tF {r:RH} (h:WFH r) (n:Nat):WFH (gN r n):=by
 induction n with
 | zero=>exact h
 | succ n ih=>exact iS (pU ih _ _ _) _ _ _
theorem tY {r:RH} (h:WFH r):WFH (cY r):=pU (tF h 14) _ _ _
theorem un:WFT bZ:=⟨by decide,by decide,by decide,iA,fun s hs=>by simpa using List.all_eq_true.1 ju s hs⟩
theorem xo {i:Nat} (hi:i<br.length):TB.add ⟨4096,br.take i⟩ br[i]=(((i:Int),0),⟨4096,br.take (i+1)⟩):=by
 have hg:bi br[i]:=by simpa using List.all_eq_true.1 ju _ (List.getElem_mem hi)
 have hn:bB (br.take i) br[i]=none:=ik.2 fun hm=>by
  obtain ⟨j,hj,e⟩:=List.getElem_of_mem hm
  rw [List.getElem_take] at e
  have:=(List.getElem_inj iA).1 e
  simp only [List.length_take] at hj
  omega
 have h14:br.length=14:=rfl
 unfold TB.add
 rw [if_neg (by simpa using hg)]
 simp only [hn]
 rw [if_neg (by simp only [List.length_take];omega)]
 have e1:(br.take i).length=i:=by rw [List.length_take];omega
 rw [e1,List.take_add_one,List.getElem?_eq_getElem hi]
 rfl
theorem rc:(bm.roles.all fun p=>decide (p∈uf))=true:=by kernel_rfl
theorem xL:Cs bm:=by unfold Cs;decide +kernel
theorem j0 {words oops:Int} (h:((bw words oops).allocAll aq).1=0):(bo words oops).objs=(cY ⟨words,oops,0,20,0,eE⟩).objs:=by
 have e:((bw words oops).allocAll aq).2=⟨words,oops,0,20,0,eE⟩:=by
  rw [gT aq (r:=bw words oops) rfl h]
  kernel_rfl
 unfold bo
 rw [e]
theorem qr {words oops:Int} (hw:WFH (bo words oops)) (h:((bw words oops).allocAll aq).1=0){p:ll} (hp:p∈uf):dN (bo words oops) p.1 p.2:=by
 have e:=j0 h
 rw [←oX words oops 0 20 0,←e] at hp
 obtain ⟨x,hx,rfl⟩:=List.mem_map.1 hp
 have hf:=lH words oops 0 20 0
 rw [←e] at hf
 have:=List.all_eq_true.1 hf x hx
 simp only [Bool.and_eq_true,decide_eq_true_eq] at this
 exact ⟨x,bW hw.objs hx,this.1,rfl⟩
theorem du (i:Nat) (hi:i<bm.cls.length):bm.cls[i]=⟨4+i,i,if i=0 then 1 else 4,[],18,18,18,[],[],0⟩:=by simp [bm]
theorem rS {words oops:Int} (h0:0<=words) (h1:words<=1048576) (h2:0<=oops) (h3:oops<=65536):WFH (bo words oops):=by
 unfold bo
 exact tY (oJ _ (rU h0 h1 h2 h3))
attribute [local irreducible] bo
theorem mU {words oops:Int} (h0:0<=words) (h1:words<=1048576) (h2:0<=oops) (h3:oops<=65536) (h:((bw words oops).allocAll aq).1=0):KAll (dm words oops) bZ bm:=by
 have hw:WFH (bo words oops):=rS h0 h1 h2 h3
 have hl:bm.cls.length=14:=rfl
 refine ⟨⟨⟨hw,(by decide:(0:Int)<=19),(by decide:(19:Int)<=65536),(Nat.zero_le _:([]:List Int).length<=65536),fun w hw=>by cases hw⟩,?_,rfl,rfl,?_,xL,?_⟩,⟨un,?_,?_,?_,?_⟩,rfl⟩
 ·intro x hx
  have hf:=lH words oops 0 20 0
  rw [←j0 h] at hf
  have:=List.all_eq_true.1 hf x hx
  simp only [Bool.and_eq_true,decide_eq_true_eq] at this
  exact this.2
 ·intro p hp
  exact qr hw h (of_decide_eq_true (List.all_eq_true.1 rc p hp))
 ·refine ⟨rfl,by rw [hl];decide,by rw [hl];decide,by decide,fun _=>?_,fun i hi hpos=>?_,fun i hi h14=>?_,fun c hc=>?_⟩
  ·rw [du];exact ⟨rfl,rfl⟩
  ·refine ⟨0,by decide,hpos,?_⟩
   rw [du,du]
   simp only
   rw [if_neg (by omega)]
   rfl
  ·rw [du]
  ·obtain ⟨i,hi,rfl⟩:=List.getElem_of_mem hc
   rw [du];simp
 ·intro c hc
  obtain ⟨i,hi,rfl⟩:=List.getElem_of_mem hc
  rw [du]
  show i<14
  rw [hl] at hi;exact hi
 ·intro c hc n hn
  obtain ⟨i,hi,rfl⟩:=List.getElem_of_mem hc
  rw [du] at hn
  cases hn
 ·intro p hp;cases hp
 ·have:bm.cls.map (·.name)=List.range 14:=by kernel_rfl
  rw [this];exact List.nodup_range
end Kw
namespace Kw
open Go
structure RoomyK (r:RH) (k:Nat) (m:Int):Prop where
 mark:r.mark=0
 objs:(r.objs.length:Int)+k<=r.oops
 words:aQ r.objs+m<=r.words
theorem RoomyK.less {r:RH}{k k':Nat}{m m':Int} (h:RoomyK r k m) (hk:k'<=k) (hm:m'<=m):RoomyK r k' m':=⟨h.mark,by have:=h.objs;omega,by have:=h.words;omega⟩
theorem fx {r:RH}{k:Nat}{m cls n f:Int} (h:RoomyK r (k+1) (m+lenOf n f)) (hm:0<=m) (hc:cW cls) (hf:f=0∨f=1) (hn:0<=n) (hn2:n<=8192) :
  (r.alloc cls n f)=((bk r.objs,0),{ r with born:=IntKind.wrap .i64 (r.born+1),objs:=r.objs++[bF r cls n f] })∧RoomyK (r.alloc cls n f).2 k m:=by
 have h1:=h.objs
 have h2:=h.words
 have e:(r.alloc cls n f)=((bk r.objs,0),{ r with born:=IntKind.wrap .i64 (r.born+1),objs:=r.objs++[bF r cls n f] }):=by
  unfold RH.alloc
  rw [if_neg (by rintro (h3 | h3 | h3 | h3);exact h3 hc;all_goals omega),if_neg (by omega),if_neg (by omega),if_neg (by rw [h.mark];decide),h.mark]
  rfl
 refine ⟨e,?_⟩
 rw [e]
 refine ⟨h.mark,by simp only [List.length_append,List.length_cons,List.length_nil];omega,?_⟩
 show aQ (r.objs++[bF r cls n f])+m<=r.words
 rw [ca]
 have:(bF r cls n f).place+(bF r cls n f).len=aQ r.objs+lenOf n f:=by
  unfold bF RO.len
  simp only [List.length_replicate]
  rw [Int.toNat_of_nonneg hn]
 rw [this];omega
theorem fQ {r:RH}{k:Nat}{m:Int} (h:RoomyK r k m) (o i w:Int):RoomyK (r.put o i w).2 k m:=by
 unfold RH.put
 split
 ·exact h
 split
 ·exact h
 split
 ·exact h
 ·refine ⟨h.mark,by simp only [eR,List.length_map];exact h.objs,?_⟩
  show aQ (eR r.objs o (cC i w))+m<=r.words
  rw [iR (f:=cC i w) (fun _=>rfl) (fk i w)]
  exact h.words
theorem km {r:RH}{k:Nat}{m:Int} (h:RoomyK r k m) (o i:Int) (l:List Int):RoomyK (r.lay o i l) k m:=by
 induction l generalizing r i with
 | nil=>exact h
 | cons w l ih=>exact ih (fQ h _ _ _) _
theorem gb {s:SP}{k:Nat}{m cls n f:Int} (h:RoomyK s.h (k+1) (m+lenOf n f)) (hm:0<=m) (hc:cW cls) (hf:f=0∨f=1) (hn:0<=n) (hn2:n<=8192) :
  s.alloc cls n f=((4*(s.h.alloc cls n f).1.1,0),{ s with h:=(s.h.alloc cls n f).2 })∧(s.h.alloc cls n f).1.2=0∧RoomyK (s.h.alloc cls n f).2 k m:=by
 obtain ⟨e,hr⟩:=fx h hm hc hf hn hn2
 have e0:(s.h.alloc cls n f).1.2=0:=by rw [e]
 refine ⟨?_,e0,hr⟩
 unfold SP.alloc
 rw [if_pos (.inl (by rw [e0];decide)),e0]
theorem lJ {s:SP}{v:KV} (hk:KS s v) (hst:s.stack.length<65536){k:Nat}{m cls:Int}{ws:List Int} (h:RoomyK s.h (k+1) (m+(2+(ws.length:Int)))) (hm:0<=m) (hc:1<=cls∧cls<=65536) (hws:∀ w∈ws,cW w) (hl:ws.length<=8192) :
  (s.make cls ws).1.2=0∧RoomyK (s.make cls ws).2.h k m:=by
 have hi:cW (4*cls):=by
  unfold cW
  have:=aW (4*cls)
  omega
 have hlen:lenOf (ws.length:Int) 0=2+(ws.length:Int):=by unfold lenOf;rw [if_neg (by decide)]
 obtain ⟨e1,e2,hr⟩:=gb (s:=s) (cls:=4*cls) (n:=ws.length) (f:=0) (by rw [hlen];exact h) hm hi (.inl rfl) (by omega) (by omega)
 have ha:=fo hk.wf.h e2
 unfold SP.make
 rw [e1]
 simp only [ne_eq,not_true_eq_false,if_false]
 have hw:cW (4*(s.h.alloc (4*cls) (ws.length:Int) 0).1.1):=by
  unfold cW
  have:=aW (4*(s.h.alloc (4*cls) (ws.length:Int) 0).1.1)
  omega
 unfold SP.keepW
 rw [if_neg (by simpa using hw),if_neg (by simp only [List.length_cons,List.length_nil];omega)]
 exact ⟨rfl,km hr _ _ _⟩
theorem kH {s:SP}{v:KV} (hk:KS s v) (hst:s.stack.length<65536){k:Nat}{m:Int}{ws:List Int} (h:RoomyK s.h (k+1) (m+(2+(ws.length:Int)))) (hm:0<=m) (hws:∀ w∈ws,cW w) (hl:ws.length<=8192) :
  (s.array ws).1.2=0∧RoomyK (s.array ws).2.h k m:=by
 unfold SP.array
 split
 ·exact ⟨rfl,h.less (by omega) (by omega)⟩
 ·exact lJ hk hst h hm (by decide) hws hl
theorem mS {s:SP}{k:Nat}{m:Int} (h:RoomyK s.h k m) (i w:Int):RoomyK (s.setRoot i w).2.h k m:=fQ h _ _ _
theorem jP (t:TB) (s:ByteArray):(t.add s).2.texts.length<=t.texts.length+1∧(t.add s).2.most=t.most:=by
 unfold TB.add
 split
 ·exact ⟨Nat.le_succ _,rfl⟩
 split
 ·exact ⟨Nat.le_succ _,rfl⟩
 ·split
  ·exact ⟨Nat.le_succ _,rfl⟩
  ·exact ⟨by simp,rfl⟩
theorem kW {t:TB}{s:ByteArray} (hg:bi s) (h:(t.texts.length:Int)<t.most):(t.add s).1.2=0:=by
 unfold TB.add
 rw [if_neg (fun e=>e hg)]
 split
 ·rfl
 ·rw [if_neg (by omega)]
theorem oN {t:TB}{acc:List Int}{l:List ByteArray} (hg:∀ s∈l,bi s) (h:(t.texts.length:Int)+l.length<=t.most):(t.addAll acc l).1.2=0∧(t.addAll acc l).2.texts.length<=t.texts.length+l.length:=by
 induction l generalizing t acc with
 | nil=>exact ⟨rfl,by simp [TB.addAll]⟩
 | cons s l ih =>
  have h1:(t.add s).1.2=0:=kW (hg s (by simp)) (by simp only [List.length_cons] at h;omega)
  have h2:=jP t s
  unfold TB.addAll
  rw [if_neg (by rw [h1];simp)]
  have:=ih (t:=(t.add s).2) (acc:=acc++[4*(t.add s).1.1+2]) (fun x hx=>hg x (by simp [hx])) (by simp only [List.length_cons] at h;rw [h2.2];omega)
  exact ⟨this.1,by simp only [List.length_cons];omega⟩
theorem sO {l:List ByteArray}{s:ByteArray}{n:Nat} (h:bB l s=some n):n<l.length:=by
 induction l generalizing n with
 | nil=>cases h
 | cons x l ih =>
  unfold bB at h
  split at h
  ·cases h;simp
  ·cases hx:bB l s with
   | none=>rw [hx] at h;cases h
   | some m =>
    rw [hx] at h
    cases h
    have:=ih hx
    simp only [List.length_cons];omega
theorem jn {t:TB} (hw:WFT t){acc:List Int}{l:List ByteArray} (ha:∀ w∈acc,cW w):∀ w∈(t.addAll acc l).1.1,cW w:=by
 induction l generalizing t acc with
 | nil=>exact ha
 | cons s l ih =>
  unfold TB.addAll
  split
  ·simp
  ·rename_i h0
   refine ih (fB hw s) fun w hw'=>?_
   rcases List.mem_append.1 hw' with h1 | h1
   ·exact ha w h1
   ·rw [List.mem_singleton.1 h1]
    have h2:=hw.m1
    have h3:=hw.len
    have:0<=(t.add s).1.1∧(t.add s).1.1<4096:=by
     unfold TB.add at h0 ⊢
     by_cases hg:bi s
     ·rw [if_neg (fun e=>e hg)] at h0 ⊢
      cases hn:bB t.texts s with
      | some n =>
       have hlt:n<t.texts.length:=sO hn
       simp only
       omega
      | none =>
       rw [hn] at h0
       simp only at h0 ⊢
       by_cases hm:t.most<=(t.texts.length:Int)
       ·rw [if_pos hm] at h0;simp at h0
       ·rw [if_neg hm];simp only;omega
     ·rw [if_pos hg] at h0;simp at h0
    unfold cW
    have:=aW (4*(t.add s).1.1+2)
    omega
end Kw
namespace Kw
open Go
theorem pn {s:SP}{v:KV}{t:TB} (hk:KS s v) (hst:s.stack.length<65000){c:Int} (hc:1<=c∧c<=65536) (hlt:v.cls.length<256){k:Nat}{m:Int} (h:RoomyK s.h (k+1) (m+(2+(v.cls.length+1:Nat)))) (hm:0<=m) :
  (cL s t v.clsW (4*c)).1.2=0∧RoomyK (cL s t v.clsW (4*c)).2.1.h k m∧(cL s t v.clsW (4*c)).2.2=t:=by
 have hws:∀ w∈v.clsW++[4*c],cW w:=fun w hw=>by
  rcases List.mem_append.1 hw with hw | hw
  ·exact ig hk w hw
  ·simp only [List.mem_singleton] at hw;rw [hw];exact cq hc.1 hc.2
 have hl:(v.clsW++[4*c]).length=v.cls.length+1:=by simp [KV.clsW]
 obtain ⟨e,hr⟩:=kH hk (by omega) (ws:=v.clsW++[4*c]) (by rw [hl];exact h) hm hws (by omega)
 unfold cL
 rw [if_neg (by rw [e];simp)]
 exact ⟨rfl,mS hr _ _,rfl⟩
theorem pI {s:SP}{v:KV}{t:TB} (hk:KS s v) (hst:s.stack.length<64000){n up l:Int} (hn:cW n) (hup:1<=up∧up<=65536) (hl:cW l) (hlt:v.cls.length<256){k:Nat}{m:Int} (h:RoomyK s.h (k+2) (m+(2+(v.cls.length+1:Nat))+9)) (hm:0<=m) :
  (fu s t v.clsW n up l).1.2=0∧RoomyK (fu s t v.clsW n up l).2.1.h k m∧(fu s t v.clsW n up l).2.2=t:=by
 have hcl:v.clsW.length=v.cls.length:=by simp [KV.clsW]
 have hws:=d7 (n:=n) (up:=up) (l:=l) (k:=v.clsW.length) hn (cq hup.1 hup.2) hl (by omega)
 have hsl:(bC n up l v.clsW.length).length=7:=rfl
 obtain ⟨e,hr⟩:=lJ hk (by omega) (cls:=12) (ws:=bC n up l v.clsW.length) (k:=k+1) (m:=m+(2+(v.cls.length+1:Nat))) (by rw [hsl];exact h) (by omega) (by decide) hws (by rw [hsl];decide)
 obtain ⟨g1,_,_,g4⟩:=jG hk (by omega) (cls:=12) (by decide) hws
 obtain ⟨o,eo,es,o1,o2,_⟩:=g4 e
 unfold fu
 rw [if_neg (by rw [e];simp),eo]
 exact pn g1 (by rw [es];simp;omega) ⟨o1,o2⟩ hlt hr hm
theorem py {s:SP}{v:KV}{t:TB} (hk:KS s v) (hst:s.stack.length<60000){n up:Int}{ns:List Int} (hn:cW n) (hup:1<=up∧up<=65536) (hns:∀ w∈ns,cW w) (hnl:ns.length<=64) (hlt:v.cls.length<256){k:Nat}{m:Int} (h:RoomyK s.h (k+3) (m+(2+(v.cls.length+1:Nat))+9+(2+(ns.length:Int)))) (hm:0<=m) :
  (iv s t v.clsW n up ns).1.2=0∧RoomyK (iv s t v.clsW n up ns).2.1.h k m∧(iv s t v.clsW n up ns).2.2=t:=by
 obtain ⟨e,hr⟩:=kH hk (by omega) (ws:=ns) (k:=k+2) (m:=m+(2+(v.cls.length+1:Nat))+9) h (by omega) hns (by omega)
 obtain ⟨g1,_,⟨l,gl,gl1⟩,g4⟩:=gi hk (by omega) hns
 obtain ⟨o,eo,o1,o2,_⟩:=g4 e
 unfold iv
 rw [if_neg (by rw [e];simp),eo]
 exact pI g1 (by rw [gl];simp;omega) hn hup (cq o1 o2) hlt hr hm
theorem se {s:SP}{v:KV}{t:TB} (hk:KS s v) (hst:s.stack.length<60000) (hwt:WFT t){up:Int} (hup:1<=up∧up<=65536) (hlt:v.cls.length<256){name:ByteArray}{own:List ByteArray} (hg:bi name) (hgo:∀ s∈own,bi s) (hol:own.length<=32) (ht:(t.texts.length:Int)+1+own.length<=t.most)
  {k:Nat}{m:Int} (h:RoomyK s.h (k+3) (m+(2+(v.cls.length+1:Nat))+9+(2+(own.length:Int)))) (hm:0<=m) :
  (eY s t v.clsW name up own).1.2=0∧RoomyK (eY s t v.clsW name up own).2.1.h k m∧(eY s t v.clsW name up own).2.2.texts.length<=t.texts.length+1+own.length∧(eY s t v.clsW name up own).2.2.most=t.most:=by
 have a1:=kW hg (t:=t) (by omega)
 have a2:=jP t name
 obtain ⟨b1,b2⟩:=oN (t:=(t.add name).2) (acc:=[]) hgo (by rw [a2.2];omega)
 have b3:=(fF (t.add name).2 [] own).1
 have w1:=fB hwt name
 have hns:=jn w1 (acc:=[]) (l:=own) (by simp)
 obtain ⟨ns,c1,c2⟩:=jg (t:=(t.add name).2) [] own b1
 have hnl:((t.add name).2.addAll [] own).1.1.length=own.length:=by
  have:=congrArg List.length c2
  simp only [List.length_map] at this
  rw [c1];simpa using this
 have hn:cW (4*(t.add name).1.1+2):=by
  have:=jn hwt (acc:=[]) (l:=[name]) (by simp) (4*(t.add name).1.1+2) (by simp [TB.addAll,a1])
  exact this
 unfold eY
 rw [if_neg (by rw [a1];simp),if_neg (by rw [b1];simp)]
 obtain ⟨d1,d2,d3⟩:=py (t:=((t.add name).2.addAll [] own).2) hk hst hn hup hns (by rw [hnl];omega) hlt (by rw [hnl];exact h) hm
 exact ⟨d1,d2,by rw [d3];omega,by rw [d3,b3,a2.2]⟩
theorem nh {s:SP}{v:KV}{t:TB} (hk:KS s v) (hst:s.stack.length<60000) (hwt:WFT t){up:Int} (hup:1<=up∧up<=65536) (hlt:v.cls.length<256){name:ByteArray}{own:List ByteArray} (hg:bi name) (hgo:∀ s∈own,bi s) (hol:own.length<=32) (ht:(t.texts.length:Int)+1+own.length<=t.most)
  {k:Nat}{m:Int} (h:RoomyK s.h (k+3) (m+(2+(v.cls.length+1:Nat))+9+(2+(own.length:Int)))) (hm:0<=m) :
  (bn s t v.clsW name up own).1.2=0∧RoomyK (bn s t v.clsW name up own).2.1.h k m∧(bn s t v.clsW name up own).2.2.texts.length<=t.texts.length+1+own.length∧(bn s t v.clsW name up own).2.2.most=t.most:=by
 obtain ⟨e1,e2,e3,e4⟩:=se hk hst hwt hup hlt hg hgo hol ht h hm
 unfold bn mO
 simp only [e1,if_true]
 refine ⟨trivial,?_,e3,e4⟩
 unfold SP.drop
 split
 ·exact e2
 ·exact e2
end Kw
namespace Kw
open Go
def mA (r:RH) (w:Int):Int:=if (sD r w).2≠0 then 0 else (sD r w).1
def jq (v:KV) (c:Int):Nat->Int->Bool
 | 0,_=>false
 | n+1,o=>if o=0 then false else if o=c then true else match jD v o with
  | some i=>jq v c n (dn v i)
  | none=>false
def iz (v:KV) (c o:Int):Bool:=jq v c (v.cls.length+3) o
def fA (r:RH) (w:Int):Int × Int:=if bg w=3 then ((r.size (w / 4)).1,(r.size (w / 4)).2.1) else (0,0)
def ga (r:RH) (w i:Int):Int:=(r.at (iZ w) i).1
def fC (r:RH) (c w:Int):Bool:=if c=12 then decide ((fA r w).1=7) else if c=14 then decide ((fA r w).1=6) && decide (bg (ga r w 4)=1) else if c=17 then decide ((fA r w).1=2) else true
def tw (x:Bool):Int:=if x then 12 else 8
def gX (v:KV) (o:Int):Nat:=if o=0 then 0 else match jD v o with
 | some i=>i+2
 | none=>1
theorem wV {s:SP}{v:KV} (h:KS s v){o:Int} (ho:o≠0){i:Nat} (hi:jD v o=some i):gX v (dn v i)<gX v o:=by
 obtain ⟨hlt,_⟩:=er hi
 have e:gX v o=i+2:=by unfold gX;rw [if_neg ho,hi]
 rw [e]
 rcases h.upI hlt with ⟨_,h1,_⟩ | ⟨j,hj,hji,_,_,h2⟩
 ·unfold gX;rw [if_pos h1];omega
 ·unfold gX
  split
  ·omega
  ·have h2':jD v (dn v i)=some j:=h2
   rw [h2'];simp only;omega
def SP.putW (s:SP) (w i x:Int):Int × SP:=((s.h.put (iZ w) i x).1,{ s with h:=(s.h.put (iZ w) i x).2 })
def oK (n:Int):Int × Int:=if -1073741824<=n∧n<=1073741823 then (2*n+1,0) else (0,1)
theorem mj {n:Int} (h:-1073741824<=n∧n<=1073741823):oK n=(2*n+1,0):=if_pos h
def dK (n x:Int):Int × Int:=if bg x≠1 then (0,170) else if x / 2<1∨n<x / 2 then (0,171) else (x / 2-1,0)
def js (r:RH) (w x:Int):Int × Int:=if (dK (fA r w).1 x).2≠0 then (0,(dK (fA r w).1 x).2) else oK (ga r w (dK (fA r w).1 x).1)
def SP.layE (s:SP) (w:Int):Int->List Int->Int × SP
 | _,[]=>(0,s)
 | i,x :: xs=>if (SP.putW s w i x).1≠0 then SP.putW s w i x else SP.layE (SP.putW s w i x).2 w (i+1) xs
noncomputable def SP.makeP (s:SP) (cls fmt:Int) (xs:List Int):(Int × Int) × SP :=
 if (s.alloc (4*cls) xs.length fmt).1.2≠0 then ((0,(s.alloc (4*cls) xs.length fmt).1.2),(s.alloc (4*cls) xs.length fmt).2)
 else ((if ((s.alloc (4*cls) xs.length fmt).2.layE (s.alloc (4*cls) xs.length fmt).1.1 0 xs).1=0 then (s.alloc (4*cls) xs.length fmt).1.1 else 0,((s.alloc (4*cls) xs.length fmt).2.layE (s.alloc (4*cls) xs.length fmt).1.1 0 xs).1),((s.alloc (4*cls) xs.length fmt).2.layE (s.alloc (4*cls) xs.length fmt).1.1 0 xs).2)
def ax (x:ByteArray):List Int:=x.data.toList.map fun u=>(u.toNat:Int)
theorem cO (x:ByteArray):(ax x).length=x.size:=by unfold ax;simp
theorem gj (x:ByteArray):∀ w∈ax x,0<=w∧w<=255:=by
 intro w hw
 obtain ⟨u,_,rfl⟩:=List.mem_map.1 hw
 have:=u.toNat_lt
 omega
def bU (r:RH) (k:Int) (xs:List Int):Prop:=∃ o,al r.objs k=some o∧o.fmt=1∧o.cls=40∧o.slots=xs
def dR (r r':RH) (k:Int):Prop:=∀ j,j≠k->al r'.objs j=al r.objs j
theorem dR.trans {r r' r'':RH}{k:Int} (h:dR r r' k) (h':dR r' r'' k):dR r r'' k:=fun j hj=>(h' j hj).trans (h j hj)
theorem jl (r:RH) (k i w:Int):dR r (r.put k i w).2 k:=by
 intro j hj
 unfold RH.put
 split
 ·rfl
 split
 ·rfl
 split
 ·rfl
 ·show al (eR r.objs k (cC i w)) j=_
  rw [ce (f:=cC i w) fun _=>rfl]
  cases ha:al r.objs j with
  | none=>rfl
  | some a =>
   simp only [Option.map_some]
   have:=(au ha).2
   rw [if_neg (by omega)]
theorem qp {r:RH}{k:Int}{xs:List Int} (h:bU r k xs){i:Nat}{w:Int} (hi:i<xs.length) (h0:0<=w) (h1:w<=255):(r.put k (i:Int) w).1=0∧bU (r.put k (i:Int) w).2 k (xs.set i w):=by
 obtain ⟨o,ho,hf,hc,rfl⟩:=h
 have hm:eS o.fmt w:=by rw [hf];unfold eS;rw [if_pos rfl];exact ⟨h0,h1⟩
 unfold RH.put
 rw [ho]
 simp only
 rw [if_neg (by omega),if_neg (fun e=>e hm)]
 refine ⟨rfl,cC i w o,?_,hf,hc,by simp [cC]⟩
 show al (eR r.objs k (cC (i:Int) w)) k=_
 rw [ce (f:=cC (i:Int) w) fun _=>rfl,ho]
 have:=(au ho).2
 simp [this]
theorem cz.same1 {r r':RH}{v:KV} (h:cz r v){k:Int} (hs:dR r r' k) (hk:∀ p∈v.roles,p.1≠k):cz r' v:=fun p hp=>by
 obtain ⟨x,h1,h2,h3⟩:=h p hp
 exact ⟨x,by rw [hs _ (hk p hp)];exact h1,h2,h3⟩
theorem pp {r:RH}{v:KV} (h:cz r v){k:Int}{xs:List Int} (hs:bU r k xs):∀ p∈v.roles,p.1≠k:=fun p hp e=>by
 obtain ⟨x,h1,h2,_⟩:=h p hp
 obtain ⟨o,h3,h4,_⟩:=hs
 rw [e,h3] at h1
 cases h1
 omega
end Kw
namespace Kw
open Go
theorem KS.putS {s:SP}{v:KV} (h:KS s v){k:Int}{xs:List Int} (hs:bU s.h k xs) (i w:Int):KS { s with h:=(s.h.put k i w).2 } v :=
 ⟨{ h.wf with h:=iS h.wf.h k i w },pP h.gc k i w,h.op,h.king,h.view.same1 (jl _ _ _ _) (pp h.view hs),h.sep,h.shape⟩
theorem KS.allocS {s:SP}{v:KV} (h:KS s v){c:Int} (hc:1<=c∧c<=65536) (n f:Int):KS { s with h:=(s.h.alloc (4*c) n f).2 } v :=
 ⟨{ h.wf with h:=eZ h.wf.h (4*c) n f },kE h.gc (cls:=4*c) (by have:=aW (4*c);omega) n f,h.op,h.king,h.view.keep (gu h.wf.h (4*c) n f) fun _ _=>trivial,h.sep,h.shape⟩
theorem sG {k:Int} (h1:1<=k) (h2:k<=65536):∀ (xs done rest:List Int) (s:SP) (t:TB) (v:KV),KAllW s t v->bU s.h k (done++rest)->rest.length=xs.length->(∀ w∈xs,0<=w∧w<=255)->∀ n m,RoomyK s.h n m ->
  ∃ s',s.layE (4*k) (done.length:Int) xs=(0,s')∧KAllW s' t v∧s'.stack=s.stack∧s'.op=s.op∧bU s'.h k (done++xs)∧dR s.h s'.h k∧RoomyK s'.h n m:=by
 intro xs
 induction xs with
 | nil =>
  intro done rest s t v hv hs hl _ n m hR
  have:rest=[]:=List.eq_nil_of_length_eq_zero hl
  subst this
  exact ⟨s,rfl,hv,rfl,rfl,hs,fun _ _=>rfl,hR⟩
 | cons x xs ih =>
  intro done rest s t v hv hs hl hx n m hR
  cases rest with
  | nil=>simp at hl
  | cons y rest =>
   have hb:=hx x (by simp)
   obtain ⟨e1,e2⟩:=qp hs (i:=done.length) (w:=x) (by simp) hb.1 hb.2
   have eset:(done++y :: rest).set done.length x=(done++[x])++rest:=by simp
   rw [eset] at e2
   unfold SP.layE SP.putW
   rw [dC h1 h2,if_neg (by rw [e1];simp)]
   have:=ih (done++[x]) rest { s with h:=(s.h.put k (done.length:Int) x).2 } t v ⟨hv.ks.putS hs _ _,hv.names,hv.top⟩ e2 (by simpa using hl) (fun w hw=>hx w (by simp [hw])) n m (fQ hR _ _ _)
   obtain ⟨s',g1,g2,g3,g4,g5,g6,g7⟩:=this
   refine ⟨s',?_,g2,g3,g4,by simpa using g5,(jl _ _ _ _).trans g6,g7⟩
   rw [←g1]
   simp only [List.length_append,List.length_cons,List.length_nil]
   rfl
theorem jk {s:SP}{t:TB}{v:KV} (hv:KAllW s t v){xs:List Int} (hx:∀ w∈xs,0<=w∧w<=255) (hl:xs.length<=8192){n:Nat}{m:Int} (hR:RoomyK s.h (n+1) (m+lenOf xs.length 1)) (hm:0<=m) :
  ∃ k s',s.makeP 10 1 xs=((4*k,0),s')∧KAllW s' t v∧s'.stack=s.stack∧s'.op=s.op∧bU s'.h k xs∧dR s.h s'.h k∧al s.h.objs k=none∧1<=k∧k<=65536∧RoomyK s'.h n m:=by
 have hi:cW (4*10):=by decide
 obtain ⟨e1,e2,hr⟩:=gb (cls:=4*10) hR hm hi (.inr rfl) (by omega) (by omega)
 have ha:=fo hv.ks.wf.h e2
 obtain ⟨e3,_⟩:=fx (cls:=4*10) hR hm hi (.inr rfl) (by omega) (by omega)
 have k1:=ha.1
 have k2:=ha.2.1
 have k3:=ha.2.2.1
 have hs:bU (s.h.alloc (4*10) (xs.length:Int) 1).2 (s.h.alloc (4*10) (xs.length:Int) 1).1.1 ([]++List.replicate xs.length 0):=by
  rw [e3] at k1 ⊢
  refine ⟨bF s.h (4*10) xs.length 1,?_,rfl,rfl,?_⟩
  ·show al (s.h.objs++[bF s.h (4*10) xs.length 1]) (bk s.h.objs)=_
   rw [bP,k1]
   simp [bF]
  ·simp [bF]
 have hsame:dR s.h (s.h.alloc (4*10) (xs.length:Int) 1).2 (s.h.alloc (4*10) (xs.length:Int) 1).1.1:=by
  intro j hj
  rw [e3] at hj ⊢
  show al (s.h.objs++[bF s.h (4*10) xs.length 1]) j=_
  rw [bP]
  cases al s.h.objs j with
  | some x=>rfl
  | none =>
   have:¬ (bF s.h (4*10) (xs.length:Int) 1).oop=j:=fun e=>hj e.symm
   simp only
   rw [if_neg this]
 obtain ⟨s',g1,g2,g3,g4,g5,g6,g7⟩:=sG k2 k3 xs [] (List.replicate xs.length 0) { s with h:=(s.h.alloc (4*10) (xs.length:Int) 1).2 } t v ⟨hv.ks.allocS (by decide) _ _,hv.names,hv.top⟩ hs (by simp) hx n m hr
 refine ⟨_,s',?_,g2,g3,g4,by simpa using g5,hsame.trans g6,k1,k2,k3,g7⟩
 unfold SP.makeP
 rw [e1]
 simp only [ne_eq,not_true_eq_false,if_false]
 have:((List.nil (α:=Int)).length:Int)=0:=rfl
 rw [this] at g1
 rw [g1]
 simp
end Kw
namespace Go.Proofs.YtgcoppcogllpbaaGreatDoor
open Kw
abbrev cv (b:Nat) (r:Int) (a:Option Addr) (l c:Nat):Value:=.agg #[.pointer (some ⟨b,0,none⟩),.int .i64 r,.slice a l c]
abbrev cc (b:Nat) (r:Int) (a:Option Addr) (l c:Nat):Array Value:=#[.pointer (some ⟨b,0,none⟩),.int .i64 r,.slice a l c]
section
variable {H:ae}{b:Nat}{F:az}{s:SP}{t:TB}{v:KV}{Q:QT}{r:Int}{a:Option Addr}{l c:Nat}
theorem jM {x:Bool} (h:Q (.tuple #[.int .i64 (tw x),.int .i64 0]) H):ac PP yO #[.bool x] Q H:=by
 apply vR
 unfold Bn iV cS
 cases x
 ·rw [cond_false]
  exact lP (by decide) ⟨_,_,rfl,h⟩
 ·rw [cond_true]
  exact lP (by decide) ⟨_,_,rfl,h⟩
theorem qO (hK:PK H b F s t) (hv:KAllW s t v){w:Int} (h:∀ H',Fr [] H H'->Q (.int .i64 (mA s.h w)) H'):ac PP yi #[cv b r a l c,.int .i64 w] Q H:=by
 apply vc
 unfold Dw A0 iV pV lV cS
 have f:=Fr.push [] H (.cells (cc b r a l c) 149)
 have hb:=aV.new H (cc b r a l c) 149
 refine ⟨_,hb.cell 0,DV (hK.nil f) hv ⟨_,_,rfl,?_⟩⟩
 have:=h _ f
 unfold mA at this
 rw [aX,af]
 refine aA (fun h1=>?_) fun h1=>?_
 ·rw [if_pos h1] at this;exact this
 ·rw [if_neg h1] at this;exact this
theorem uN (hK:PK H b F s t) (hv:KAllW s t v){w k:Int} (h:∀ H',Fr [] H H'->Q (.bool (iz v k (mA s.h w))) H'):ac PP ym #[cv b r a l c,.int .i64 w,.int .i64 k] Q H:=by
 apply wo
 unfold BI A0 iV pV lV cS;dsimp only [shH]
 have f:=Fr.push [] H (.cells (cc b r a l c) 149)
 have hb:=aV.new H (cc b r a l c) 149
 refine ⟨_,hb.cell 0,_,hb.cell 1,_,_,_,hb.cell 2,qO (hK.nil f) hv fun H1 f1=>⟨_,rfl,?_⟩⟩
 have f01:=f.trans f1
 have hb1:=hb.fr f1 (by simp)
 have hbnd:gX v (mA s.h w)<v.cls.length+3:=by
  unfold gX
  split
  ·omega
  ·split
   ·rename_i i hi
    have:=(er hi).1
    omega
   ·omega
 refine ⟨fun w' H'=>∃(o:Int) (n:Nat),w'=[.int .i64 o]∧Fr [] H H'∧aV H' H.size (cc b r a l c)∧gX v o<n∧jq v k n o=iz v k (mA s.h w),fun w' _=>match w' with
  | [.int _ o]=>gX v o
  | _=>0,⟨_,_,rfl,f01,hb1,hbnd,rfl⟩,?_⟩
 rintro w' H2 ⟨o,n,rfl,f2,hb2,hn,hk⟩ _
 refine ⟨_,rfl,?_⟩
 obtain ⟨n,rfl⟩:∃ m,n=m+1:=⟨n-1,by omega⟩
 unfold jq at hk
 have hq:=h _ f2
 rw [←hk] at hq
 rw [aX,af]
 refine aA (fun h1=>?_) fun h1=>?_
 ·rw [if_neg h1] at hq
  rw [aU,af]
  refine aA (fun h2=>?_) fun h2=>?_
  ·rw [if_pos h2] at hq;exact hq
  rw [if_neg h2] at hq
  rw [if_neg h1,if_neg h2] at hk
  refine ⟨_,hb2.cell 0,tr (hK.nil f2) hv fun H3 f3=>?_⟩
  cases hp:jD v o with
  | none =>
   rw [hp] at hk
   refine ⟨_,_,rfl,?_⟩
   have hq3:=h _ (f2.trans f3)
   rw [←hk] at hq3
   exact hq3
  | some i =>
   rw [hp] at hk
   refine ⟨_,_,rfl,?_⟩
   have hr:=wV hv.ks h1 hp
   exact ⟨⟨_,n,rfl,f2.trans f3,hb2.fr f3 (by simp),by omega,hk⟩,hr⟩
 ·have h1':=Classical.byContradiction h1
  rw [if_pos h1'] at hq;exact hq
theorem eC (hK:PK H b F s t){w:Int} (h:∀ H',Fr [] H H'->Q (.tuple #[.int .i64 (fA s.h w).1,.int .i64 (fA s.h w).2]) H'):ac PP zB #[cv b r a l c,.int .i64 w] Q H:=by
 apply wU
 unfold C9 A0 iV pV lV cS
 have f:=Fr.push [] H (.cells (cc b r a l c) 149)
 have hb:=aV.new H (cc b r a l c) 149
 have hK1:=hK.nil f
 refine gO hK1.kinds ?_
 have hq:=h _ f
 unfold fA at hq
 unfold jE
 by_cases hk:bg w=3
 ·rw [if_pos hk] at hq ⊢
  refine ⟨_,_,rfl,?_⟩
  simp only [show ((0:Int) != 0)=false from rfl,cond_false]
  exact ⟨_,hb.cell 0,dD hK1 fun sb F1 _ hS _ _ _=>⟨_,rfl,cB hS fun hb F2 hR _ _=>⟨_,rfl,mJ hR ⟨_,_,_,rfl,hq⟩⟩⟩⟩
 ·rw [if_neg hk] at hq ⊢
  exact ⟨_,_,rfl,hq⟩
theorem mB (hK:PK H b F s t){w i:Int} (h:∀ H',Fr [] H H'->Q (.int .i64 (ga s.h w i)) H'):ac PP AI #[cv b r a l c,.int .i64 w,.int .i64 i] Q H:=by
 apply uI
 unfold Df A0 iV pV lV cS
 have f:=Fr.push [] H (.cells (cc b r a l c) 149)
 have hb:=aV.new H (cc b r a l c) 149
 have hK1:=hK.nil f
 refine gO hK1.kinds ?_
 have hq:=h _ f
 unfold ga iZ at hq
 unfold jE
 by_cases hk:bg w=3
 ·rw [if_pos hk] at hq ⊢
  exact ⟨_,_,rfl,_,hb.cell 0,dD hK1 fun sb F1 _ hS _ _ _=>⟨_,rfl,cB hS fun hb F2 hR _ _=>⟨_,rfl,qv hR ⟨_,_,rfl,hq⟩⟩⟩⟩
 ·rw [if_neg hk] at hq ⊢
  exact ⟨_,_,rfl,_,hb.cell 0,dD hK1 fun sb F1 _ hS _ _ _=>⟨_,rfl,cB hS fun hb F2 hR _ _=>⟨_,rfl,qv hR ⟨_,_,rfl,hq⟩⟩⟩⟩
theorem sN (hK:PK H b F s t){k:Int} (h:∀ H',Fr [] H H'->Q (.bool (fC s.h k r)) H'):ac PP zj #[cv b r a l c,.int .i64 k] Q H:=by
 apply wx
 unfold CH A0 iV pV lV cS;dsimp only [shH]
 have f:=Fr.push [] H (.cells (cc b r a l c) 149)
 have hb:=aV.new H (cc b r a l c) 149
 refine ⟨_,hb.cell 0,_,hb.cell 1,_,_,_,hb.cell 2,_,hb.cell 1,eC (hK.nil f) fun H1 f1=>⟨_,_,rfl,?_⟩⟩
 have f01:=f.trans f1
 have hb1:=hb.fr f1 (by simp)
 have hq:=fun H' f=>h H' f
 unfold fC at hq
 rw [aU,af]
 refine aA (fun h1=>?_) fun h1=>?_
 ·simp only [if_pos h1] at hq;rw [aU];exact hq _ f01
 simp only [if_neg h1] at hq
 rw [aU,af]
 refine aA (fun h2=>?_) fun h2=>?_
 ·simp only [if_pos h2] at hq
  rw [aU,af]
  refine aA (fun h3=>?_) fun h3=>?_
  ·simp only [decide_eq_true h3,Bool.true_and] at hq
   refine ⟨_,hb1.cell 0,_,hb1.cell 1,_,_,_,hb1.cell 2,_,hb1.cell 1,mB (hK.nil f01) fun H2 f2=>⟨_,rfl,ie (hK.nil (f01.trans f2)).kinds ⟨_,rfl,?_⟩⟩⟩
   rw [aU];exact hq _ (f01.trans f2)
  ·simp only [decide_eq_false h3,Bool.false_and] at hq
   exact hq _ f01
 simp only [if_neg h2] at hq
 rw [aU,af]
 refine aA (fun h3=>?_) fun h3=>?_
 ·simp only [if_pos h3] at hq;rw [aU];exact hq _ f01
 ·simp only [if_neg h3] at hq;exact hq _ f01
theorem tj (hK:PK H b F s t){w i x:Int} (h:∀ H',PK H' b F (SP.putW s w i x).2 t->Fr F H H'->Q (.int .i64 (SP.putW s w i x).1) H'):ac PP zb #[cv b r a l c,.int .i64 w,.int .i64 i,.int .i64 x] Q H:=by
 apply xz
 unfold Cy A0 iV pV lV cS
 have f:=Fr.push [] H (.cells (cc b r a l c) 149)
 have hb:=aV.new H (cc b r a l c) 149
 have hK1:=hK.nil f
 refine gO hK1.kinds ?_
 have go:∀ o:Int,o=iZ w->∃ p10:Option Addr,aa (H.push (.cells (cc b r a l c) 149)) ⟨H.size,0,none⟩=some (.pointer p10)∧ac PP yd #[.pointer p10] (fun v11 H2=>∃ p12:Option Addr,v11=.pointer p12∧ac PP qL #[.pointer p12] (fun v13 H3=>∃ p14:Option Addr,v13=.pointer p14∧ac PP pu #[.pointer p14,.int .i64 o,.int .i64 i,.int .i64 x] (fun v15 H4=>∃ n16:Int,v15=.int .i64 n16∧Q (.int .i64 n16) H4) H3) H2) (H.push (.cells (cc b r a l c) 149)):=by
  rintro o rfl
  refine ⟨_,hb.cell 0,dD hK1 fun sb F1 _ hS hsub _ hup=>⟨_,rfl,cB hS fun hb F2 hR hsub2 hup2=>⟨_,rfl,zy hR fun H' hR' hf'=>⟨_,rfl,h H' ?_ ?_⟩⟩⟩⟩
  ·exact hup H' _ (hup2 H' _ hR' hf') (hf'.mono hsub2)
  ·refine ⟨Nat.le_trans f.1 hf'.1,fun x hx hn=>?_⟩
   rw [hf'.2 x (Nat.lt_of_lt_of_le hx f.1) (fun hm=>hn (hsub _ (hsub2 _ hm))),f.2 x hx (by simp)]
 unfold jE
 by_cases hk:bg w=3
 ·rw [if_pos hk]
  exact ⟨_,_,rfl,go _ (by unfold iZ;rw [if_pos hk])⟩
 ·rw [if_neg hk]
  exact ⟨_,_,rfl,go _ (by unfold iZ;rw [if_neg hk])⟩
end
theorem uG (w:Int):jE 1 (· / 2) w=.tuple #[.int .i64 (lg w),.int .i64 (if bg w=1 then 0 else 10)]:=by
 unfold jE lg
 by_cases h:bg w=1
 ·rw [if_pos h,if_pos h,if_pos h]
 ·rw [if_neg h,if_neg h,if_neg h]
section
variable {H:ae}{b:Nat}{F:az}{s:SP}{t:TB}{v:KV}{Q:QT}{r x:Int}{a:Option Addr}{l c:Nat}{ws:List Int}
theorem mM {n:Int} (h:Q (.tuple #[.int .i64 (oK n).1,.int .i64 (oK n).2]) H):ac PP pT #[.int .i64 n] Q H:=by
 unfold oK at h
 by_cases hn:-1073741824<=n∧n<=1073741823
 ·rw [if_pos hn] at h;exact ya hn h
 ·rw [if_neg hn] at h
  apply qU
  unfold zS iV
  refine uZ ⟨_,rfl,?_⟩
  rw [decide_eq_false hn]
  exact h
theorem yT (hr:Rd 1 H a l (aj (x :: ws))):((0:Int)<=0∧0<(l:Int))∧∃ q,a=some q∧∃ n:Int,aa H (q.add (Int.toNat 0*1))=some (.int .i64 n)∧n=x:=by
 have hl:=hr.1
 simp only [aj,List.length_map,List.length_cons,Nat.mul_one] at hl
 obtain ⟨p,h1,h2,h3⟩:=hr.int (i:=0) (by omega) (by omega)
 exact ⟨⟨by omega,by omega⟩,p,h1,_,h2,rfl⟩
theorem Rd.nilF {H H':ae}{a:Option Addr}{l:Nat}{ys:List Value} (h:Rd 1 H a l ys) (hf:Fr [] H H'):Rd 1 H' a l ys:=h.fr' hf (by simp)
theorem vU (hK:PK H b F s t) (hr:Rd 1 H a l (aj (x :: ws))) (hbad:bg x≠1->∀ H',Fr [] H H'->Q (.tuple #[.int .i64 0,.int .i64 0,.int .i64 170]) H')
  (h:bg x=1->∀ H',Fr [] H H'->Q (.tuple #[.int .i64 (lg r),.int .i64 (x / 2),.int .i64 0]) H'):ac PP AD #[cv b r a l c] Q H:=by
 apply uD
 unfold Bg A0 iV pV lV cS
 have f:=Fr.push [] H (.cells (cc b r a l c) 149)
 have hb:=aV.new H (cc b r a l c) 149
 refine ⟨_,hb.cell 1,mh (hK.nil f).kinds ?_⟩
 rw [uG]
 obtain ⟨h1,q,h2,n,h3,rfl⟩:=yT (Rd.nilF hr f)
 refine ⟨_,_,rfl,_,_,_,hb.cell 2,h1,q,h2,_,h3,mh (hK.nil f).kinds ?_⟩
 unfold jE
 by_cases hk:bg n=1
 ·rw [if_pos hk];exact ⟨_,_,rfl,h hk _ f⟩
 ·rw [if_neg hk];exact ⟨_,_,rfl,hbad hk _ f⟩
theorem pN (hK:PK H b F s t) (hr:Rd 1 H a l (aj (x :: ws))){q g:Nat} (hq:aV H q #[.func (.func g) #[] #[]]) (hbad:bg x≠1->∀ H',Fr [] H H'->Q (.tuple #[.int .i64 0,.int .i64 170]) H')
  (h:bg x=1->∀ H',Fr [] H H'->ac PP g #[.int .i64 (lg r),.int .i64 (x / 2)] (fun v12 H2=>∃ n13:Int,∃ n14:Int,v12=.tuple #[.int .i64 n13,.int .i64 n14]∧cond (n14 != 0) (Q (.tuple #[.int .i64 0,.int .i64 n14]) H2) (ac PP pT #[.int .i64 n13] (fun v15 H3=>∃ n16:Int,∃ n17:Int,v15=.tuple #[.int .i64 n16,.int .i64 n17]∧Q (.tuple #[.int .i64 n16,.int .i64 n17]) H3) H2)) H') :
  ac PP tP #[cv b r a l c,.pointer (some ⟨q,0,none⟩)] Q H:=by
 apply wN
 unfold C0 A0 iV pV lV cS;dsimp only [shH]
 have f:=Fr.push [] H (.cells (cc b r a l c) 149)
 have hb:=aV.new H (cc b r a l c) 149
 refine ⟨_,hb.cell 0,_,hb.cell 1,_,_,_,hb.cell 2,vU (hK.nil f) (Rd.nilF hr f) (fun hk H1 f1=>⟨_,_,_,rfl,hbad hk _ (f.trans f1)⟩) fun hk H1 f1=>⟨_,_,_,rfl,?_⟩⟩
 exact ⟨g,#[],#[],(hq.fr (f.trans f1) (by simp)).cell 0,h hk _ (f.trans f1)⟩
theorem xm (hr:Rd 1 H a l (aj (x :: ws))) (h:∀ H',Fr [] H H'->Q (.tuple #[.int .i64 (tw (decide (r=x))),.int .i64 0]) H'):ac PP ub #[cv b r a l c] Q H:=by
 apply xI
 unfold CM A0 iV pV lV cS;dsimp only [shH]
 have f:=Fr.push [] H (.cells (cc b r a l c) 149)
 have hb:=aV.new H (cc b r a l c) 149
 obtain ⟨h1,q,h2,n,h3,rfl⟩:=yT (Rd.nilF hr f)
 refine ⟨_,hb.cell 1,_,_,_,hb.cell 2,h1,q,h2,_,h3,?_⟩
 rw [aU]
 exact jM ⟨_,_,rfl,trivial,h _ f⟩
theorem vu (hK:PK H b F s t) (h:∀ H',Fr [] H H'->Q (.tuple #[.int .i64 (oK (fA s.h r).1).1,.int .i64 (oK (fA s.h r).1).2]) H'):ac PP sT #[cv b r a l c] Q H:=by
 apply vF
 unfold Ba A0 iV pV lV cS;dsimp only [shH]
 have f:=Fr.push [] H (.cells (cc b r a l c) 149)
 have hb:=aV.new H (cc b r a l c) 149
 exact ⟨_,hb.cell 0,_,hb.cell 1,_,_,_,hb.cell 2,_,hb.cell 1,eC (hK.nil f) fun H1 f1=>⟨_,_,rfl,mM ⟨_,_,rfl,h _ (f.trans f1)⟩⟩⟩
theorem tN (hK:PK H b F s t) (h:∀ H',Fr [] H H'->Q (.tuple #[.int .i64 (tw (decide ((fA s.h r).1=0))),.int .i64 0]) H'):ac PP sY #[cv b r a l c] Q H:=by
 apply wT
 unfold B1 A0 iV pV lV cS;dsimp only [shH]
 have f:=Fr.push [] H (.cells (cc b r a l c) 149)
 have hb:=aV.new H (cc b r a l c) 149
 refine ⟨_,hb.cell 0,_,hb.cell 1,_,_,_,hb.cell 2,_,hb.cell 1,eC (hK.nil f) fun H1 f1=>⟨_,_,rfl,?_⟩⟩
 rw [aU]
 exact jM ⟨_,_,rfl,h _ (f.trans f1)⟩
theorem od (hK:PK H b F s t) (hr:Rd 1 H a l (aj (x :: ws))){n:Int} (h:∀ H',Fr [] H H'->Q (.tuple #[.int .i64 (dK n x).1,.int .i64 (dK n x).2]) H'):ac PP y0 #[cv b r a l c,.int .i64 n] Q H:=by
 apply wh
 unfold BB A0 iV wW pV lV cS;dsimp only [shH]
 have f:=Fr.push [] H (.cells (cc b r a l c) 149)
 have hb:=aV.new H (cc b r a l c) 149
 obtain ⟨h1,q,h2,m,h3,rfl⟩:=yT (Rd.nilF hr f)
 refine ⟨_,_,_,hb.cell 2,h1,q,h2,_,h3,mh (hK.nil f).kinds ?_⟩
 have hq:=h _ f
 unfold dK at hq
 unfold jE
 by_cases hk:bg m=1
 ·rw [if_pos hk]
  rw [if_neg (fun e=>e hk)] at hq
  refine ⟨_,_,rfl,?_⟩
  simp only [show ((0:Int) != 0)=false from rfl,cond_false]
  have hw:=aW m
  rw [af]
  refine aA (fun h4=>?_) fun h4=>?_
  ·rw [if_pos (.inl h4)] at hq;exact hq
  rw [af]
  refine aA (fun h5=>?_) fun h5=>?_
  ·rw [if_pos (.inr h5)] at hq;exact hq
  ·rw [if_neg (by omega)] at hq
   rw [ah (by omega) (by omega)];exact hq
 ·rw [if_neg hk]
  rw [if_pos hk] at hq
  exact ⟨_,_,rfl,hq⟩
theorem r0 (hK:PK H b F s t) (hr:Rd 1 H a l (aj (x :: ws))) (h:∀ H',Fr [] H H'->Q (.tuple #[.int .i64 (js s.h r x).1,.int .i64 (js s.h r x).2]) H'):ac PP tU #[cv b r a l c] Q H:=by
 apply wZ
 unfold De A0 iV pV lV cS;dsimp only [shH]
 have f:=Fr.push [] H (.cells (cc b r a l c) 149)
 have hb:=aV.new H (cc b r a l c) 149
 refine ⟨_,hb.cell 0,_,hb.cell 1,_,_,_,hb.cell 2,_,hb.cell 1,eC (hK.nil f) fun H1 f1=>⟨_,_,rfl,?_⟩⟩
 have f01:=f.trans f1
 have hb1:=hb.fr f1 (by simp)
 refine ⟨_,hb1.cell 0,_,hb1.cell 1,_,_,_,hb1.cell 2,od (hK.nil f01) (Rd.nilF hr f01) fun H2 f2=>⟨_,_,rfl,?_⟩⟩
 have f02:=f01.trans f2
 have hb2:=hb1.fr f2 (by simp)
 have hq:=fun H' f=>h H' f
 unfold js at hq
 rw [aX,af]
 refine aA (fun h4=>?_) fun h4=>?_
 ·simp only [if_pos h4] at hq;exact hq _ f02
 ·simp only [if_neg h4] at hq
  exact ⟨_,hb2.cell 0,_,hb2.cell 1,_,_,_,hb2.cell 2,_,hb2.cell 1,mB (hK.nil f02) fun H3 f3=>⟨_,rfl,mM ⟨_,_,rfl,hq _ (f02.trans f3)⟩⟩⟩
end
theorem gg {P:Prop} [Decidable P] {A B:Prop} (h1:P->A) (h2:¬ P->B):cond (decide P) A B:=by
 rw [af];exact aA h1 h2
theorem oT {H:ae}{a:Option Addr}{l c:Nat}{ys:List Value}{F:az} (ho:bN 1 H a l c ys F){i:Nat} (hi:i<l) (v:Value):∃ b,a=some ⟨b,0,none⟩∧Wr H ⟨b,i,none⟩∧Fr F H (aB H ⟨b,i,none⟩ v)∧bN 1 (aB H ⟨b,i,none⟩ v) a l c (ys.set i v) F:=by
 have hlc:=ho.2.1
 rcases ho.2.2 with ⟨_,h2,_⟩ | ⟨b,cs,rfl,rfl,hb,hsz,htk⟩
 ·omega
 ·refine ⟨b,rfl,hb.wr (by omega),Fr.set (by simp),⟨by rw [List.length_set];exact ho.1,hlc,.inr ⟨b,_,rfl,rfl,hb.set i v,by simpa using hsz,?_⟩⟩⟩
  rw [←htk]
  simp [List.take_set]
section
variable {H:ae}{b:Nat}{F:az}{s:SP}{t:TB}{v:KV}{Q:QT}{r x:Int}{a:Option Addr}{l c:Nat}{ws:List Int}
theorem ql (hK:PK H b F s t){k fmt:Int} (hk:1<=k∧k<=65536){a6:Option Addr}{l6 c6:Nat}{xs:List Int} (hx:Rd 1 H a6 l6 (aj xs)) (ho:∀ p,a6=some p->p.block∉F) (hl:l6<=1000000000)
  (h:∀ H',PK H' b F (s.makeP k fmt xs).2 t->Fr F H H'->Q (.tuple #[.int .i64 (s.makeP k fmt xs).1.1,.int .i64 (s.makeP k fmt xs).1.2]) H') :
  ac PP y9 #[cv b r a l c,.int .i64 k,.int .i64 fmt,.slice a6 l6 c6] Q H:=by
 apply wm
 unfold BG A0 iV wW pV lV cS
 have hlen:l6=xs.length:=by have:=hx.1;simpa [aj] using this.symm
 have f:=Fr.push [] H (.cells (cc b r a l c) 149)
 have hb:=aV.new H (cc b r a l c) 149
 have hK1:=hK.nil f
 have hbF:H.size∉F:=fun hm=>by have:=hK.lt _ hm;omega
 have hx1:=Rd.nilF hx f
 refine lP hk ⟨_,_,rfl,_,hb.cell 0,dD hK1 fun sb F1 _ hS hsub _ hup=>⟨_,rfl,i7 hS fun H3 hS3 f3=>⟨_,_,rfl,?_⟩⟩⟩
 have hK3:=hup H3 _ hS3 f3
 have f3F:Fr F H H3:=⟨Nat.le_trans f.1 f3.1,fun y hy hn=>by rw [f3.2 y (Nat.lt_of_lt_of_le hy f.1) (fun hm=>hn (hsub y hm)),f.2 y hy (by simp)]⟩
 have hb3:=hb.fr f3 (fun hm=>hbF (hsub _ hm))
 have hx3:Rd 1 H3 a6 l6 (aj xs):=hx1.fr' f3 fun p hp hm=>ho p hp (hsub _ hm)
 have hq:=h
 unfold SP.makeP at hq
 rw [←hlen] at hq
 generalize s.alloc (4*k) (l6:Int) fmt=A at hK3 hq ⊢
 rw [aX,af]
 refine aA (fun he=>?_) fun he=>?_
 ·simp only [if_pos he] at hq
  exact hq _ hK3 f3F
 have he0:A.1.2=0:=Classical.byContradiction he
 simp only [if_neg he] at hq
 rw [if_pos he0]
 obtain ⟨L,eL⟩:∃ L,L=A.2.layE A.1.1 0 xs:=⟨_,rfl⟩
 rw [←eL] at hq
 refine ⟨fun w H'=>∃(i:Nat) (si:SP),w=[.int .i64 i]∧i<=l6∧PK H' b F si t∧Fr F H H'∧aV H' H.size (cc b r a l c)∧Rd 1 H' a6 l6 (aj xs)∧si.layE A.1.1 i (xs.drop i)=L,fun w _=>match w with
  | [.int _ i]=>((l6:Int)-i).toNat
  | _=>0,⟨0,A.2,rfl,Nat.zero_le _,hK3,f3F,hb3,hx3,eL.symm⟩,?_⟩
 rintro w H4 ⟨i,si,rfl,hi,hK4,f4,hb4,hx4,hL⟩ _
 refine ⟨_,rfl,gg (fun hlt=>?_) fun hge=>?_⟩
 ·have hil:i<xs.length:=by omega
  obtain ⟨q,hq1,hq2,hq3⟩:=hx4.int (i:=(i:Int)) (by omega) (by omega)
  simp only [Int.toNat_natCast] at hq2
  have e1:IntKind.wrap .i64 ((i:Int)+1)=((i+1:Nat):Int):=by rw [ah (by omega) (by omega)];omega
  have hd:xs.drop i=xs.getD i 0 :: xs.drop (i+1):=by
   rw [List.drop_eq_getElem_cons hil]
   simp [hil]
  rw [hd] at hL
  unfold SP.layE at hL
  refine ⟨⟨by omega,hlt⟩,q,hq1,_,by rw [Int.toNat_natCast,Nat.mul_one];exact hq2,_,hb4.cell 0,_,hb4.cell 1,_,_,_,hb4.cell 2,tj hK4 fun H5 hK5 f5=>⟨_,rfl,?_⟩⟩
  have f5F:=f4.trans f5
  rw [aX,af]
  refine aA (fun hp=>?_) fun hp=>?_
  ·rw [if_pos hp] at hL
   rw [←hL] at hq
   simp only [if_neg hp] at hq
   exact hq _ hK5 f5F
  ·rw [if_neg hp] at hL
   rw [e1]
   exact ⟨⟨i+1,_,rfl,by omega,hK5,f5F,hb4.fr f5 hbF,hx4.fr' f5 ho,hL⟩,by simp;omega⟩
 ·have hil:i=l6:=by omega
  subst hil
  rw [List.drop_of_length_le (by omega)] at hL
  unfold SP.layE at hL
  rw [←hL] at hq
  simp only [if_true] at hq
  exact hq _ hK4 f4
theorem sH (hK:PK H b F s t){y:ByteArray} (hy:y.size<=1000000) (h:∀ H',PK H' b F (s.makeP 10 1 (ax y)).2 t->Fr F H H'->Q (.tuple #[.int .i64 (s.makeP 10 1 (ax y)).1.1,.int .i64 (s.makeP 10 1 (ax y)).1.2]) H') :
  ac PP zP #[cv b r a l c,.string y] Q H:=by
 have hs1:aH PP 30=some (1,8,some (.int .i64 0)):=by kernel_rfl
 apply xf
 unfold Dm A0 iV wW pV lV cS;dsimp only [shH]
 have f:=Fr.push [] H (.cells (cc b r a l c) 149)
 have hb:=aV.new H (cc b r a l c) 149
 have hlF:=hK.lt
 refine cn hs1 rfl (by omega) (Int.le_refl _) (by omega) (by decide) fun e=>⟨_,_,_,rfl,?_⟩
 have f2:=f.trans (Fr.push [] _ (.cells (Array.replicate (y.size:Int).toNat (.int .i64 0)) e))
 have hb2:=hb.push (.cells (Array.replicate (y.size:Int).toNat (.int .i64 0)) e)
 have ho2:bN 1 ((H.push (.cells (cc b r a l c) 149)).push (.cells (Array.replicate (y.size:Int).toNat (.int .i64 0)) e)) (some ⟨(H.push (.cells (cc b r a l c) 149)).size,0,none⟩) (y.size:Int).toNat (y.size:Int).toNat (aj (List.replicate y.size 0)) [(H.push (.cells (cc b r a l c) 149)).size]:=by
  refine ⟨by simp [aj],Nat.le_refl _,.inr ⟨_,_,rfl,rfl,aV.new _ _ _,by simp,?_⟩⟩
  simp [aj]
 have hsz:(H.push (.cells (cc b r a l c) 149)).size=H.size+1:=by simp
 rw [hsz] at ho2 ⊢
 simp only [Int.toNat_natCast] at f2 hb2 ho2 ⊢
 generalize ((H.push (.cells (cc b r a l c) 149)).push (.cells (Array.replicate y.size (.int .i64 0)) e))=H2 at f2 hb2 ho2 ⊢
 have hnF:H.size+1∉F:=fun hm=>by have:=hlF _ hm;omega
 refine ⟨fun w H'=>∃(i:Nat) (rest:List Int),w=[.int .i64 i]∧i<=y.size∧bN 1 H' (some ⟨H.size+1,0,none⟩) y.size y.size (aj ((ax y).take i++rest)) [H.size+1]∧Fr [] H H'∧aV H' H.size (cc b r a l c),fun w _=>match w with
  | [.int _ i]=>((y.size:Int)-i).toNat
  | _=>0,⟨0,_,rfl,Nat.zero_le _,ho2,f2,hb2⟩,?_⟩
 rintro w H3 ⟨i,rest,rfl,hi,ho3,f3,hb3⟩ _
 have hbl:=cO y
 have hlen:=ho3.len
 simp only [aj,List.length_map,List.length_append,List.length_take,Nat.mul_one,hbl] at hlen
 refine ⟨_,rfl,gg (fun hlt=>?_) fun hge=>?_⟩
 ·have hil:i<y.size:=by omega
  have e1:IntKind.wrap .i64 ((i:Int)+1)=((i+1:Nat):Int):=by rw [ah (by omega) (by omega)];omega
  have hg:y[i]?=some y[i]:=by simp [hil]
  have hu:=(y[i]).toNat_lt
  have eu:IntKind.wrap .i64 ((y[i]).toNat:Int)=((y[i]).toNat:Int):=ah (by omega) (by omega)
  obtain ⟨bb,hbb,hw,hf,hput⟩:=oT ho3 hil (.int .i64 ((y[i]).toNat:Int))
  cases hbb
  rw [e1]
  refine ⟨y[i],⟨by omega,by rw [Int.toNat_natCast];exact hg⟩,⟨by omega,by omega⟩,_,rfl,?_⟩
  rw [ak,Nat.zero_add,Nat.mul_one,Int.toNat_natCast,eu]
  cases rest with
  | nil=>simp at hlen;omega
  | cons z rest =>
   have hf':Fr [] H (aB H3 ⟨H.size+1,i,none⟩ (.int .i64 ((y[i]).toNat:Int))):=Fr.late f3 (by omega)
   refine ⟨hw,⟨i+1,rest,rfl,by omega,?_,hf',hb3.fr hf (by simp)⟩,by simp;omega⟩
   have hbi:(ax y)[i]?=some ((y[i]).toNat:Int):=by
    unfold ax
    rw [List.getElem?_map,Array.getElem?_toList]
    have:y.data[i]?=some y[i]:=by
     have h1:i<y.data.size:=hil
     rw [Array.getElem?_eq_getElem h1];rfl
    rw [this];rfl
   have et:(aj ((ax y).take i++z :: rest)).set i (.int .i64 ((y[i]).toNat:Int))=aj ((ax y).take (i+1)++rest):=by
    have h1:((ax y).take i).length=i:=by rw [List.length_take,hbl];omega
    rw [List.take_add_one,hbi]
    simp only [aj,List.map_append,List.map_cons,Option.toList_some,List.append_assoc,List.singleton_append,List.map_nil]
    rw [List.set_append_right _ _ (by rw [List.length_map,h1];exact Nat.le_refl _),List.length_map,h1,Nat.sub_self]
    rfl
   rw [et] at hput
   exact hput
 ·have hiy:i=y.size:=by omega
  subst hiy
  have hr0:rest=[]:=List.eq_nil_of_length_eq_zero (by omega)
  subst hr0
  rw [List.append_nil,List.take_of_length_le (by omega)] at ho3
  refine ⟨_,hb3.cell 0,_,hb3.cell 1,_,_,_,hb3.cell 2,ql (hK.nil f3) (by decide) ho3.rd (fun p hp=>by cases hp;exact hnF) (by omega) fun H' hK' f'=>⟨_,_,rfl,h H' hK' ?_⟩⟩
  exact ⟨Nat.le_trans f3.1 f'.1,fun z hz hn=>by rw [f'.2 z (Nat.lt_of_lt_of_le hz f3.1) hn,f3.2 z hz (by simp)]⟩
end
end Go.Proofs.YtgcoppcogllpbaaGreatDoor
namespace Kw
open Go
def zH (H:ae) (r:Option Nat) (es:List (Key × Value)):Prop :=
 match r with
 | some r=>bT H r es
 | none=>es=[]
section
variable {P:Program}{H:ae}
theorem jC {T:TypeId}{d:TypeDesc}{z:Value}{r:Option Nat}{k:Key}{es:List (Key × Value)}{ok:Bool}{Q:Value->ae->Prop} (hi:cp P T=some (d,some z)) (hk:k.of d) (ho:∀ p∈es,p.1.of d) (hm:zH H r es)
  (h:Q (if ok then .tuple #[(bS es k).getD z,.bool (bS es k).isSome] else (bS es k).getD z) H):aI P (Instr.lookup T (.map r) k.v ok) Q H:=by
 cases r with
 | some r=>exact ij hi hk ho hm h
 | none =>
  have hm:es=[]:=hm
  subst hm
  obtain ⟨kt,et,i,hu,hkt,hie,hz⟩:=cI hi
  unfold Instr.lookup
  refine ag (aG hu ?_)
  refine ag (cg ?_)
  refine ag (dW hkt hk ?_)
  refine ag (eH (ents:=#[]) hkt hk rfl ho ?_)
  exact ag (cl hie hz h)
end
end Kw
namespace Go.Proofs.YtgcoppcogllpbaaGreatDoor
open Kw
theorem iN {a b:Int}{A B:Prop} (h1:a=b->A) (h2:a≠b->B):cond (a == b) A B:=by
 rw [aU,af]
 exact aA h1 h2
inductive PF
 | fn (f:Nat)
 | clo (f g:Nat)
 | slot (f:Nat) (i:Int)
 | nil
deriving DecidableEq
abbrev PE:=ByteArray × Int × PF
def uy (H:ae) (n r:Nat):PF->Value->Prop
 | .fn f,v=>v=.func (.func f) #[] #[]
 | .clo f g,v=>∃ b,v=.func (.func f) #[] #[.pointer (some ⟨b,0,none⟩)]∧aV H b #[.func (.func g) #[] #[]]∧n<=b∧b≠r
 | .slot f i,v=>∃ b,v=.func (.func f) #[] #[.pointer (some ⟨b,0,none⟩)]∧aV H b #[.int .i64 i]∧n<=b∧b≠r
 | .nil,v=>v=.nilFunc
theorem uy.fr {H H':ae}{n r:Nat}{G:az}{p:PF}{v:Value} (h:uy H n r p v) (hf:Fr G H H') (hG:∀ x∈G,x<n∨x=r):uy H' n r p v:=by
 cases p with
 | fn f=>exact h
 | clo f g =>
  obtain ⟨b,h1,h2,h3,h4⟩:=h
  exact ⟨b,h1,h2.fr hf (fun hm=>by rcases hG b hm with h5 | h5 <;> omega),h3,h4⟩
 | slot f i =>
  obtain ⟨b,h1,h2,h3,h4⟩:=h
  exact ⟨b,h1,h2.fr hf (fun hm=>by rcases hG b hm with h5 | h5 <;> omega),h3,h4⟩
 | nil=>exact h
def CS (H:ae) (n r:Nat) (p:Key × Value) (e:PE):Prop:=p.1=.str e.1∧∃ v,p.2=.agg #[.int .i64 e.2.1,v]∧uy H n r e.2.2 v
def eT:List PE->ByteArray->Option (Int × PF)
 | [],_=>none
 | e :: es,x=>if x=e.1 then some e.2 else eT es x
inductive Ents (H:ae) (n r:Nat):List (Key × Value)->List PE->Prop
 | nil:Ents H n r [] []
 | cons {p e ms es}:CS H n r p e->Ents H n r ms es->Ents H n r (p :: ms) (e :: es)
theorem Ents.fr {H H':ae}{n r:Nat}{G:az}{ms:List (Key × Value)}{es:List PE} (h:Ents H n r ms es) (hf:Fr G H H') (hG:∀ x∈G,x<n∨x=r):Ents H' n r ms es:=by
 induction h with
 | nil=>exact .nil
 | cons he _ ih =>
  obtain ⟨h1,v,h2,h3⟩:=he
  exact .cons ⟨h1,v,h2,h3.fr hf hG⟩ ih
theorem Ents.snoc {H:ae}{n r:Nat}{ms:List (Key × Value)}{es:List PE}{p:Key × Value}{e:PE} (h:Ents H n r ms es) (he:CS H n r p e):Ents H n r (ms++[p]) (es++[e]):=by
 induction h with
 | nil=>exact .cons he .nil
 | cons h1 _ ih=>exact .cons h1 ih
theorem Ents.keys {H:ae}{n r:Nat}{ms:List (Key × Value)}{es:List PE} (h:Ents H n r ms es):∀ p∈ms,p.1.of .string:=by
 induction h with
 | nil=>intro p hp;cases hp
 | cons he _ ih =>
  intro p hp
  rcases List.mem_cons.1 hp with rfl | hp
  ·rw [he.1];trivial
  ·exact ih p hp
theorem Ents.none {H:ae}{n r:Nat}{ms:List (Key × Value)}{es:List PE} (h:Ents H n r ms es){x:ByteArray} (hx:eT es x=.none):bS ms (.str x)=.none:=by
 induction h with
 | nil=>rfl
 | cons he _ ih =>
  unfold eT at hx
  unfold bS
  split at hx
  ·cases hx
  ·rename_i hn
   rw [if_neg (fun e=>hn (by rw [he.1] at e;cases e;rfl))]
   exact ih hx
theorem Ents.some {H:ae}{n r:Nat}{ms:List (Key × Value)}{es:List PE} (h:Ents H n r ms es){x:ByteArray}{k:Int}{q:PF} (hx:eT es x=.some (k,q)):∃ v,bS ms (.str x)=.some (.agg #[.int .i64 k,v])∧uy H n r q v:=by
 induction h with
 | nil=>cases hx
 | cons he _ ih =>
  unfold eT at hx
  unfold bS
  obtain ⟨h1,v,h2,h3⟩:=he
  split at hx
  ·rename_i hn
   have e1:=Option.some.inj hx
   rw [if_pos (by rw [h1,hn])]
   rw [e1] at h2 h3
   exact ⟨v,by rw [h2],h3⟩
  ·rename_i hn
   rw [if_neg (fun e=>hn (by rw [h1] at e;cases e;rfl))]
   exact ih hx
structure MapE (H0 H:ae) (r:Nat) (es:List PE):Prop where
 m:∃ ms,bT H r ms∧Ents H H0.size r ms es
 f:Fr [] H0 H
 l:H0.size<=r
theorem MapE.new (H:ae):MapE H (H.push (.map #[] 0)) H.size []:=⟨⟨[],bT.new H,.nil⟩,Fr.push _ _ _,Nat.le_refl _⟩
theorem MapE.fr {H0 H H':ae}{r:Nat}{es:List PE} (h:MapE H0 H r es) (hf:Fr [] H H'):MapE H0 H' r es:=by
 obtain ⟨⟨ms,h1,h2⟩,h3,h4⟩:=h
 exact ⟨⟨ms,h1.fr hf (by simp),h2.fr hf (by simp)⟩,h3.trans hf,h4⟩
section
variable {H0 H:ae}{r:Nat}{es:List PE}{k:ByteArray}{n:Int}{Q:Unit->ae->Prop}
theorem gm {p:PF}{v:Value} (hm:MapE H0 H r es) (hv:uy H H0.size r p v) (hn:eT es k=none) (h:∀ H',MapE H0 H' r (es++[(k,n,p)])->Q () H'):aI PP (Instr.mapUpdate 146 (.map (some r)) (.string k) (.agg #[.int .i64 n,v])) Q H:=by
 obtain ⟨⟨ms,h1,h2⟩,h3,h4⟩:=hm
 have hi:cp PP 146=some (.string,some (.agg #[.int .i64 0,.nilFunc])):=by kernel_rfl
 refine eO (k:=.str k) hi trivial h2.keys h1 fun H' g f=>h H' ⟨⟨_,g,?_⟩,⟨Nat.le_trans h3.1 f.1,fun y hy _=>?_⟩,h4⟩
 ·rw [gA (cU.2 (h2.none hn))]
  have hG:∀ x∈[r],x<H0.size∨x=r:=fun x hx=>.inr (List.mem_singleton.1 hx)
  exact (h2.fr f hG).snoc ⟨rfl,v,rfl,hv.fr f hG⟩
 ·rw [f.2 y (Nat.lt_of_lt_of_le hy h3.1) (fun e=>by simp only [List.mem_singleton] at e;omega),h3.2 y hy (by simp)]
theorem aS {f:Nat} (hm:MapE H0 H r es) (hn:eT es k=none) (h:∀ H',MapE H0 H' r (es++[(k,n,.fn f)])->Q () H'):aI PP (Instr.mapUpdate 146 (.map (some r)) (.string k) (.agg #[.int .i64 n,.func (.func f) #[] #[]])) Q H :=
 gm (p:=.fn f) hm rfl hn h
theorem oM (hm:MapE H0 H r es) (hn:eT es k=none) (h:∀ H',MapE H0 H' r (es++[(k,n,.nil)])->Q () H'):aI PP (Instr.mapUpdate 146 (.map (some r)) (.string k) (.agg #[.int .i64 n,.nilFunc])) Q H :=
 gm (p:=.nil) hm rfl hn h
theorem MapE.lt (hm:MapE H0 H r es):r<H.size:=by obtain ⟨⟨ms,h1,_⟩,_⟩:=hm;exact h1.lt
theorem cG {f:Nat} (hm:MapE H0 H r es) (hn:eT es k=none) (h:∀ H',MapE H0 H' r (es++[(k,n,.clo 301 f)])->Q () H'):ac PP Ah #[.func (.func f) #[] #[]] (fun v H1=>∃ f8:Nat,∃ g8:Array Value,∃ h8:Array Value,v=.func (.func f8) g8 h8∧aI PP (Instr.mapUpdate 146 (.map (some r)) (.string k) (.agg #[.int .i64 n,.func (.func f8) g8 h8])) Q H1) H:=by
 apply xF
 unfold CJ A0 pV
 have:=hm.lt
 exact ⟨_,_,_,rfl,gm (p:=.clo _ f) (hm.fr (Fr.push _ _ _)) ⟨_,rfl,aV.new _ _ _,hm.f.1,by omega⟩ hn h⟩
theorem iu {f:Nat} (hm:MapE H0 H r es) (hn:eT es k=none) (h:∀ H',MapE H0 H' r (es++[(k,n,.clo 303 f)])->Q () H'):ac PP yu #[.func (.func f) #[] #[]] (fun v H1=>∃ f8:Nat,∃ g8:Array Value,∃ h8:Array Value,v=.func (.func f8) g8 h8∧aI PP (Instr.mapUpdate 146 (.map (some r)) (.string k) (.agg #[.int .i64 n,.func (.func f8) g8 h8])) Q H1) H:=by
 apply vp
 unfold AY A0 pV
 have:=hm.lt
 exact ⟨_,_,_,rfl,gm (p:=.clo _ f) (hm.fr (Fr.push _ _ _)) ⟨_,rfl,aV.new _ _ _,hm.f.1,by omega⟩ hn h⟩
theorem ff {i:Int} (hm:MapE H0 H r es) (hn:eT es k=none) (h:∀ H',MapE H0 H' r (es++[(k,n,.slot 312 i)])->Q () H'):ac PP yz #[.int .i64 i] (fun v H1=>∃ f8:Nat,∃ g8:Array Value,∃ h8:Array Value,v=.func (.func f8) g8 h8∧aI PP (Instr.mapUpdate 146 (.map (some r)) (.string k) (.agg #[.int .i64 n,.func (.func f8) g8 h8])) Q H1) H:=by
 apply vB
 unfold A6 A0 iV pV
 have:=hm.lt
 exact ⟨_,_,_,rfl,gm (p:=.slot _ i) (hm.fr (Fr.push _ _ _)) ⟨_,rfl,aV.new _ _ _,hm.f.1,by omega⟩ hn h⟩
end
def qy (H0 H:ae) (r:Option Nat) (es:List PE):Prop :=
 match r with
 | some r=>MapE H0 H r es
 | none=>es=[]∧Fr [] H0 H
theorem qy.f {H0 H:ae}{r:Option Nat}{es:List PE} (h:qy H0 H r es):Fr [] H0 H:=by
 cases r
 ·exact h.2
 ·exact MapE.f h
theorem sj {H0 H:ae}{r:Option Nat}{es:List PE}{x:ByteArray}{Q:QT} (h:qy H0 H r es) (hno:eT es x=none->Q (.tuple #[.agg #[.int .i64 0,.nilFunc],.bool false]) H)
  (hyes:∀ k q v rr,eT es x=some (k,q)->uy H H0.size rr q v->Q (.tuple #[.agg #[.int .i64 k,v],.bool true]) H):aI PP (Instr.lookup 146 (.map r) (.string x) true) Q H:=by
 have hi:cp PP 146=some (.string,some (.agg #[.int .i64 0,.nilFunc])):=by kernel_rfl
 cases r with
 | none =>
  obtain ⟨rfl,_⟩:=h
  exact jC (k:=.str x) (es:=[]) hi trivial (by simp) rfl (hno rfl)
 | some r =>
  obtain ⟨⟨ms,h1,h2⟩,_,_⟩:=h
  refine jC (k:=.str x) (r:=some r) hi trivial h2.keys h1 ?_
  cases hg:eT es x with
  | none=>rw [h2.none hg];exact hno hg
  | some kq =>
   obtain ⟨k,q⟩:=kq
   obtain ⟨v,h3,h4⟩:=h2.some hg
   rw [h3];exact hyes k q v r hg h4
end Go.Proofs.YtgcoppcogllpbaaGreatDoor
namespace Go.Proofs
open Go.Shelf
def Tryz.rep_ren:Go.Shelf.Ren:=⟨fun | 105=>313 | 212=>356 | 99=>357 | 165=>358 | 166=>359 | 170=>360 | 169=>355 | 263=>385 | 264=>386 | 206=>387 | 240=>384 | 241=>388 | 276=>407 | 277=>408 | n=>n,fun | 9=>9 | 3=>3 | 4=>4 | 20=>20 | 0=>0 | 46=>77 | 109=>303 | 5=>5 | 72=>298 | 76=>305 | 51=>309 | 146=>329 | 53=>279 | 148=>331 | 70=>296 | 37=>263 | 75=>300 | 127=>328 | 164=>344 | 80=>302 | n=>n,fun | n=>n⟩
theorem Tryz.rep:Go.Proofs.Lays.n105 Tryz.prog Tryz.rep_ren:={
 mixed:=by kernel_rfl
 f99:=Tryz.func357.trans (congrArg some (by kernel_rfl))
 f105:=Tryz.func313.trans (congrArg some (by kernel_rfl))
 f165:=Tryz.func358.trans (congrArg some (by kernel_rfl))
 f166:=Tryz.func359.trans (congrArg some (by kernel_rfl))
 f169:=Tryz.func355.trans (congrArg some (by kernel_rfl))
 f170:=Tryz.func360.trans (congrArg some (by kernel_rfl))
 f206:=Tryz.func387.trans (congrArg some (by kernel_rfl))
 f212:=Tryz.func356.trans (congrArg some (by kernel_rfl))
 f240:=Tryz.func384.trans (congrArg some (by kernel_rfl))
 f241:=Tryz.func388.trans (congrArg some (by kernel_rfl))
 f263:=Tryz.func385.trans (congrArg some (by kernel_rfl))
 f264:=Tryz.func386.trans (congrArg some (by kernel_rfl))
 f276:=Tryz.func407.trans (congrArg some (by kernel_rfl))
 f277:=Tryz.func408.trans (congrArg some (by kernel_rfl))
 t0:=Tryz.underlying0
 a0:=Tryz.isAgg0
 z0:=Tryz.sizeOf0
 v0:=Tryz.zeroValue0
 t3:=Tryz.underlying3
 a3:=Tryz.isAgg3
 z3:=Tryz.sizeOf3
 v3:=Tryz.zeroValue3
 t4:=Tryz.underlying4
 a4:=Tryz.isAgg4
 z4:=Tryz.sizeOf4
 v4:=Tryz.zeroValue4
 t5:=Tryz.underlying5
 a5:=Tryz.isAgg5
 z5:=Tryz.sizeOf5
 v5:=Tryz.zeroValue5
 t9:=Tryz.underlying9
 a9:=Tryz.isAgg9
 z9:=Tryz.sizeOf9
 v9:=Tryz.zeroValue9
 t20:=Tryz.underlying20
 a20:=Tryz.isAgg20
 z20:=Tryz.sizeOf20
 v20:=Tryz.zeroValue20
 t37:=Tryz.underlying263
 a37:=Tryz.isAgg263
 z37:=Tryz.sizeOf263
 v37:=Tryz.zeroValue263
 t46:=Tryz.underlying77
 a46:=Tryz.isAgg77
 z46:=Tryz.sizeOf77
 v46:=Tryz.zeroValue77
 t51:=Tryz.underlying309
 a51:=Tryz.isAgg309
 z51:=Tryz.sizeOf309
 v51:=Tryz.zeroValue309
 t53:=Tryz.underlying279
 a53:=Tryz.isAgg279
 z53:=Tryz.sizeOf279
 v53:=Tryz.zeroValue279
 t70:=Tryz.underlying296
 a70:=Tryz.isAgg296
 z70:=Tryz.sizeOf296
 v70:=Tryz.zeroValue296
 t72:=Tryz.underlying298
 a72:=Tryz.isAgg298
 z72:=Tryz.sizeOf298
 v72:=Tryz.zeroValue298
 t75:=Tryz.underlying300
 a75:=Tryz.isAgg300
 z75:=Tryz.sizeOf300
 v75:=Tryz.zeroValue300
 t76:=Tryz.underlying305
 a76:=Tryz.isAgg305
 z76:=Tryz.sizeOf305
 v76:=Tryz.zeroValue305
 t109:=Tryz.underlying303
 a109:=Tryz.isAgg303
 z109:=Tryz.sizeOf303
 v109:=Tryz.zeroValue303
 t127:=Tryz.underlying328
 a127:=Tryz.isAgg328
 z127:=Tryz.sizeOf328
 v127:=Tryz.zeroValue328
 t146:=Tryz.underlying329
 a146:=Tryz.isAgg329
 z146:=Tryz.sizeOf329
 v146:=Tryz.zeroValue329
 t148:=Tryz.underlying331
 a148:=Tryz.isAgg331
 z148:=Tryz.sizeOf331
 v148:=Tryz.zeroValue331
 t164:=Tryz.underlying344
 a164:=Tryz.isAgg344
 z164:=Tryz.sizeOf344
 v164:=Tryz.zeroValue344 }
theorem Tryz.repX:Builder.Extra Tryz.prog Tryz.rep_ren:={
 sizeBuilder:=by kernel_rfl
 liesBuilder:=by kernel_rfl
 t5:=Tryz.rep.t5
 a5:=Tryz.rep.a5
 z5:=Tryz.rep.z5
 v5:=Tryz.rep.v5
 infoByte:=by kernel_rfl
 cellsByte:=by kernel_rfl
 sizeByte:=by kernel_rfl
 neB5:=by decide }
end Go.Proofs
namespace Kw
open Go
def RD {α:Type} (d:Nat):Result α->Prop
 | .ok _ w=>d<=w.drawn
 | .halt _ w=>d<=w.drawn
theorem RD.mono {α:Type}{d d':Nat}{r:Result α} (h:d<=d') (hr:RD d' r):RD d r:=by
 cases r <;> exact Nat.le_trans h hr
theorem Cc {α:Type} (a:Ask α) (w:World):w.drawn<=(w.ask a).2.drawn:=by
 induction a generalizing w with
 | done=>exact Nat.le_refl _
 | ask what range k ih =>
  unfold World.ask
  simp only
  split
  ·exact ih _ _
  ·exact Nat.le_trans (Nat.le_succ _) (ih _ { w with drawn:=w.drawn+1 })
theorem yc (w:World) (c:Sys):w.drawn<=(w.sys c).2.drawn:=by
 unfold World.sys
 have h:=Cc (Kernel.perform c w.os) w
 split
 ·exact Nat.le_refl _
 ·rename_i e;rw [e] at h;exact h
theorem oz {p:Program}{w:World}{at_:Addr}{u:TypeId}{k:Addr}{v:Value}{b:Bool}{r:World × List Addr} (h:w.viewStore p at_ u k v b=.ok r):r.1.drawn=w.drawn:=by
 unfold World.viewStore at h
 simp only [bind,Except.bind,pure,Except.pure,MonadExcept.throw,throwThe,MonadExceptOf.throw] at h
 repeat' split at h
 all_goals cases h
 all_goals rfl
theorem kU {p:Program}{w w':World}{a:Addr}{v:Value}{b:Bool}{l:List Addr} (h:w.farStore p a v b=.ok (w',l)):w'.drawn=w.drawn:=by
 unfold World.farStore at h
 repeat' split at h
 ·cases h;rename_i e;exact oz e
 all_goals cases h
theorem lW (w:World) (a:Addr) (v:Value):(w.setCell a v).drawn=w.drawn:=by
 unfold World.setCell;rfl
theorem nz (w:World) (a:Addr) (n:Nat):(w.freeze a n).drawn=w.drawn:=by
 unfold World.freeze;split <;> rfl
theorem uo {α:Type} (p:Program) (s:Sem α) (w:World):RD w.drawn (s.run p w):=by
 induction s generalizing w with
 | pure=>exact Nat.le_refl _
 | load m a k ih =>
  unfold Sem.run
  split
  ·exact ih _ _
  ·split
   ·exact ih _ _
   ·exact Nat.le_refl _
 | store m a v k ih =>
  have key:RD w.drawn (match w.cell? a with
   | some _ => if w.frozen? a then .halt (.unsupported (.unsafePointer "a write to bytes that a string shares")) w else k.run p (w.setCell a v)
   | none=>match w.farStore p a v (m == .atomic) with
    | .ok (w,_)=>k.run p w
    | .error h=>.halt h w):=by
   split
   ·split
    ·exact Nat.le_refl _
    ·have:=ih (w.setCell a v);rw [lW] at this;exact this
   ·split
    ·rename_i e;rw [←kU e];exact ih _
    ·exact Nat.le_refl _
  cases v <;> first | exact key | exact Nat.le_refl _
 | new o k ih=>exact ih _ { w with heap:=w.heap.push o }
 | shape r k ih=>exact ih _ _
 | freeze a n k ih=>have:=ih (w.freeze a n);rw [nz] at this;exact this
 | frozen a k ih=>exact ih _ _
 | getObj r k ih =>
  unfold Sem.run
  split
  ·exact Nat.le_refl _
  ·exact ih _ _
  ·exact Nat.le_refl _
 | setObj r o k ih =>
  unfold Sem.run
  split
  ·exact Nat.le_refl _
  ·exact ih { w with heap:=w.heap.setIfInBounds r o }
  ·exact Nat.le_refl _
 | choose q k ih =>
  unfold Sem.run
  split
  ·exact ih _ _
  ·exact RD.mono (Nat.le_succ _) (ih _ { w with drawn:=w.drawn+1 })
 | sys c k ih=>exact RD.mono (yc w c) (ih _ _)
 | program k ih=>exact ih _ _
 | mark m k ih=>exact ih _
 | halt h=>exact Nat.le_refl _
theorem iX {α:Type} (p:Program) (s:Sem α) (w:World) (es:Array Event):RD w.drawn (s.runT p w es).1:=by
 induction s generalizing w es with
 | pure=>exact Nat.le_refl _
 | load m a k ih =>
  unfold Sem.runT
  split
  ·exact ih _ _ _
  ·split
   ·exact ih _ _ _
   ·exact Nat.le_refl _
 | store m a v k ih =>
  have key:RD w.drawn (match w.cell? a with
   | some _ =>
    if w.frozen? a then (Result.halt (.unsupported (.unsafePointer "a write to bytes that a string shares")) w, es)
    else k.runT p (w.setCell a v) (es.push ⟨.cell a,true,m == Mode.atomic⟩)
   | none=>match w.farStore p a v (m == Mode.atomic) with
    | .ok (w,touched)=>k.runT p w (es++touched.toArray.map fun x=>(⟨.cell x,true,m == Mode.atomic⟩:Event))
    | .error h=>(Result.halt h w,es)).1:=by
   split
   ·split
    ·exact Nat.le_refl _
    ·have:=ih (w.setCell a v) (es.push ⟨.cell a,true,m == .atomic⟩);rw [lW] at this;exact this
   ·split
    ·rename_i e;rw [←kU e];exact ih _ _
    ·exact Nat.le_refl _
  cases v <;> first | exact key | exact Nat.le_refl _
 | new o k ih=>exact ih _ { w with heap:=w.heap.push o } _
 | shape r k ih=>exact ih _ _ _
 | freeze a n k ih=>have:=ih (w.freeze a n) es;rw [nz] at this;exact this
 | frozen a k ih=>exact ih _ _ _
 | getObj r k ih =>
  unfold Sem.runT
  split
  ·exact Nat.le_refl _
  ·exact ih _ _ _
  ·exact Nat.le_refl _
 | setObj r o k ih =>
  unfold Sem.runT
  split
  ·exact Nat.le_refl _
  ·exact ih { w with heap:=w.heap.setIfInBounds r o } _
  ·exact Nat.le_refl _
 | choose q k ih =>
  unfold Sem.runT
  split
  ·exact ih _ _ _
  ·exact RD.mono (Nat.le_succ _) (ih _ { w with drawn:=w.drawn+1 } _)
 | sys c k ih=>exact RD.mono (yc w c) (ih _ _ _)
 | program k ih=>exact ih _ _ _
 | mark m k ih=>exact ih _ _
 | halt h=>exact Nat.le_refl _
section
variable {α:Type}{p:Program}{s:Sem α}{w w':World}{a:α}{h:Halt}{es es' es2:Array Event}{l:Bool}
theorem cd (e:s.run p w=.ok a w'):w.drawn<=w'.drawn:=by have:=uo p s w;rw [e] at this;exact this
theorem tz (e:s.run p w=.halt h w'):w.drawn<=w'.drawn:=by have:=uo p s w;rw [e] at this;exact this
theorem wK (e:s.runT p w es=(.ok a w',es')):w.drawn<=w'.drawn:=by have:=iX p s w es;rw [e] at this;exact this
theorem rT (e:s.runT p w es=(.halt h w',es')):w.drawn<=w'.drawn:=by have:=iX p s w es;rw [e] at this;exact this
theorem gF (e:(s.runT p w es).1=.ok a w'):w.drawn<=w'.drawn:=by have:=iX p s w es;rw [e] at this;exact this
theorem mg (e:(s.runT p w es).1=.halt h w'):w.drawn<=w'.drawn:=by have:=iX p s w es;rw [e] at this;exact this
end
def GD (d:Nat):GStep->Prop
 | .go _ w _=>d<=w.drawn
 | .comm _ _ _ _ w _=>d<=w.drawn
 | .spawn _ _ w _=>d<=w.drawn
 | .count _ w _=>d<=w.drawn
 | .timer _ _ w _=>d<=w.drawn
 | .alone _ _ w _=>d<=w.drawn
 | .newcoro _ _ _ w _=>d<=w.drawn
 | .coroswitch _ _ _ w _=>d<=w.drawn
 | .collect _ w _=>d<=w.drawn
 | .watch _ w _=>d<=w.drawn
 | .ended ..=>True
theorem GD.after {d:Nat}{es:Array Event}{g:GStep} (h:GD d g):GD d (g.after es):=by cases g <;> exact h
theorem GD.ite {d:Nat}{c:Prop} [Decidable c] {a b:GStep} (h1:GD d a) (h2:GD d b):GD d (if c then a else b):=by split <;> assumption
theorem GD.elim {d:Nat}{α:Type}{o:Option α}{a:GStep}{f:α->GStep} (h1:GD d a) (h2:∀ x,GD d (f x)):GD d (o.elim a f):=by cases o <;> first | exact h1 | exact h2 _
theorem wk {d:Nat}{fr:Frame}{l:List ByteArray}{m:String}{b:Bool}{w:World} (h:d<=w.drawn):GD d (dieOf fr l m b w):=h
theorem cQ {d:Nat}{fr:Frame}{m:String}{w:World} (h:d<=w.drawn):GD d (endThrow fr m w):=h
theorem r8 (d:Nat) (w:World) (fd:Nat) (t:ByteArray) (o:Outcome):GD d (endWith w fd t o):=by
 unfold endWith
 simp only
 repeat' split
 all_goals trivial
theorem gZ {d:Nat}{p:Program}{fr:Frame}{v:Value}{w:World} (h:d<=w.drawn):GD d (endPrinting p fr v w):=by
 unfold endPrinting
 simp only
 split
 ·exact cQ h
 ·trivial
theorem hE {d:Nat}{p:Program}{fr:Frame}{cs:List Frame}{dy:Option Dying}{m:String}{w:World} (h:d<=w.drawn):GD d (endFatal p fr cs dy m w):=by
 unfold endFatal
 simp only
 split
 ·exact wk (Nat.le_trans h (cd (by assumption)))
 ·trivial
 ·trivial
theorem ra {d:Nat}{p:Program}{fr:Frame}{dy:Dying}{f:Fatal}{w:World} (h:d<=w.drawn):GD d (writeOn p fr dy f w):=by
 unfold writeOn
 simp only
 split
 ·trivial
 ·split
  ·exact Nat.le_trans h (wK (by assumption))
  ·exact Nat.le_trans h (rT (by assumption))
  ·trivial
  ·trivial
theorem Bw {d:Nat}{p:Program}{fr:Frame}{dy:Dying}{w:World} (h:d<=w.drawn):GD d (die p fr dy w):=by
 unfold die
 simp only
 repeat' first | apply GD.after | split
 all_goals first | exact ra h | exact h | exact r8 _ _ _ _ _ | exact Nat.le_trans h (cd (by assumption)) | exact Nat.le_trans h (gF (by assumption)) | exact gZ (Nat.le_trans h (mg (by assumption))) | trivial
theorem qn {d:Nat}{p:Program}{fr:Frame}{cs:List Frame}{dy:Option Dying}{g:Nat}{w:World} (h:d<=w.drawn):GD d (early p fr cs dy g w):=by
 have nY:∀ w:World,d<=w.drawn->GD d (match w.heap[g]? with
  | some (.pending c elem)=>.go { frame:=fr,callers:=cs,status:=.running,dying:=dy } { w with heap:=w.heap.setIfInBounds g (.cells c elem) }
  | _ => .ended (.stuck "early: the variable does not wait" (fr.pos p)) w) := by
  intro w h
  split
  ·exact h
  ·trivial
 unfold early
 simp only
 split
 ·exact nY _ h
 ·split
  ·trivial
  ·split
   ·exact nY _ h
   ·split
    ·exact nY _ h
    ·split
     ·trivial
     ·exact h
     ·trivial
     ·exact nY _ h
     ·split
      ·exact h
      ·split
       ·exact nY _ h
       ·split
        ·exact nY _ (Nat.le_trans h (cd (by assumption)))
        ·exact Nat.le_trans h (cd (by assumption))
        ·trivial
theorem ic {d:Nat}{p:Program}{main:Bool}{fr:Frame}{cs:List Frame}{dy:Option Dying}{v:Value}{w:World} (h:d<=w.drawn):GD d (doReturn p main fr cs dy v w):=by
 unfold doReturn
 simp only
 split
 ·split <;> exact h
 ·split
  ·exact h
  ·trivial
  ·split
   ·exact h
   ·split
    ·exact h
    ·trivial
theorem kr {d:Nat}{p:Program}{fr:Frame}{cs:List Frame}{dy:Option Dying}{df:Deferred}{w:World} (h:d<=w.drawn):GD d (callDeferred p fr cs dy df w):=by
 unfold callDeferred
 simp only
 refine GD.ite trivial ?_
 ·apply GD.after
  have hr:=iX p (invoke df.target df.args) w #[]
  generalize (invoke df.target df.args).runT p w #[]=x at hr ⊢
  obtain ⟨r,es⟩:=x
  simp only at hr ⊢
  have hr2:=hr.mono h
  clear hr
  cases r with
  | ok a w' =>
   have hw:d<=w'.drawn:=hr2
   cases a
   all_goals first | exact hw | trivial | dsimp only | skip
   all_goals (repeat' split)
   all_goals first | exact hw | trivial | (cases ‹Result.ok _ _=Result.ok _ _› <;> first | exact hw | trivial)
  | halt ha w' =>
   have hw:d<=w'.drawn:=hr2
   cases ha
   all_goals first | exact hw | trivial | exact hE hw | exact cQ hw
theorem tL {d:Nat}{p:Program}{main:Bool}{fr:Frame}{cs:List Frame}{dy:Option Dying}{w:World} (h:d<=w.drawn):GD d (unwind p main fr cs dy w):=by
 unfold unwind
 simp only
 split
 ·apply GD.after
  split
  ·exact Nat.le_trans h (gF (by assumption))
  ·trivial
 ·exact kr h
 ·split
  ·trivial
  ·split
   ·trivial
   ·split
    ·exact h
    ·split
     ·split
      ·exact h
      ·split
       ·exact Nat.le_trans h (cd (by assumption))
       ·trivial
       ·trivial
     ·split
      ·exact gZ h
      ·trivial
  ·split
   ·exact ic h
   ·apply GD.after
    split
    ·exact ic (Nat.le_trans h (gF (by assumption)))
    ·trivial
    ·trivial
theorem jO {d:Nat}{p:Program}{l:Bool}{fr:Frame}{cs:List Frame}{dy:Option Dying}{s:Sem Next}{w:World} (h:d<=w.drawn):GD d (stepG.apply p l fr cs dy s w):=by
 unfold stepG.apply
 simp only
 apply GD.after
 have hr:RD d (if l=true then s.runT p w #[] else (s.run p w,#[])).1:=by
  split
  ·exact (iX p s w #[]).mono h
  ·exact (uo p s w).mono h
 generalize (if l=true then s.runT p w #[] else (s.run p w,#[]))=x at hr ⊢
 obtain ⟨r,es⟩:=x
 simp only at hr ⊢
 cases r with
 | ok a w' =>
  have hw:d<=w'.drawn:=hr
  cases a
  all_goals first | exact hw | trivial | dsimp only
  all_goals (repeat' first | apply GD.ite | split)
  all_goals first | exact hw | exact cQ hw | trivial
 | halt ha w' =>
  have hw:d<=w'.drawn:=hr
  cases ha
  all_goals first | exact hw | trivial | exact hE hw | exact cQ hw | dsimp only | skip
  all_goals (repeat' split)
  all_goals first | exact hw | trivial | exact hE hw | exact cQ hw | exact qn hw | (cases ‹Result.halt _ _=Result.halt _ _› <;> first | exact hw | trivial | exact qn hw)
theorem tX {d:Nat}{p:Program}{l:Bool}{fr:Frame}{cs:List Frame}{dy:Option Dying}{w:World} (h:d<=w.drawn):GD d (stepG.oper p l fr cs dy w):=by
 unfold stepG.oper
 repeat' split
 all_goals first | exact jO h | trivial
theorem Ax {d:Nat}{p:Program}{main l:Bool}{fr:Frame}{cs:List Frame}{dy:Option Dying}{w:World} (h:d<=w.drawn):GD d (stepG.exec p main l fr cs dy w):=by
 have lv:∀ (c:Prop) [Decidable c] (jump:Option Code),GD d (match fr.roundOf with
   | none => if c then .go { frame := { fr with mode := .returning }, callers := cs, status := .running, dying := dy } w else .ended (.stuck "exit, goto: no such block or label" (fr.pos p)) w
   | some l =>
    GStep.after (seen p fr.fn ((Instr.endRound l jump).runT p w #[]).2) <| match ((Instr.endRound l jump).runT p w #[]).1 with
    | .ok v w=>doReturn p main fr cs dy v w
    | .halt _ w => .ended (.stuck "range over a function: no such loop" (fr.pos p)) w) := by
  intro c _ jump
  split
  ·refine GD.ite ?_ trivial;exact h
  ·apply GD.after
   split
   ·exact ic (Nat.le_trans h (gF (by assumption)))
   ·trivial
 unfold stepG.exec
 simp only
 split
 all_goals first | exact h | exact lv _ _ | trivial | exact jO h | exact tX h | skip
 ·split <;> first | exact h | trivial
 ·exact GD.elim (lv _ _) fun _=>h
 ·exact GD.elim (lv _ _) fun _=>h
 ·apply GD.after
  split
  ·exact jO (Nat.le_trans h (gF (by assumption)))
  ·trivial
 ·apply GD.after
  split
  ·exact Nat.le_trans h (gF (by assumption))
  ·exact Nat.le_trans h (mg (by assumption))
  ·trivial
 ·exact GD.elim trivial fun _=>jO h
 ·refine GD.ite h ?_
  split
  ·exact Nat.le_trans h (cd (by assumption))
  ·trivial
 ·exact GD.ite (tX h) h
theorem xb {d:Nat}{p:Program}{main l:Bool}{g:Goroutine}{w:World} (h:d<=w.drawn):GD d (stepG p main g w l):=by
 unfold stepG
 split
 split
 ·exact Bw h
 ·exact Ax h
 ·exact tL h
def SD (d:Nat):Stepped->Prop
 | .next m=>d<=m.world.drawn
 | .ended ..=>True
theorem sW {d:Nat}{p:Program}{gs:Array Goroutine}{rest:Rest}{w:World} (h:d<=w.drawn):SD d (look p gs rest w):=by
 unfold look
 simp only
 split
 ·split
  ·trivial
  ·split
   ·trivial
   ·split
    ·have e:=cd ‹Sem.run _ _ _=Result.ok _ _›
     exact Nat.le_trans h e
    ·trivial
    ·trivial
 ·trivial
theorem nL {r:Rest}{cs:Array CommCase}{w w':World} (h:waitingAt r cs w=some w'):w'.drawn=w.drawn:=by
 unfold waitingAt at h
 repeat' split at h
 all_goals cases h
 all_goals rfl
theorem lf {d:Nat}{p:Program}{rest:Rest}{gs:Array Goroutine}{i:Nat}{g:Goroutine}{cases_:Array CommCase}{b:Bool}{sh:CommShape}{w:World} (h:d<=w.drawn):SD d (communicate p rest gs i g cases_ b sh w).1:=by
 unfold communicate
 simp only
 repeat' split
 all_goals first
  | exact h
  | trivial
  | (have e:=cd ‹Sem.run _ _ w=Result.ok _ _›;have e2:=cd ‹Sem.run _ _ _=Result.ok _ _›;exact Nat.le_trans h (Nat.le_trans e e2))
  | (have e:=cd ‹Sem.run _ _ w=Result.ok _ _›;have e2:=tz ‹Sem.run _ _ _=Result.halt _ _›;exact Nat.le_trans h (Nat.le_trans e e2))
  | (have e:=cd ‹Sem.run _ _ w=Result.ok _ _›;exact Nat.le_trans h e)
  | (have e:=nL ‹_›;rw [←e] at h;exact h)
theorem nR (m:Machine) (k:Nat) (t:Timer) (a b:Nat):(retime m k t a b).2.world.drawn=m.world.drawn:=by
 unfold retime
 simp only
 split
 ·unfold drain
  split <;> rfl
 ·rfl
theorem tK {m m':Machine}{a:Addr} (h:timerOp.opened m a=some m'):m'.world.drawn=m.world.drawn:=by
 unfold timerOp.opened at h
 split at h
 ·split at h
  ·cases h;rfl
  ·cases h
 ·cases h;rfl
theorem rG {m m':Machine}{op:TimerOp}{v:Value} (h:timerOp m op=.ok (v,m')):m'.world.drawn=m.world.drawn:=by
 have nm:∀ (var:Addr) (f:Nat->Timer->Value × Machine) (d:Nat),(∀ k t,(f k t).2.world.drawn=d)->timerOp.named m var f=.ok (v,m')->m'.world.drawn=d:=by
  intro var f d hf h
  unfold timerOp.named at h
  split at h
  ·have e:=Except.ok.inj h
   have e2:=congrArg (fun x=>x.2.world.drawn) e
   simp only at e2
   rw [←e2];exact hf _ _
  ·cases h
 unfold timerOp at h
 split at h
 ·split at h
  ·cases h;rfl
  ·split at h
   ·split at h
    ·cases h
    ·cases h;rfl
   ·cases h
 ·exact nm _ (fun k t=>retime m k t 0 t.period) _ (fun k t=>nR _ _ _ _ _) h
 ·split at h
  ·rename_i m1 ho
   have e:=nm _ _ _ (fun k t=>nR m1 k t _ _) h
   exact e.trans (tK ho)
  ·cases h
 ·cases h;rfl
theorem wG {d:Nat}{p:Program}{m:Machine}{i:Nat}{l:Bool} (h:d<=m.world.drawn):SD d (Go.runT p m i l).1:=by
 unfold Go.runT
 simp only
 have hs:=xb (p:=p) (main:=i == 0) (l:=l) (g:=(m.gs.swapAt! i { (default:Goroutine) with status:=.finished }).1) h
 generalize stepG p (i == 0) (m.gs.swapAt! i { (default:Goroutine) with status:=.finished }).1 m.world l=s at hs ⊢
 cases s with
 | go g w es=>exact hs
 | comm g c b sh w es=>exact lf hs
 | spawn g c w es=>exact hs
 | count g w es =>
  dsimp only
  split
  ·trivial
  ·exact hs
 | timer g op w es =>
  dsimp only
  split
  ·have e:=rG ‹timerOp _ _=_›
   have e2:d<=w.drawn:=hs
   show d<=_
   rw [←(show _=w.drawn from e)] at e2
   exact e2
  ·split
   ·rename_i e
    exact (congrArg (GD d) e).mp (cQ hs)
   ·trivial
  ·trivial
  ·trivial
 | alone g on w es=>exact hs
 | newcoro g c df w es=>exact hs
 | coroswitch g c ex w es =>
  dsimp only
  split
  ·exact hs
  ·split
   ·rename_i e
    exact (congrArg (GD d) e).mp (cQ hs)
   ·trivial
  ·trivial
 | collect g w es=>exact sW hs
 | watch g w es=>exact hs
 | ended o w es=>trivial
theorem xw {d:Nat}{p:Program}{m:Machine}{k:Nat} (h:d<=m.world.drawn):SD d (serve p m k):=by
 unfold serve
 split
 ·trivial
 ·exact h
 ·dsimp only
  split
  ·trivial
  ·exact h
def MD (d:Nat):Move->Prop
 | .goroutine m _=>d<=m.world.drawn
 | .machine s _=>SD d s
theorem nu {d:Nat}{p:Program}{m:Machine} (h:d<=m.world.drawn):MD d (askOn p m):=by
 have pk:∀ m:Machine,d<=m.world.drawn->∀ rs:List Nat,MD d (match (choose (.sched rs.length)).run p m.world with
   | .halt _ w => .machine (.ended (.stuck "sched" "") w)
   | .ok k world =>
    if rs.length<=1 then .goroutine { m with world } (rs.getD k 0) else
    match (choose (.extern "sched.slice" 65536)).run p world with
    | .halt _ w => .machine (.ended (.stuck "sched.slice" "") w)
    | .ok n world=>.goroutine { m with world,rest:={ m.rest with slice:=if n=0 then none else some (rs.getD k 0,n) } } (rs.getD k 0)):=by
  intro m h rs
  split
  ·trivial
  ·rename_i w1 e1
   have h1:=Nat.le_trans h (cd e1)
   split
   ·exact h1
   ·split
    ·trivial
    ·rename_i w2 e2
     exact Nat.le_trans h1 (cd e2)
 unfold askOn
 simp only
 split
 ·trivial
 ·rename_i k w1 e1
  have h1:=Nat.le_trans h (cd e1)
  split
  ·exact xw h1
  ·split
   ·split
    ·exact h1
    ·split
     ·exact h1
     ·split <;> trivial
   ·split
    ·exact pk { m with world:=w1 } h1 _
    ·split
     ·trivial
     ·rename_i e2;exact pk { m with world:=_ } (Nat.le_trans h1 (cd e2)) _
     ·rename_i e2;have e3:=cd e2;exact Nat.le_trans h1 e3
     ·rename_i e2;have e3:=cd e2;exact pk (Machine.advanceTo { m with world:=_ } _) (Nat.le_trans h1 e3) _
theorem ul {d:Nat}{p:Program}{m:Machine} (h:d<=m.world.drawn):MD d (Go.ask p m):=by
 unfold Go.ask
 split
 ·split
  ·trivial
  ·rename_i w1 e1
   have h1:=Nat.le_trans h (cd e1)
   have hl:=sW (p:=p) (gs:=m.gs) (rest:=m.rest) h1
   generalize look p m.gs m.rest w1=s at hl ⊢
   cases s with
   | next m=>exact nu hl
   | ended o w=>trivial
  ·rename_i w1 _ e1
   exact nu (m:={ m with world:=w1 }) (Nat.le_trans h (cd e1))
 ·exact nu h
theorem yq {d:Nat}{p:Program}{m:Machine} (h:d<=m.world.drawn):MD d (Go.move p m):=by
 unfold Go.move
 split
 ·split
  ·exact h
  ·trivial
 ·split
  ·split
   ·exact h
   ·exact ul h
  ·exact ul h
theorem AQ {p:Program}{m m':Machine} (h:step p m=.next m'):m.world.drawn<=m'.world.drawn:=by
 have hm:=yq (p:=p) (m:=m) (Nat.le_refl _)
 unfold step stepT at h
 generalize Go.move p m=mv at hm h
 cases mv with
 | goroutine m1 i =>
  have hs:=wG (p:=p) (i:=i) (l:=true) hm
  dsimp only at h
  rw [h] at hs
  exact hs
 | machine s ops =>
  dsimp only at h
  subst h
  exact hm
theorem vl {p:Program}{m m':Machine} (h:Steps p m m'):m.world.drawn<=m'.world.drawn:=by
 obtain ⟨n,hn⟩:=h
 induction n generalizing m with
 | zero=>cases hn;exact Nat.le_refl _
 | succ n ih =>
  unfold runN at hn
  generalize hs:step p m=s at hn
  cases s with
  | next m1=>exact Nat.le_trans (AQ hs) (ih hn)
  | ended o w=>cases hn
theorem om {p:Program}{f:FuncId}{args:Array Value}{w:World}{v:Value}{R:World->Prop} (h:Calls p f args w fun e w'=>e=.returned v∧R w'):Calls p f args w fun e w'=>e=.returned v∧R w'∧w.drawn<=w'.drawn:=by
 intro cs
 obtain ⟨e,w',fr,⟨he,hR⟩,hc,hf,hl⟩:=h cs
 subst he
 exact ⟨_,w',fr,⟨rfl,hR,vl hc⟩,hc,hf,hl⟩
end Kw
namespace Kw
open Go Go.Proofs Go.Shelf Go.RowKit
variable {P:Program}
theorem nS {f:FuncId}{args:Array Value}{H:ae}{v:Value}{Q:Value->ae->Prop} (hfn:∃ fn,P.funcs[f]?=some fn∧fn.body.isSome=true) (hc:∀ w:World,w.heap=H->Calls P f args w fun e w'=>e=.returned v∧Below w.heap.size w w') (h:∀ H',Fr [] H H'->Q v H'):ac P f args Q H:=by
 refine ⟨hfn,fun w hw=>?_⟩
 refine (om (hc w hw)).mono ?_
 rintro e w' ⟨rfl,hb,hd⟩
 subst hw
 refine ⟨v,rfl,h _ ⟨hb.size,fun b hb' _=>hb.block b hb'⟩,hb.tape,hb.os,hb.output,hd,hb.size,fun b ds hb'=>?_⟩
 rw [hb.block b (Array.getElem?_eq_some_iff.1 hb').1];exact hb'
theorem mr {ρ:Ren} (L:Lays.n105 P ρ) (X:Builder.Extra P ρ) (hfn:∃ fn,P.funcs[ρ.f 105]?=some fn∧fn.body.isSome=true){s:ByteArray}{c:Nat}{H:ae}{Q:Value->ae->Prop} (hc:c<=9223372036854775807) (hlen:s.size*c<=140737488355328) (h:∀ H',Fr [] H H'->Q (.string ⟨(Lib.repeatL s.data.toList c).toArray⟩) H'):ac P (ρ.f 105) #[.string s,.int .i64 c] Q H :=
 nS hfn (fun w _=>Any.strings_Repeat L X s c w hc hlen) h
end Kw
namespace Go.Proofs.YtgcoppcogllpbaaGreatDoor
open Kw
abbrev CT:ByteArray:=⟨#[118,97,108,117,101,58]⟩
abbrev Cu:ByteArray:=⟨#[118,97,108,117,101]⟩
abbrev Dh:ByteArray:=⟨#[110,117,109,65,114,103,115]⟩
def oZ:Nat->ByteArray
 | 0=>⟨#[]⟩
 | n+1=>oZ n++CT
theorem jm:∀ n,(oZ n).size=6*n
 | 0=>rfl
 | n+1=>by rw [oZ,ByteArray.size_append,jm n];show 6*n+6=_;omega
def rp (n:Nat):List PE:=(Dh,0,.slot 312 4) :: (Cu,0,.nil) :: (List.range n).map fun i=>(oZ (i+1),((i+1:Nat):Int),.nil)
def Bb:List PE:=[(⟨#[61,61]⟩,1,.fn 184),(⟨#[61]⟩,1,.fn 184),(⟨#[126,126]⟩,1,.fn 185),(⟨#[99,108,97,115,115]⟩,0,.fn 186),(⟨#[105,115,78,105,108]⟩,0,.fn 187),(⟨#[110,111,116,78,105,108]⟩,0,.fn 188),(⟨#[121,111,117,114,115,101,108,102]⟩,0,.fn 189),(⟨#[105,115,75,105,110,100,79,102,58]⟩,1,.fn 190),(⟨#[105,110,115,116,86,97,114,83,105,122,101]⟩,0,.fn 191),(⟨#[105,110,115,116,86,97,114,65,116,58]⟩,1,.fn 192),(⟨#[105,110,115,116,86,97,114,65,116,58,112,117,116,58]⟩,2,.fn 192),(⟨#[99,111,112,121]⟩,0,.fn 193)]
def x7:List PE:=[(⟨#[110,111,116]⟩,0,.fn 298),(⟨#[38]⟩,1,.fn 299),(⟨#[97,110,100,58]⟩,1,.fn 299),(⟨#[111,114,58]⟩,1,.fn 300)]
def Bv:List PE:=[(⟨#[43]⟩,1,.clo 301 16),(⟨#[45]⟩,1,.clo 301 17),(⟨#[42]⟩,1,.clo 301 18),(⟨#[47,47]⟩,1,.clo 301 19),(⟨#[92,92]⟩,1,.clo 301 20),(⟨#[98,105,116,65,110,100,58]⟩,1,.clo 301 21),(⟨#[98,105,116,79,114,58]⟩,1,.clo 301 22),(⟨#[98,105,116,88,111,114,58]⟩,1,.clo 301 23),(⟨#[98,105,116,83,104,105,102,116,58]⟩,1,.clo 301 24),(⟨#[60]⟩,1,.clo 303 197),(⟨#[62]⟩,1,.clo 303 198),(⟨#[60,61]⟩,1,.clo 303 199),(⟨#[62,61]⟩,1,.clo 303 200),(⟨#[109,105,110,58]⟩,1,.clo 301 201),(⟨#[109,97,120,58]⟩,1,.clo 301 202),(⟨#[61]⟩,1,.fn 184),(⟨#[126,61]⟩,1,.fn 185),(⟨#[110,101,103,97,116,101,100]⟩,0,.fn 203),(⟨#[97,98,115]⟩,0,.fn 204),(⟨#[101,118,101,110]⟩,0,.fn 205),(⟨#[111,100,100]⟩,0,.fn 206),(⟨#[112,114,105,110,116,83,116,114,105,110,103]⟩,0,.fn 207)]
def B2:List PE:=[(⟨#[115,105,122,101]⟩,0,.fn 208),(⟨#[97,115,83,116,114,105,110,103]⟩,0,.fn 209),(⟨#[60]⟩,1,.fn 210)]
def zX:List PE:=[(⟨#[115,105,122,101]⟩,0,.fn 211),(⟨#[105,115,69,109,112,116,121]⟩,0,.fn 212),(⟨#[97,116,58]⟩,1,.fn 213),(⟨#[97,116,58,112,117,116,58]⟩,2,.fn 214),(⟨#[44]⟩,1,.fn 215),(⟨#[61]⟩,1,.fn 216),(⟨#[60]⟩,1,.fn 217),(⟨#[97,115,83,121,109,98,111,108]⟩,0,.fn 218)]
def zG:List PE:=[(⟨#[115,105,122,101]⟩,0,.fn 211),(⟨#[105,115,69,109,112,116,121]⟩,0,.fn 212),(⟨#[97,116,58]⟩,1,.fn 219),(⟨#[97,116,58,112,117,116,58]⟩,2,.fn 219)]
def Ao:List PE:=[(⟨#[110,101,119]⟩,0,.fn 220),(⟨#[110,101,119,58]⟩,1,.fn 221),(⟨#[110,97,109,101]⟩,0,.slot 312 0),(⟨#[115,117,112,101,114,99,108,97,115,115]⟩,0,.slot 312 1)]
def z7:List PE:=[(⟨#[115,101,108,101,99,116,111,114]⟩,0,.slot 312 0),(⟨#[97,114,103,117,109,101,110,116,115]⟩,0,.slot 312 1)]
def sx (c:Int):List PE :=
 if c=4 then Bb else
 if c=6∨c=7 then x7 else
 if c=8 then Bv else
 if c=9 then B2 else
 if c=10 then zX else
 if c=11 then zG else
 if c=12 then Ao else
 if c=14 then rp 8 else
 if c=17 then z7 else
 []
theorem uk (n:Nat):oZ n=⟨(Lib.repeatL CT.data.toList n).toArray⟩:=by
 induction n with
 | zero=>rfl
 | succ n ih =>
  rw [oZ,ih,Lib.repeatL_add,Lib.repeatL_one]
  refine ByteArray.ext ?_
  rw [ByteArray.data_append]
  simp
theorem rh {es:List PE}{x:ByteArray} (h:∀ e∈es,x≠e.1):eT es x=none:=by
 induction es with
 | nil=>rfl
 | cons e es ih =>
  unfold eT
  rw [if_neg (h e (by simp))]
  exact ih fun y hy=>h y (by simp [hy])
theorem ti (n:Nat):eT (rp n) (oZ (n+1))=none:=by
 refine rh fun e he hx=>?_
 have hs:=congrArg ByteArray.size hx
 rw [jm] at hs
 unfold rp at he
 simp only [List.mem_cons,List.mem_map,List.mem_range] at he
 rcases he with rfl | rfl | ⟨i,hi,rfl⟩
 ·have:Dh.size=7:=rfl
  simp only at hs;omega
 ·have:Cu.size=5:=rfl
  simp only at hs;omega
 ·simp only at hs;rw [jm] at hs;omega
section
variable {H:ae}{Q:QT}
theorem rD (h:∀ r H',MapE H H' r (rp 8)->Q (.map (some r)) H'):ac PP yE #[] Q H:=by
 apply wM
 unfold BW iV wW sV cS
 refine ff (MapE.new _) (by decide) fun H1 m1=>oM m1 (by decide) fun H2 m2=>?_
 refine ⟨fun w H'=>∃ i:Nat,w=[.int .i64 ((i+1:Nat):Int)]∧i<=8∧MapE H H' H.size (rp i),fun w _=>match w with
  | [.int _ i]=>(9-i).toNat
  | _=>0,⟨0,rfl,Nat.zero_le _,m2⟩,?_⟩
 rintro w H3 ⟨i,rfl,hi,m3⟩ _
 refine ⟨_,rfl,?_⟩
 rw [af]
 refine aA (fun hlt=>?_) fun hlt=>?_
 ·have e:IntKind.wrap .i64 (((i+1:Nat):Int)+1)=(((i+1)+1:Nat):Int):=by rw [ah (by omega) (by omega)];omega
  refine mr Tryz.rep Tryz.repX ⟨_,Tryz.func313,rfl⟩ (c:=i+1) (by omega) (by show 6*(i+1)<=_;omega) fun H4 f4=>⟨_,rfl,?_⟩
  rw [←uk,e]
  refine oM (m3.fr f4) (ti i) fun H5 m5=>⟨⟨i+1,rfl,by omega,?_⟩,by simp;omega⟩
  unfold rp
  rw [List.range_succ,List.map_append]
  exact m5
 ·have hi8:i=8:=by omega
  subst hi8
  exact h _ _ m3
theorem ot (h:∀ r H',MapE H H' r x7->Q (.map (some r)) H'):ac PP zc #[] Q H:=by
 apply wq
 unfold Cz iV sV
 exact aS (MapE.new _) (by decide) fun _ m1=>aS m1 (by decide) fun _ m2=>aS m2 (by decide) fun _ m3=>aS m3 (by decide) fun _ m4=>h _ _ m4
theorem uc {c:Int} (h:∀ r H',qy H H' r (sx c)->Q (.map r) H'):ac PP zT #[.int .i64 c] Q H:=by
 apply xn
 unfold Cn iV sV cS
 refine iN (fun e=>?_) fun n4=>?_
 ·subst e
  exact aS (MapE.new _) (by decide) fun _ m1=>aS m1 (by decide) fun _ m2=>aS m2 (by decide) fun _ m3=>aS m3 (by decide) fun _ m4=>aS m4 (by decide) fun _ m5=>aS m5 (by decide) fun _ m6=>aS m6 (by decide) fun _ m7=>aS m7 (by decide) fun _ m8=>aS m8 (by decide) fun _ m9=>aS m9 (by decide) fun _ m10=>aS m10 (by decide) fun _ m11=>aS m11 (by decide) fun _ m12=>h (some _) _ m12
 refine ⟨fun w H'=>w=[.bool (decide (c=6∨c=7))]∧H'=H,iN (fun e=>⟨by simp [e],rfl⟩) fun n7=>⟨by rw [aU];simp [n7],rfl⟩,?_⟩
 rintro w H1 ⟨rfl,rfl⟩ _
 refine ⟨_,rfl,?_⟩
 rw [af]
 refine aA (fun e=>?_) fun n67=>?_
 ·refine ot fun r H' m=>⟨_,rfl,h (some r) H' ?_⟩
  rcases e with rfl | rfl <;> exact m
 refine iN (fun e=>?_) fun n8=>?_
 ·subst e
  exact cG (MapE.new _) (by decide) fun _ m1=>cG m1 (by decide) fun _ m2=>cG m2 (by decide) fun _ m3=>cG m3 (by decide) fun _ m4=>cG m4 (by decide) fun _ m5=>cG m5 (by decide) fun _ m6=>cG m6 (by decide) fun _ m7=>cG m7 (by decide) fun _ m8=>cG m8 (by decide) fun _ m9=>iu m9 (by decide) fun _ m10=>iu m10 (by decide) fun _ m11=>iu m11 (by decide) fun _ m12=>iu m12 (by decide) fun _ m13=>cG m13 (by decide) fun _ m14=>cG m14 (by decide) fun _ m15=>aS m15 (by decide) fun _ m16=>aS m16 (by decide) fun _ m17=>aS m17 (by decide) fun _ m18=>aS m18 (by decide) fun _ m19=>aS m19 (by decide) fun _ m20=>aS m20 (by decide) fun _ m21=>aS m21 (by decide) fun _ m22=>h (some _) _ m22
 refine iN (fun e=>?_) fun n9=>?_
 ·subst e
  exact aS (MapE.new _) (by decide) fun _ m1=>aS m1 (by decide) fun _ m2=>aS m2 (by decide) fun _ m3=>h (some _) _ m3
 refine iN (fun e=>?_) fun n10=>?_
 ·subst e
  exact aS (MapE.new _) (by decide) fun _ m1=>aS m1 (by decide) fun _ m2=>aS m2 (by decide) fun _ m3=>aS m3 (by decide) fun _ m4=>aS m4 (by decide) fun _ m5=>aS m5 (by decide) fun _ m6=>aS m6 (by decide) fun _ m7=>aS m7 (by decide) fun _ m8=>h (some _) _ m8
 refine iN (fun e=>?_) fun n11=>?_
 ·subst e
  exact aS (MapE.new _) (by decide) fun _ m1=>aS m1 (by decide) fun _ m2=>aS m2 (by decide) fun _ m3=>aS m3 (by decide) fun _ m4=>h (some _) _ m4
 refine iN (fun e=>?_) fun n12=>?_
 ·subst e
  exact aS (MapE.new _) (by decide) fun _ m1=>aS m1 (by decide) fun _ m2=>ff m2 (by decide) fun _ m3=>ff m3 (by decide) fun _ m4=>h (some _) _ m4
 refine iN (fun e=>?_) fun n14=>?_
 ·subst e
  exact rD fun r H' m=>⟨_,rfl,h (some r) H' m⟩
 refine iN (fun e=>?_) fun n17=>?_
 ·subst e
  exact ff (MapE.new _) (by decide) fun _ m1=>ff m1 (by decide) fun _ m2=>h (some _) _ m2
 refine h none _ ⟨?_,Fr.refl _ _⟩
 unfold sx
 rw [if_neg n4,if_neg n67,if_neg n8,if_neg n9,if_neg n10,if_neg n11,if_neg n12,if_neg n14,if_neg n17]
end
theorem uy.func {H:ae}{n r:Nat}{p:PF}{v:Value} (h:uy H n r p v) (hp:p≠.nil):∃ f g hh,v=.func (.func f) g hh:=by
 cases p with
 | fn f=>exact ⟨_,_,_,h⟩
 | clo f g=>obtain ⟨b,h1,_⟩:=h;exact ⟨_,_,_,h1⟩
 | slot f i=>obtain ⟨b,h1,_⟩:=h;exact ⟨_,_,_,h1⟩
 | nil=>exact absurd rfl hp
section
variable {H:ae}{b:Nat}{F:az}{s:SP}{t:TB}{v:KV}{Q:QT}{r:Int}{a:Option Addr}{l c:Nat}{ws:List Int}
theorem Cv (hK:PK H b F s t) (hv:KAllW s t v){k:Int}{x:ByteArray} (hr:Rd 1 H a l (aj ws)) (hl:l<=1000){n:Int}{p:PF} (he:eT (sx k) x=some (n,p)) (hp:p≠.nil) (hn:(l:Int)=n)
  (hof:∀ w∈r :: ws,mA s.h w≠0) (hkind:iz v k (mA s.h r)=true) (hsh:fC s.h k r=true)
  (h:∀ H' n0 rr f g hh,Fr [] H H'->uy H' n0 rr p (.func (.func f) g hh)->ac PP f ((g++#[cv b r a l c])++hh) (fun v42 H9=>∃ n43:Int,∃ n44:Int,v42=.tuple #[.int .i64 n43,.int .i64 n44]∧Q (.tuple #[.int .i64 n43,.int .i64 n44]) H9) H') :
  ac PP x6 #[.pointer (some ⟨b,0,none⟩),.int .i64 k,.string x,.int .i64 r,.slice a l c] Q H:=by
 have hsW:aH PP 30=some (1,8,some (.int .i64 0)):=by kernel_rfl
 apply zk
 unfold EK A0 iV wW pV sV lV cS;dsimp only [shH]
 refine dD hK fun sb F1 _ _ _ _ _=>⟨_,rfl,?_⟩
 simp only [Option.isNone_some,cond_false]
 refine uc fun rm H1 m1=>⟨_,rfl,sj m1 (fun e=>by rw [he] at e;cases e) fun k2 q val rr e hq=>?_⟩
 rw [he] at e
 cases e
 obtain ⟨f,g,hh,rfl⟩:=hq.func hp
 have f01:=m1.f
 refine ⟨n,.inl ⟨f,g,hh,true,rfl,?_⟩⟩
 have q0:=aV.new H1 #[.int .i64 0,.nilFunc] 144
 refine ⟨q0.wr (by decide),(q0.set 0 (.int .i64 n)).wr (o:=1) (by simp),?_⟩
 have q2:aV (aB (aB (H1.push (.cells #[.int .i64 0,.nilFunc] 144)) ⟨H1.size,0,none⟩ (.int .i64 n)) ((⟨H1.size,0,none⟩:Addr).add 1) (.func (.func f) g hh)) H1.size #[.int .i64 n,.func (.func f) g hh]:=(q0.set 0 (.int .i64 n)).set 1 (.func (.func f) g hh)
 have f12:Fr [] H1 (aB (aB (H1.push (.cells #[.int .i64 0,.nilFunc] 144)) ⟨H1.size,0,none⟩ (.int .i64 n)) ((⟨H1.size,0,none⟩:Addr).add 1) (.func (.func f) g hh)):=by
  refine ⟨by rw [bz,bz];simp,fun y hy _=>?_⟩
  rw [cy (by show y≠H1.size;omega),cy (by show y≠H1.size;omega)]
  exact (Fr.push [] H1 _).2 y hy (by simp)
 generalize aB (aB (H1.push (.cells #[.int .i64 0,.nilFunc] 144)) ⟨H1.size,0,none⟩ (.int .i64 n)) ((⟨H1.size,0,none⟩:Addr).add 1) (.func (.func f) g hh)=H2 at q2 f12 ⊢
 simp only [Bool.not_true,cond_false]
 refine ⟨f,g,hh,q2.cell 1,n,q2.cell 0,?_⟩
 rw [aX,af,if_neg (fun e=>e hn)]
 have f02:=f01.trans f12
 have p0:=aV.new H2 #[.pointer none,.int .i64 0,.slice none 0 0] 149
 have p1:=p0.set 0 (.pointer (some ⟨b,0,none⟩))
 have p2:=p1.set 1 (.int .i64 r)
 have p3:=p2.set 2 (.slice a l c)
 refine ⟨p0.wr (by decide),p1.wr (o:=1) (by simp),p2.wr (o:=2) (by simp),?_⟩
 have p3':aV (aB (aB (aB (H2.push (.cells #[.pointer none,.int .i64 0,.slice none 0 0] 149)) ⟨H2.size,0,none⟩ (.pointer (some ⟨b,0,none⟩))) ((⟨H2.size,0,none⟩:Addr).add 1) (.int .i64 r)) ((⟨H2.size,0,none⟩:Addr).add 2) (.slice a l c)) H2.size (cc b r a l c):=p3
 have f23:Fr [] H2 (aB (aB (aB (H2.push (.cells #[.pointer none,.int .i64 0,.slice none 0 0] 149)) ⟨H2.size,0,none⟩ (.pointer (some ⟨b,0,none⟩))) ((⟨H2.size,0,none⟩:Addr).add 1) (.int .i64 r)) ((⟨H2.size,0,none⟩:Addr).add 2) (.slice a l c)):=by
  refine ⟨by rw [bz,bz,bz];simp,fun y hy _=>?_⟩
  rw [cy (by show y≠H2.size;omega),cy (by show y≠H2.size;omega),cy (by show y≠H2.size;omega)]
  exact (Fr.push [] H2 _).2 y hy (by simp)
 have s23:(aB (aB (aB (H2.push (.cells #[.pointer none,.int .i64 0,.slice none 0 0] 149)) ⟨H2.size,0,none⟩ (.pointer (some ⟨b,0,none⟩))) ((⟨H2.size,0,none⟩:Addr).add 1) (.int .i64 r)) ((⟨H2.size,0,none⟩:Addr).add 2) (.slice a l c)).size=H2.size+1:=by rw [bz,bz,bz];simp
 generalize aB (aB (aB (H2.push (.cells #[.pointer none,.int .i64 0,.slice none 0 0] 149)) ⟨H2.size,0,none⟩ (.pointer (some ⟨b,0,none⟩))) ((⟨H2.size,0,none⟩:Addr).add 1) (.int .i64 r)) ((⟨H2.size,0,none⟩:Addr).add 2) (.slice a l c)=H3 at p3' f23 s23 ⊢
 clear p0 p1 p2 p3 q0
 have q3:=q2.fr f23 (by simp)
 have f03:=f02.trans f23
 have fP:=Fr.push [] H3 (.cells #[.int .i64 r] 24)
 have ho:bN 1 (H3.push (.cells #[.int .i64 r] 24)) (some ⟨H3.size,0,none⟩) 1 1 (aj [r]) [H3.size]:=⟨by simp [aj],Nat.le_refl _,.inr ⟨_,_,rfl,rfl,aV.new _ _ _,by simp,by simp [aj]⟩⟩
 refine cR hsW rfl (by kernel_rfl) ho (Rd.nilF hr (f03.trans fP)) (fe (l:=ws)) (by omega) (by decide) (by decide) fun a4 c4 F4 H4 o4 u4 _=>⟨_,_,_,rfl,?_⟩
 have f34:Fr [] H3 H4:=⟨Nat.le_trans fP.1 u4.1.1,fun y hy _=>by rw [u4.1.2 y (Nat.lt_of_lt_of_le hy fP.1) (by simp;omega),fP.2 y hy (by simp)]⟩
 have f04:=f03.trans f34
 have p4:=p3'.fr f34 (by simp)
 have q4:=q3.fr f34 (by simp)
 have e4:aj [r]++aj ws=aj (r :: ws):=rfl
 rw [e4] at o4
 have hwl:ws.length=l:=by have:=hr.1;simpa [aj] using this
 have fr14:Fr [] H1 H4:=(f12.trans f23).trans f34
 have hq4:=hq
 refine ⟨fun w H'=>∃ i:Nat,w=[.int .i64 i]∧i<=1+l∧Fr [] H4 H',fun w _=>match w with
  | [.int _ i]=>((1+l:Nat)-i:Int).toNat
  | _=>0,⟨0,rfl,Nat.zero_le _,Fr.refl _ _⟩,?_⟩
 rintro w H5 ⟨i,rfl,hi,f5⟩ _
 have p5:=p4.fr f5 (by simp)
 have q5:=q4.fr f5 (by simp)
 have f05:=f04.trans f5
 refine ⟨_,rfl,gg (fun hlt=>?_) fun hge=>?_⟩
 ·obtain ⟨q,hq1,hq2,hq3⟩:=(Rd.nilF o4.rd f5).int (i:=(i:Int)) (by omega) (by omega)
  simp only [Int.toNat_natCast] at hq2
  have e1:IntKind.wrap .i64 ((i:Int)+1)=((i+1:Nat):Int):=by rw [ah (by omega) (by omega)];omega
  have hmem:(r :: ws).getD i 0∈r :: ws:=by
   have hil:i<(r :: ws).length:=by simp only [List.length_cons];omega
   rw [List.getD_eq_getElem?_getD,List.getElem?_eq_getElem hil]
   exact List.getElem_mem hil
  refine ⟨⟨by omega,hlt⟩,q,hq1,_,by rw [Int.toNat_natCast,Nat.mul_one];exact hq2,_,p5.cell 0,_,p5.cell 1,_,_,_,p5.cell 2,qO (hK.nil f05) hv fun H6 f6=>⟨_,rfl,?_⟩⟩
  rw [aU,af,if_neg (hof _ hmem),e1]
  exact ⟨⟨i+1,rfl,by omega,f5.trans f6⟩,by simp;omega⟩
 ·refine ⟨_,p5.cell 0,_,p5.cell 1,_,_,_,p5.cell 2,uN (hK.nil f05) hv fun H6 f6=>⟨_,rfl,?_⟩⟩
  rw [hkind,Bool.not_true,cond_false]
  have p6:=p5.fr f6 (by simp)
  have f06:=f05.trans f6
  refine ⟨_,p6.cell 0,_,p6.cell 1,_,_,_,p6.cell 2,sN (hK.nil f06) fun H7 f7=>⟨_,rfl,?_⟩⟩
  rw [hsh,Bool.not_true,cond_false]
  have p7:=p6.fr f7 (by simp)
  have q7:=(q5.fr f6 (by simp)).fr f7 (by simp)
  have f07:=f06.trans f7
  have fr17:Fr [] H1 H7:=((fr14.trans f5).trans f6).trans f7
  exact ⟨f,g,hh,q7.cell 1,_,p7.cell 0,_,p7.cell 1,_,_,_,p7.cell 2,h H7 H.size rr f g hh f07 (hq.fr fr17 (by simp))⟩
end
variable {Q:QT}{H:ae}
abbrev Ea:Nat:=3
def k3 (s1:ByteArray) (s2:ByteArray) (Q:QT) (H:ae):Prop :=
 cond (decide ((s1.size:Int) > 300)) (Q (.bool true) H) (cond (decide ((s2.size:Int) > 300)) (Q (.bool true) H) (cS 8 #[iV 20000,iV 2000] (fun v3 H1=>∃ p4,v3=pV p4∧cond (Option.isNone p4) (Q (.bool false) H1) (cS 9 #[pV p4,sV s1] (fun v5 H2=>∃ n6 b7,v5=.tuple #[iV n6,.bool b7]∧cS 9 #[pV p4,sV s2] (fun v8 H3=>∃ n9 b10,v8=.tuple #[iV n9,.bool b10]∧cond (!b7) (Q (.bool false) H3) (cond (!b10) (Q (.bool false) H3) (cond (n6 == n9) (Q (.bool false) H3) (cS 10 #[pV p4,iV n6,sV s1] (fun v11 H4=>∃ b12,v11=.bool b12∧cond (!b12) (Q (.bool false) H4) (cS 10 #[pV p4,iV n9,sV s2] (fun v13 H5=>∃ b14,v13=.bool b14∧cond (!b14) (Q (.bool false) H5) (cS 11 #[pV p4,iV 10,sV (⟨#[44]⟩:ByteArray),iV n6,lV (some (A0 H5.size)) 1 1] (fun v15 H6=>∃ n16 n17,v15=.tuple #[iV n16,iV n17]∧cS 11 #[pV p4,iV 4,sV (⟨#[99,111,112,121]⟩:ByteArray),iV n6,lV none 0 0] (fun v18 H7=>∃ n19 n20,v18=.tuple #[iV n19,iV n20]∧cond (n17 != 0) (Q (.bool false) H7) (cond (n20 != 0) (Q (.bool false) H7) (cond (n16 == n6) (Q (.bool false) H7) (cond (n16 == n9) (Q (.bool false) H7) (cond (n19 == n6) (Q (.bool false) H7) (cond (decide (((s1.size+s2.size:Nat):Int) > IntKind.i64.max)) False (cS 10 #[pV p4,iV n16,sV (s1++s2)] (fun v21 H8=>∃ b22,v21=.bool b22∧cond (!b22) (Q (.bool false) H8) (cS 10 #[pV p4,iV n19,sV s1] (fun v23 H9=>∃ b24,v23=.bool b24∧cond (!b24) (Q (.bool false) H9) (cS 10 #[pV p4,iV n6,sV s1] (fun v25 H10=>∃ b26,v25=.bool b26∧cond (!b26) (Q (.bool false) H10) (cS 10 #[pV p4,iV n9,sV s2] (fun v27 H11=>∃ b28,v27=.bool b28∧cond (!b28) (Q (.bool false) H11) (cS 13 #[.bool (eq s1 s2)] (fun v29 H12=>∃ n30,v29=iV n30∧cS 12 #[pV p4,iV 10,sV (⟨#[61]⟩:ByteArray),iV n6,lV (some (A0 H11.size)) 1 1,iV n30] (fun v31 H13=>∃ b32,v31=.bool b32∧cond (!b32) (Q (.bool false) H13) (cS 13 #[.bool true] (fun v33 H14=>∃ n34,v33=iV n34∧cS 12 #[pV p4,iV 10,sV (⟨#[61]⟩:ByteArray),iV n6,lV (some (A0 H13.size)) 1 1,iV n34] (fun v35 H15=>∃ b36,v35=.bool b36∧cond (!b36) (Q (.bool false) H15) (cS 13 #[.bool false] (fun v37 H16=>∃ n38,v37=iV n38∧cS 12 #[pV p4,iV 4,sV (⟨#[61]⟩:ByteArray),iV n6,lV (some (A0 H15.size)) 1 1,iV n38] (fun v39 H17=>∃ b40,v39=.bool b40∧cond (!b40) (Q (.bool false) H17) (cS 13 #[.bool (Op.bytesLess (ByteArray.toList s1) (ByteArray.toList s2))] (fun v41 H18=>∃ n42,v41=iV n42∧cS 12 #[pV p4,iV 10,sV (⟨#[60]⟩:ByteArray),iV n6,lV (some (A0 H17.size)) 1 1,iV n42] (fun v43 H19=>∃ b44,v43=.bool b44∧cond (!b44) (Q (.bool false) H19) (cS 11 #[pV p4,iV 10,sV (⟨#[97,115,83,121,109,98,111,108]⟩:ByteArray),iV n6,lV none 0 0] (fun v45 H20=>∃ n46 n47,v45=.tuple #[iV n46,iV n47]∧cond ((s1.size:Int) == 0) (Q (.bool (n47 == 170)) H20) (cond (decide ((s1.size:Int) > 96)) (Q (.bool (n47 == 170)) H20) (cS 11 #[pV p4,iV 9,sV (⟨#[97,115,83,116,114,105,110,103]⟩:ByteArray),iV n46,lV none 0 0] (fun v48 H21=>∃ n49 n50,v48=.tuple #[iV n49,iV n50]∧cS 11 #[pV p4,iV 10,sV (⟨#[97,115,83,121,109,98,111,108]⟩:ByteArray),iV n49,lV none 0 0] (fun v51 H22=>∃ n52 n53,v51=.tuple #[iV n52,iV n53]∧cond (n47 == 0) (cond (n50 == 0) (cond (n53 == 0) (cond (n46 == n52) (cond (n49 != n6) (cS 10 #[pV p4,iV n49,sV s1] (fun v54 H23=>∃ b55,v54=.bool b55∧cond b55 (cS 14 #[iV (s1.size:Int)] (fun v56 H24=>∃ n57,v56=iV n57∧cS 12 #[pV p4,iV 9,sV (⟨#[115,105,122,101]⟩:ByteArray),iV n46,lV none 0 0,iV n57] (fun v58 H25=>∃ b59,v58=.bool b59∧Q (.bool b59) H25) H24) H23) (Q (.bool false) H23)) H22) (Q (.bool false) H22)) (Q (.bool false) H22)) (Q (.bool false) H22)) (Q (.bool false) H22)) (Q (.bool false) H22)) H21) H20))) H19)) H18) (H17.push (.cells #[iV n9] 24)))) H16) (H15.push (.cells #[iV n19] 24)))) H14) (H13.push (.cells #[iV n19] 24)))) H12) (H11.push (.cells #[iV n9] 24)))) H10)) H9)) H8)) H7))))))) H6) (H5.push (.cells #[iV n9] 24)))) H4)) H3)))) H2) H1)) H))
theorem CE {s1:ByteArray}{s2:ByteArray} (h:k3 s1 s2 Q H):ac PP 3 #[.string s1,.string s2] Q H :=
 okF Tryz.func3 rfl h
abbrev Ep:Nat:=8
def k8 (n1:Int) (n2:Int) (Q:QT) (H:ae):Prop :=
 ac PP 40 #[iV n1,iV n2] (fun v3 H1=>∃ p4 n5,v3=.tuple #[pV p4,iV n5]∧cond (Option.isNone p4) (Q (pV none) H1) (cS 25 #[iV n5] (fun v6 H2=>∃ n7,v6=iV n7∧cond (n7 != 0) (Q (pV none) H2) (cS 41 #[pV p4,sV (⟨#[80,97,105,114]⟩:ByteArray),sV (⟨#[79,98,106,101,99,116]⟩:ByteArray),lV (some (A0 H2.size)) 2 2] (fun v8 H3=>∃ n9 n10,v8=.tuple #[iV n9,iV n10]∧cS 25 #[iV n10] (fun v11 H4=>∃ n12,v11=iV n12∧cond (n12 != 0) (Q (pV none) H4) (∃(I13:IT) (μ13:MT),I13 [iV 0] ((H4.push (.cells #[pV p4,lV none 0 0] 52)).push (.cells #[iV 4,iV 12,iV 8,iV 7,iV 16,iV 32,iV 40,iV 44,iV 2,iV (wW (4*n9))] 24))∧∀ w14 H5,I13 w14 H5->∀ _g:Nat->Value,∃ n15,w14=[iV n15]∧cond (decide (n15<(10:Int))) (((0:Int)<=n15∧n15<(10:Int))∧∃ q16,(some (⟨(H4.push (.cells #[pV p4,lV none 0 0] 52)).size,0,none⟩:Addr))=some q16∧∃ n17,aa H5 (q16.add (Int.toNat n15*1))=some (iV n17)∧cS 42 #[pV (some (A0 H4.size)),iV n17] (fun v18 H6=>v18=.tuple #[]∧I13 [iV (wW (n15+1))] H6∧μ13 [iV (wW (n15+1))] H6<μ13 w14 H5) H5) (Q (pV (some (A0 H4.size))) H5))) H3) (H2.push (.cells #[sV (⟨#[120]⟩:ByteArray),sV (⟨#[121]⟩:ByteArray)] 9)))) H1)) H
theorem Bf {n1:Int}{n2:Int} (h:k8 n1 n2 Q H):ac PP 8 #[.int .i64 n1,.int .i64 n2] Q H :=
 aT good Tryz.func8 rfl (Ls:=fun | 10=>some [(11,3)] | _=>none) (by kernel_rfl) h
abbrev DO:Nat:=9
def k9 (p1:Option Addr) (s2:ByteArray) (Q:QT) (H:ae):Prop :=
 ac PP 14 #[iV (s2.size:Int)] (fun v3 H1=>∃ n4,v3=iV n4∧cS 11 #[pV p1,iV 12,sV (⟨#[110,101,119,58]⟩:ByteArray),iV 40,lV (some (A0 H1.size)) 1 1] (fun v5 H2=>∃ n6 n7,v5=.tuple #[iV n6,iV n7]∧cond (n7 != 0) (Q (.tuple #[iV 0,.bool false]) H2) (∃(I8:IT) (μ8:MT),I8 [iV 0] H2∧∀ w9 H3,I8 w9 H3->∀ _g:Nat->Value,∃ n10,w9=[iV n10]∧cond (decide (n10<(s2.size:Int))) (∃ u11:UInt8,((0:Int)<=n10∧s2[Int.toNat n10]?=some u11)∧cS 14 #[iV (wW (u11.toNat:Int))] (fun v12 H4=>∃ n13,v12=iV n13∧cS 14 #[iV (wW (n10+1))] (fun v14 H5=>∃ n15,v14=iV n15∧cS 12 #[pV p1,iV 10,sV (⟨#[97,116,58,112,117,116,58]⟩:ByteArray),iV n6,lV (some (A0 H5.size)) 2 2,iV n13] (fun v16 H6=>∃ b17,v16=.bool b17∧cond (!b17) (Q (.tuple #[iV 0,.bool false]) H6) (I8 [iV (wW (n10+1))] H6∧μ8 [iV (wW (n10+1))] H6<μ8 w9 H3)) (H5.push (.cells #[iV n15,iV n13] 24))) H4) H3) (Q (.tuple #[iV n6,.bool true]) H3))) (H1.push (.cells #[iV n4] 24))) H
theorem B4 {p1:Option Addr}{s2:ByteArray} (h:k9 p1 s2 Q H):ac PP 9 #[.pointer p1,.string s2] Q H :=
 aT good Tryz.func9 rfl (Ls:=fun | 5=>some [(8,3)] | _=>none) (by kernel_rfl) h
abbrev x8:Nat:=10
def EM (p1:Option Addr) (n2:Int) (s3:ByteArray) (Q:QT) (H:ae):Prop :=
 ac PP 14 #[iV (s3.size:Int)] (fun v4 H1=>∃ n5,v4=iV n5∧cS 12 #[pV p1,iV 10,sV (⟨#[115,105,122,101]⟩:ByteArray),iV n2,lV none 0 0,iV n5] (fun v6 H2=>∃ b7,v6=.bool b7∧cond (!b7) (Q (.bool false) H2) (cS 13 #[.bool ((s3.size:Int) == 0)] (fun v8 H3=>∃ n9,v8=iV n9∧cS 12 #[pV p1,iV 10,sV (⟨#[105,115,69,109,112,116,121]⟩:ByteArray),iV n2,lV none 0 0,iV n9] (fun v10 H4=>∃ b11,v10=.bool b11∧cond (!b11) (Q (.bool false) H4) (∃(I12:IT) (μ12:MT),I12 [iV 0] H4∧∀ w13 H5,I12 w13 H5->∀ _g:Nat->Value,∃ n14,w13=[iV n14]∧cond (decide (n14<(s3.size:Int))) (∃ u15:UInt8,((0:Int)<=n14∧s3[Int.toNat n14]?=some u15)∧cS 14 #[iV (wW (n14+1))] (fun v16 H6=>∃ n17,v16=iV n17∧True∧(True∧cS 14 #[iV (wW (u15.toNat:Int))] (fun v18 H7=>∃ n19,v18=iV n19∧True∧cS 12 #[pV p1,iV 10,sV (⟨#[97,116,58]⟩:ByteArray),iV n2,lV (some (A0 H6.size)) 1 1,iV n19] (fun v20 H8=>∃ b21,v20=.bool b21∧True∧cond (!b21) (Q (.bool false) H8) (I12 [iV (wW (n14+1))] H8∧μ12 [iV (wW (n14+1))] H8<μ12 w13 H5)) H7) (H6.push (.cells #[iV n17] 24)))∧(cS 14 #[iV (wW (u15.toNat:Int))] (fun v22 H9=>∃ n23,v22=iV n23∧True∧True∧cS 12 #[pV p1,iV 10,sV (⟨#[97,116,58]⟩:ByteArray),iV n2,lV (some (A0 H9.size)) 1 1,iV n23] (fun v24 H10=>∃ b25,v24=.bool b25∧True∧cond (!b25) (Q (.bool false) H10) (I12 [iV (wW (n14+1))] H10∧μ12 [iV (wW (n14+1))] H10<μ12 w13 H5)) (H9.push (.cells #[iV n17] 24))) H6)) H5) (cS 14 #[iV (wW ((s3.size:Int)+1))] (fun v26 H11=>∃ n27,v26=iV n27∧cS 11 #[pV p1,iV 10,sV (⟨#[97,116,58]⟩:ByteArray),iV n2,lV (some (A0 H11.size)) 1 1] (fun v28 H12=>∃ n29 n30,v28=.tuple #[iV n29,iV n30]∧cS 14 #[iV 0] (fun v31 H13=>∃ n32,v31=iV n32∧cS 11 #[pV p1,iV 10,sV (⟨#[97,116,58]⟩:ByteArray),iV n2,lV (some (A0 H13.size)) 1 1] (fun v33 H14=>∃ n34 n35,v33=.tuple #[iV n34,iV n35]∧cond (n30 == 171) (Q (.bool (n35 == 171)) H14) (Q (.bool false) H14)) (H13.push (.cells #[iV n32] 24))) H12) (H11.push (.cells #[iV n27] 24))) H5))) H3) H2)) H1) H
theorem zt {p1:Option Addr}{n2:Int}{s3:ByteArray} (h:EM p1 n2 s3 Q H):ac PP 10 #[.pointer p1,.int .i64 n2,.string s3] Q H :=
 aT good Tryz.func10 rfl (Ls:=fun | 4=>some [(7,3)] | _=>none) (by kernel_rfl) h
abbrev oE:Nat:=11
def EO (p1:Option Addr) (n2:Int) (s3:ByteArray) (n4:Int) (a5:Option Addr) (l5:Nat) (c5:Nat) (Q:QT) (H:ae):Prop :=
 ∃ q6,p1=some q6∧∃ p7,aa H q6=some (pV p7)∧cS 43 #[pV p7,iV n2,sV s3,iV n4,lV a5 l5 c5] (fun v8 H1=>∃ n9 n10,v8=.tuple #[iV n9,iV n10]∧cS 25 #[iV n10] (fun v11 H2=>∃ n12,v11=iV n12∧cond (n12 == 0) (cS 42 #[pV p1,iV n9] (fun v13 H3=>v13=.tuple #[]∧cS 25 #[iV n10] (fun v14 H4=>∃ n15,v14=iV n15∧Q (.tuple #[iV n9,iV n15]) H4) H3) H2) (cS 25 #[iV n10] (fun v16 H5=>∃ n17,v16=iV n17∧Q (.tuple #[iV n9,iV n17]) H5) H2)) H1) H
theorem Ay {p1:Option Addr}{n2:Int}{s3:ByteArray}{n4:Int}{a5:Option Addr}{l5:Nat}{c5:Nat} (h:EO p1 n2 s3 n4 a5 l5 c5 Q H):ac PP 11 #[.pointer p1,.int .i64 n2,.string s3,.int .i64 n4,.slice a5 l5 c5] Q H :=
 okF Tryz.func11 rfl h
abbrev sL:Nat:=12
def DL (p1:Option Addr) (n2:Int) (s3:ByteArray) (n4:Int) (a5:Option Addr) (l5:Nat) (c5:Nat) (n6:Int) (Q:QT) (H:ae):Prop :=
 ac PP 11 #[pV p1,iV n2,sV s3,iV n4,lV a5 l5 c5] (fun v7 H1=>∃ n8 n9,v7=.tuple #[iV n8,iV n9]∧cond (n9 == 0) (Q (.bool (n8 == n6)) H1) (Q (.bool false) H1)) H
theorem yI {p1:Option Addr}{n2:Int}{s3:ByteArray}{n4:Int}{a5:Option Addr}{l5:Nat}{c5:Nat}{n6:Int} (h:DL p1 n2 s3 n4 a5 l5 c5 n6 Q H):ac PP 12 #[.pointer p1,.int .i64 n2,.string s3,.int .i64 n4,.slice a5 l5 c5,.int .i64 n6] Q H :=
 okF Tryz.func12 rfl h
abbrev Bi:Nat:=13
def EA (b1:Bool) (Q:QT) (H:ae):Prop :=
 cond b1 (Q (iV 12) H) (Q (iV 8) H)
theorem yK {b1:Bool} (h:EA b1 Q H):ac PP 13 #[.bool b1] Q H :=
 okF Tryz.func13 rfl h
abbrev B7:Nat:=14
def ER (n1:Int) (Q:QT) (H:ae):Prop :=
 Q (iV (wW ((wW (2*n1))+1))) H
theorem zL {n1:Int} (h:ER n1 Q H):ac PP 14 #[.int .i64 n1] Q H :=
 okF Tryz.func14 rfl h
abbrev Di:Nat:=25
def Fl (n1:Int) (Q:QT) (H:ae):Prop :=
 Q (iV n1) H
theorem AN {n1:Int} (h:Fl n1 Q H):ac PP 25 #[.int .i64 n1] Q H :=
 okF Tryz.func25 rfl h
abbrev xU:Nat:=42
def Ez (p1:Option Addr) (n2:Int) (Q:QT) (H:ae):Prop :=
 ∃ q3,p1=some q3∧∃ p4,aa H q3=some (pV p4)∧cS 27 #[pV p4] (fun v5 H1=>∃ p6,v5=pV p6∧cS 93 #[pV p6,lV (some (A0 H1.size)) 1 1] (fun v7 H2=>∃ n8,v7=iV n8∧∃ q9,p1=some q9∧∃ a10 l10 c10,aa H2 (q9.add 1)=some (lV a10 l10 c10)∧aI PP (Builtin.append_ #[30,30] 30 #[lV a10 l10 c10,lV (some (A0 H2.size)) 1 1]) (fun v11 H3=>∃ a12 l12 c12,v11=lV a12 l12 c12∧∃ q13,p1=some q13∧Wr H3 (q13.add 1)∧Q (.tuple #[]) (aB H3 (q13.add 1) (lV a12 l12 c12))) (H2.push (.cells #[iV n2] 24))) (H1.push (.cells #[iV n2] 24))) H
theorem zA {p1:Option Addr}{n2:Int} (h:Ez p1 n2 Q H):ac PP 42 #[.pointer p1,.int .i64 n2] Q H :=
 okF Tryz.func42 rfl h
end Go.Proofs.YtgcoppcogllpbaaGreatDoor
namespace Go.Proofs.YtgcoppcogllpbaaGreatDoor
open Kw
abbrev gP:Nat:=dq
def fS (H:ae):Prop:=∃ e:TypeId × (Nat × Nat),H[gP]?=some (.cells (Lib.pow10Tab.map fun z=>Value.int .u64 z).toArray e.1 e.2)
theorem fS.lt {H:ae} (h:fS H):gP<H.size:=by
 obtain ⟨e,h⟩:=h
 exact (Array.getElem?_eq_some_iff.1 h).1
theorem fS.fr {H H':ae}{G:az} (h:fS H) (hf:Fr G H H') (hg:gP∉G):fS H':=by
 have hl:=h.lt
 obtain ⟨e,h⟩:=h
 exact ⟨e,(hf.2 _ hl hg).trans h⟩
def DK (H:ae) (db:Nat) (D:az) (s:SP) (t:TB) (ws:List Int):Prop:=∃ b F a l c G,D=db :: (G++F)∧aV H db #[.pointer (some ⟨b,0,none⟩),.slice a l c]∧bN 1 H a l c (aj ws) G∧PK H b F s t∧db∉F∧db∉G∧co G F∧ap∉D∧gP∉D∧fS H
theorem DK.lt {H:ae}{db:Nat}{D:az}{s:SP}{t:TB}{ws:List Int} (h:DK H db D s t ws):∀ x∈D,x<H.size:=by
 obtain ⟨b,F,a,l,c,G,rfl,hB,hO,hK,_⟩:=h
 intro x hx
 rcases List.mem_cons.1 hx with rfl | hx
 ·exact hB.lt
 ·rcases List.mem_append.1 hx with hx | hx
  ·exact hO.lt x hx
  ·exact hK.lt x hx
theorem DK.nil {H H':ae}{db:Nat}{D:az}{s:SP}{t:TB}{ws:List Int} (h:DK H db D s t ws) (hf:Fr [] H H'):DK H' db D s t ws:=by
 obtain ⟨b,F,a,l,c,G,rfl,hB,hO,hK,h1,h2,h3,h4,h5,h6⟩:=h
 exact ⟨b,F,a,l,c,G,rfl,hB.fr hf (by simp),hO.fr hf (by simp),hK.nil hf,h1,h2,h3,h4,h5,h6.fr hf (by simp)⟩
structure PrimS (s:SP) (t:TB) (k:Int) (x:ByteArray) (r:Int) (ar:List Int) (res:Int × Int) (s':SP) (t':TB):Prop where
 go:∀ {H:ae}{b:Nat}{F:az}{a:Option Addr}{l c:Nat}{Q:QT},PK H b F s t->fS H->Rd 1 H a l (aj ar)->(∀ p,a=some p->p.block∉F)->l<=1000 ->
  (∀ H' F',PK H' b F' s' t'->Up F H F' H'->Q (.tuple #[.int .i64 res.1,.int .i64 res.2]) H')->ac PP x6 #[.pointer (some ⟨b,0,none⟩),.int .i64 k,.string x,.int .i64 r,.slice a l c] Q H
section
variable {H:ae}{db:Nat}{D:az}{s:SP}{t:TB}{v:KV}{ws:List Int}{Q:QT}{r x:Int}
theorem kg {n:Int} (h:Q (.int .i64 n) H):ac PP Di #[.int .i64 n] Q H:=by
 apply AN
 exact h
theorem qk (hD:DK H db D s t ws) (hl:ws.length<=100000){w:Int} (h:∀ H' D',DK H' db D' (s.keepW [w]).2 t (ws++[w])->Up D H D' H'->Q (.tuple #[]) H'):ac PP xU #[.pointer (some ⟨db,0,none⟩),.int .i64 w] Q H:=by
 have hsW:aH PP 30=some (1,8,some (.int .i64 0)):=by kernel_rfl
 have hlt:=hD.lt
 obtain ⟨b,F,a,l,c,G,rfl,hB,hO,hK,d1,d2,d3,d4,d5,d6⟩:=hD
 have hpl:=d6.lt
 have hgl:=hK.kinds.lt
 simp only [List.mem_cons,List.mem_append,not_or] at d4 d5
 apply zA
 unfold Ez A0 iV pV lV cS
 refine ⟨_,rfl,_,hB.cell 0,dD hK fun sb F1 _ hS hsub hup _=>⟨_,rfl,?_⟩⟩
 have f1:=Fr.push [] H (.cells #[.int .i64 w] 24)
 have hr:Rd 1 (H.push (.cells #[.int .i64 w] 24)) (some ⟨H.size,0,none⟩) 1 (aj [w]):=(show bN 1 (H.push (.cells #[.int .i64 w] 24)) (some ⟨H.size,0,none⟩) 1 1 (aj [w]) [H.size] from ⟨by simp [aj],Nat.le_refl _,.inr ⟨_,_,rfl,rfl,aV.new _ _ _,by simp,by simp [aj]⟩⟩).rd
 refine kh (hS.nilfr f1) hr (by decide) fun H2 F1' hS2 u2=>⟨_,rfl,?_⟩
 have u2':Up F1 H F1' H2:=⟨⟨Nat.le_trans f1.1 u2.1.1,fun y hy hn=>by rw [u2.1.2 y (Nat.lt_of_lt_of_le hy f1.1) hn,f1.2 y hy (by simp)]⟩,fun y hy=>(u2.2 y hy).imp id fun h=>Nat.le_trans f1.1 h⟩
 obtain ⟨F2,hK2,uF⟩:=hup H2 F1' _ hS2 u2'
 have hB2:=hB.fr uF.1 d1
 have hO2:=hO.fr uF.1 d3
 refine ⟨_,rfl,_,_,_,hB2.cell 1,?_⟩
 have hlw:ws.length=l:=by have:=hO.len;simpa [aj] using this
 refine bI hsW rfl (by kernel_rfl) hO2 rfl (by simp [dB]) (by omega) (by decide) (by decide) fun a3 c3 G3 H3 hO3 u3 lt3=>⟨_,_,_,rfl,?_⟩
 have hs2:=uF.1.1
 have newF:∀ x∈F2,x∉G:=fun x hx hm=>by
  rcases uF.2 x hx with h1 | h1
  ·exact d3 x hm h1
  ·have:=hlt x (by simp [hm]);omega
 have hB3:=hB2.fr u3.1 d2
 have hK3:=hK2.fr u3.1 newF d4.2.1
 refine ⟨_,rfl,hB3.wr (o:=1) (by simp),?_⟩
 have f4:Fr [db] H3 (aB H3 ((⟨db,0,none⟩:Addr).add 1) (.slice a3 (l+1) c3)):=Fr.set (by show db∈[db];simp)
 have hB4:aV (aB H3 ((⟨db,0,none⟩:Addr).add 1) (.slice a3 (l+1) c3)) db #[.pointer (some ⟨b,0,none⟩),.slice a3 (l+1) c3]:=hB3.set 1 _
 have ndG3:db∉G3:=fun hm=>by
  rcases u3.2 db hm with h1 | h1
  ·exact d2 h1
  ·have:=hlt db (by simp);omega
 have ndF2:db∉F2:=fun hm=>by
  rcases uF.2 db hm with h1 | h1
  ·exact d1 h1
  ·have:=hlt db (by simp);omega
 have dGF:co G3 F2:=fun x hx hm=>by
  rcases u3.2 x hx with h1 | h1
  ·exact newF x hm h1
  ·have:=hK2.lt x hm;omega
 have hd1:∀ y∈G3,y∉[db]:=fun y hy hm=>ndG3 (by rw [←List.mem_singleton.1 hm];exact hy)
 have hd2:∀ y∈F2,y∉[db]:=fun y hy hm=>ndF2 (by rw [←List.mem_singleton.1 hm];exact hy)
 refine h _ (db :: (G3++F2)) ⟨b,F2,a3,l+1,c3,G3,rfl,hB4,?_,hK3.fr f4 hd2 (fun hm=>d4.1 (List.mem_singleton.1 hm)),ndF2,ndG3,dGF,?_,?_,((d6.fr uF.1 d5.2.2).fr u3.1 d5.2.1).fr f4 (fun hm=>d5.1 (List.mem_singleton.1 hm))⟩ ⟨?_,fun y hy=>?_⟩
 ·have:=hO3.fr f4 hd1
  have e:aj (ws++[w])=aj ws++[.int .i64 w]:=by simp [aj]
  rw [e];exact this
 ·simp only [List.mem_cons,List.mem_append,not_or]
  refine ⟨d4.1,fun hm=>?_,fun hm=>?_⟩
  ·rcases u3.2 _ hm with h1 | h1
   ·exact d4.2.1 h1
   ·omega
  ·rcases uF.2 _ hm with h1 | h1
   ·exact d4.2.2 h1
   ·omega
 ·simp only [List.mem_cons,List.mem_append,not_or]
  refine ⟨d5.1,fun hm=>?_,fun hm=>?_⟩
  ·rcases u3.2 _ hm with h1 | h1
   ·exact d5.2.1 h1
   ·omega
  ·rcases uF.2 _ hm with h1 | h1
   ·exact d5.2.2 h1
   ·omega
 ·refine ⟨Nat.le_trans hs2 (Nat.le_trans u3.1.1 f4.1),fun y hy hn=>?_⟩
  simp only [List.mem_cons,List.mem_append,not_or] at hn
  rw [f4.2 y (by have:=u3.1.1;omega) (by simpa using hn.1),u3.1.2 y (by omega) hn.2.1,uF.1.2 y hy hn.2.2]
 ·simp only [List.mem_cons,List.mem_append] at hy ⊢
  rcases hy with rfl | hy | hy
  ·exact .inl (.inl rfl)
  ·rcases u3.2 y hy with h1 | h1
   ·exact .inl (.inr (.inl h1))
   ·exact .inr (by omega)
  ·rcases uF.2 y hy with h1 | h1
   ·exact .inl (.inr (.inr h1))
   ·exact .inr h1
def nX (s:SP) (ws:List Int) (res:Int × Int):SP × List Int:=if res.2=0 then ((s.keepW [res.1]).2,ws++[res.1]) else (s,ws)
theorem sZ (hD:DK H db D s t ws) (hl:ws.length<=100000){k:Int}{x:ByteArray}{ar:List Int}{res:Int × Int}{s':SP}{t':TB} (hp:PrimS s t k x r ar res s' t'){a:Option Addr}{l c:Nat} (hr:Rd 1 H a l (aj ar)) (ho:∀ p,a=some p->p.block∉D) (hal:l<=1000)
  (h:∀ H' D',DK H' db D' (nX s' ws res).1 t' (nX s' ws res).2->Up D H D' H'->Q (.tuple #[.int .i64 res.1,.int .i64 res.2]) H') :
  ac PP oE #[.pointer (some ⟨db,0,none⟩),.int .i64 k,.string x,.int .i64 r,.slice a l c] Q H:=by
 have hlt:=hD.lt
 obtain ⟨b,F,a1,l1,c1,G,rfl,hB,hO,hK,d1,d2,d3,d4,d5,d6⟩:=hD
 have hpl:=d6.lt
 have hgl:=hK.kinds.lt
 simp only [List.mem_cons,List.mem_append,not_or] at d4 d5
 apply Ay
 unfold EO iV pV sV lV cS
 refine ⟨_,rfl,_,hB.cell 0,hp.go hK d6 hr (fun p hp hm=>ho p hp (by simp [hm])) hal fun H2 F2 hK2 uF=>⟨_,_,rfl,kg ⟨_,rfl,?_⟩⟩⟩
 have hs2:=uF.1.1
 have hB2:=hB.fr uF.1 d1
 have hO2:=hO.fr uF.1 d3
 have ndF2:db∉F2:=fun hm=>by
  rcases uF.2 db hm with h1 | h1
  ·exact d1 h1
  ·have:=hlt db (by simp);omega
 have dGF:co G F2:=fun x hx hm=>by
  rcases uF.2 x hm with h1 | h1
  ·exact d3 x hx h1
  ·have:=hlt x (by simp [hx]);omega
 have hD2:DK H2 db (db :: (G++F2)) s' t' ws:=⟨b,F2,a1,l1,c1,G,rfl,hB2,hO2,hK2,ndF2,d2,dGF,by
  simp only [List.mem_cons,List.mem_append,not_or]
  refine ⟨d4.1,d4.2.1,fun hm=>?_⟩
  rcases uF.2 _ hm with h1 | h1
  ·exact d4.2.2 h1
  ·omega,by
  simp only [List.mem_cons,List.mem_append,not_or]
  refine ⟨d5.1,d5.2.1,fun hm=>?_⟩
  rcases uF.2 _ hm with h1 | h1
  ·exact d5.2.2 h1
  ·omega,d6.fr uF.1 d5.2.2⟩
 have u2:Up (db :: (G++F)) H (db :: (G++F2)) H2:=by
  refine ⟨uF.1.mono fun y hy=>by simp [hy],fun y hy=>?_⟩
  simp only [List.mem_cons,List.mem_append] at hy ⊢
  rcases hy with rfl | hy | hy
  ·exact .inl (.inl rfl)
  ·exact .inl (.inr (.inl hy))
  ·exact (uF.2 y hy).imp (fun h1=>.inr (.inr h1)) id
 unfold nX at h
 rw [aU,af]
 refine aA (fun h0=>?_) fun h0=>?_
 ·simp only [if_pos h0] at h
  exact qk hD2 hl fun H3 D3 hD3 u3=>⟨rfl,kg ⟨_,rfl,h H3 D3 hD3 (u2.trans u3)⟩⟩
 ·simp only [if_neg h0] at h
  exact kg ⟨_,rfl,h H2 _ hD2 u2⟩
theorem x9 (hD:DK H db D s t ws) (hl:ws.length<=100000){k:Int}{x:ByteArray}{ar:List Int}{w want:Int}{s':SP}{t':TB} (hp:PrimS s t k x r ar (w,0) s' t'){a:Option Addr}{l c:Nat} (hr:Rd 1 H a l (aj ar)) (ho:∀ p,a=some p->p.block∉D) (hal:l<=1000)
  (h:∀ H' D',DK H' db D' (s'.keepW [w]).2 t' (ws++[w])->Up D H D' H'->Q (.bool (decide (w=want))) H') :
  ac PP sL #[.pointer (some ⟨db,0,none⟩),.int .i64 k,.string x,.int .i64 r,.slice a l c,.int .i64 want] Q H:=by
 apply yI
 unfold DL iV pV sV lV
 refine sZ hD hl hp hr ho hal fun H2 D2 hD2 u2=>⟨_,_,rfl,?_⟩
 rw [aU]
 exact h H2 D2 hD2 u2
end
abbrev qg (n:Int):Prop:=-1073741824<=n∧n<=1073741823
def gt (n:Int):Int:=fc .i64 (ee .i64 n 33) 33
def E6 (g:Nat) (f:Int->Int->Int × Int):Prop:=∀ (n m:Int),qg n->qg m->∀ {Q:QT}{H:ae},Q (.tuple #[.int .i64 (f n m).1,.int .i64 (f n m).2]) H->ac PP g #[.int .i64 n,.int .i64 m] Q H
section
variable {H:ae}{Q:QT}
end
def DT (n m:Int):Int × Int:=(gt (IntKind.wrap .i64 (n+m)),0)
def DP (n m:Int):Int × Int:=(gt (IntKind.wrap .i64 (n-m)),0)
def DY (n m:Int):Int × Int:=(gt (IntKind.wrap .i64 (n*m)),0)
def DU (n m:Int):Int × Int:=(gt (kO .i64 n m),0)
def Fc (n m:Int):Int × Int:=(gt (rb .i64 n m),0)
def Ed (n m:Int):Int × Int:=(gt (En .i64 n m),0)
def zx (n m:Int):Int × Int:=if m<0 then (gt (fc .i64 n (IntKind.wrap .i64 (0-(if m < -31 then -31 else m)))),0) else (gt (ee .i64 n (if 31<m then 31 else m)),0)
def qJ (n m:Int):Int × Int × Int:=if m=0 then (0,0,11) else
 if Int.tmod n m≠0∧((Int.tmod n m<0)≠(m<0)) then (gt (IntKind.wrap .i64 (IntKind.wrap .i64 (Int.tdiv n m)-1)),IntKind.wrap .i64 (Int.tmod n m+m),0)
 else (gt (IntKind.wrap .i64 (Int.tdiv n m)),Int.tmod n m,0)
def Ef (n m:Int):Int × Int:=((qJ n m).1,(qJ n m).2.2)
def Em (n m:Int):Int × Int:=((qJ n m).2.1,(qJ n m).2.2)
theorem dG {n:Int} (h:qg n):bg (2*n+1)=1:=by
 have:=aW (2*n+1)
 obtain ⟨h1,h2⟩:=h
 omega
theorem uT {n:Int} (h:qg n):lg (2*n+1)=n:=by
 unfold lg
 rw [if_pos (dG h)]
 omega
theorem eX (n:Int):(2*n+1) / 2=n:=by omega
theorem ia {r:RH}{n:Int} (h:qg n):mA r (2*n+1)=8:=by
 unfold mA sD
 rw [if_pos (dG h)]
 rfl
theorem bv (v:KV){k:Int} (h:k≠0):iz v k k=true:=by
 unfold iz jq
 rw [if_neg h,if_pos rfl]
theorem kw {k:Int} (h1:1<=k) (h2:k<=65536):bg (4*k)=3:=by
 have:=aW (4*k)
 omega
theorem bG {s:SP}{t:TB}{v:KV} (hv:KAllW s t v){k:Int}{xs:List Int} (h:bU s.h k xs):1<=k∧k<=65536:=by
 obtain ⟨o,ho,_⟩:=h
 have hm:=au ho
 have:=hv.ks.wf.h.objs.good o hm.1
 have h1:=this.oop1
 have h2:=this.oop2
 have h3:=hv.ks.wf.h.o1
 omega
theorem bt {r:RH}{k:Int}{xs:List Int} (h:bU r k xs) (h1:1<=k) (h2:k<=65536):mA r (4*k)=10:=by
 obtain ⟨o,ho,hf,hc,_⟩:=h
 have hk:=kw h1 h2
 have e:(4*k) / 4=k:=by omega
 have eo:sD r (4*k)=(10,0):=by
  unfold sD
  rw [if_neg (by omega),if_neg (by omega),if_pos hk,e]
  unfold RH.clsAt
  rw [ho]
  simp only [hc,if_true]
  rfl
 unfold mA
 rw [eo]
 rfl
theorem eJ {r:RH}{k:Int}{xs:List Int} (h:bU r k xs) (h1:1<=k) (h2:k<=65536):fA r (4*k)=((xs.length:Int),1):=by
 obtain ⟨o,ho,hf,hc,rfl⟩:=h
 unfold fA
 rw [if_pos (kw h1 h2)]
 have e:(4*k) / 4=k:=by omega
 unfold RH.size
 rw [e,ho]
 simp only [hf]
theorem ox {r:RH}{k:Int}{xs:List Int} (h:bU r k xs) (h1:1<=k) (h2:k<=65536){i:Nat} (hi:i<xs.length):ga r (4*k) (i:Int)=xs.getD i 0:=by
 obtain ⟨o,ho,hf,hc,rfl⟩:=h
 unfold ga
 rw [dC h1 h2]
 unfold RH.at
 rw [ho]
 simp only
 rw [if_neg (by omega)]
 simp
section
variable {s s':SP}{t t':TB}{v:KV}{r:Int}
theorem fN (hv:KAllW s t v){k n:Int}{x:ByteArray}{f:Nat}{ar:List Int}{res:Int × Int} (he:eT (sx k) x=some (n,.fn f)) (hn:(ar.length:Int)=n) (hof:∀ w∈r :: ar,mA s.h w≠0) (hkind:iz v k (mA s.h r)=true) (hsh:fC s.h k r=true)
  (hc:∀ {H:ae}{b:Nat}{F:az}{a:Option Addr}{l c:Nat}{Q:QT},PK H b F s t->fS H->Rd 1 H a l (aj ar)->(∀ p,a=some p->p.block∉F)->(∀ H' F',PK H' b F' s' t'->Up F H F' H'->Q (.tuple #[.int .i64 res.1,.int .i64 res.2]) H')->ac PP f #[cv b r a l c] Q H) :
  PrimS s t k x r ar res s' t':=by
 refine ⟨fun {H b F a l c Q} hK ht hr ho hl h=>?_⟩
 have hlen:l=ar.length:=by have:=hr.1;simpa [aj] using this.symm
 refine Cv hK hv hr hl he (by simp) (by omega) hof hkind hsh fun H' n0 rr f' g' hh f1 hq=>?_
 have hq:(Value.func (.func f') g' hh)=.func (.func f) #[] #[]:=hq
 cases hq
 show ac PP f #[cv b r a l c] _ _
 refine hc (hK.nil f1) (ht.fr f1 (by simp)) (Rd.nilF hr f1) ho fun H2 F2 hK2 u2=>⟨_,_,rfl,h H2 F2 hK2 ⟨?_,fun y hy=>(u2.2 y hy).imp id fun h1=>Nat.le_trans f1.1 h1⟩⟩
 exact ⟨Nat.le_trans f1.1 u2.1.1,fun y hy hn=>by rw [u2.1.2 y (Nat.lt_of_lt_of_le hy f1.1) hn,f1.2 y hy (by simp)]⟩
theorem cV (hv:KAllW s t v){k n:Int}{x:ByteArray}{f:Nat}{ar:List Int}{res:Int × Int} (he:eT (sx k) x=some (n,.fn f)) (hn:(ar.length:Int)=n) (hof:∀ w∈r :: ar,mA s.h w≠0) (hkind:iz v k (mA s.h r)=true) (hsh:fC s.h k r=true)
  (hc:∀ {H:ae}{b:Nat}{F:az}{a:Option Addr}{l c:Nat}{Q:QT},PK H b F s t->Rd 1 H a l (aj ar)->(∀ H',Fr [] H H'->Q (.tuple #[.int .i64 res.1,.int .i64 res.2]) H')->ac PP f #[cv b r a l c] Q H) :
  PrimS s t k x r ar res s t :=
 fN hv he hn hof hkind hsh fun hK _ hr _ h=>hc hK hr fun H' f=>h H' _ (hK.nil f) (Up.of_nil f)
theorem Bh (hv:KAllW s t v){x:ByteArray}{g:Nat}{f:Int->Int->Int × Int} (he:eT (sx 8) x=some (1,.clo 301 g)) (hg:E6 g f){n m:Int} (hn:qg n) (hm:qg m) :
  PrimS s t 8 x (2*n+1) [2*m+1] (if (f n m).2≠0 then (0,(f n m).2) else oK (f n m).1) s t:=by
 refine ⟨fun {H b F a l c Q} hK ht hr ho hl h=>?_⟩
 have hlen:l=1:=by have:=hr.1;simpa [aj] using this.symm
 refine Cv hK hv hr hl he (by simp) (by omega) (fun w hw=>?_) ?_ rfl fun H' n0 rr f' g' hh f1 hq=>?_
 ·simp only [List.mem_cons,List.not_mem_nil,or_false] at hw
  rcases hw with rfl | rfl
  ·rw [ia hn];decide
  ·rw [ia hm];decide
 ·rw [ia hn];exact bv v (by decide)
 obtain ⟨q,e1,e2,_⟩:=hq
 cases e1
 show ac PP tP #[cv b (2*n+1) a l c,.pointer (some ⟨q,0,none⟩)] _ _
 refine pN (hK.nil f1) (Rd.nilF hr f1) e2 (fun hk=>absurd (dG hm) hk) fun _ H2 f2=>?_
 rw [uT hn,eX]
 refine hg n m hn hm ⟨_,_,rfl,?_⟩
 have hq:=fun H' F'=>h H' F'
 have f12:=f1.trans f2
 rw [aX,af]
 refine aA (fun h0=>?_) fun h0=>?_
 ·simp only [if_pos h0] at hq
  exact ⟨_,_,rfl,hq _ _ (hK.nil f12) (Up.of_nil f12)⟩
 ·simp only [if_neg h0] at hq
  exact mM ⟨_,_,rfl,_,_,rfl,hq _ _ (hK.nil f12) (Up.of_nil f12)⟩
theorem rV (hv:KAllW s t v){k:Int}{xs:List Int} (hs:bU s.h k xs) (hl:xs.length<=100000):PrimS s t 10 ⟨#[115,105,122,101]⟩ (4*k) [] (2*(xs.length:Int)+1,0) s t:=by
 obtain ⟨h1,h2⟩:=bG hv hs
 refine cV hv (n:=0) (f:=sT) rfl rfl (fun w hw=>?_) ?_ rfl fun hK _ h=>vu hK fun H' f=>?_
 ·simp only [List.mem_cons,List.not_mem_nil,or_false] at hw
  rw [hw,bt hs h1 h2];decide
 ·rw [bt hs h1 h2];exact bv v (by decide)
 ·rw [eJ hs h1 h2,mj (by simp only;omega)]
  exact h H' f
theorem pE (hv:KAllW s t v){k:Int}{xs:List Int} (hs:bU s.h k xs):PrimS s t 10 ⟨#[105,115,69,109,112,116,121]⟩ (4*k) [] (tw (decide ((xs.length:Int)=0)),0) s t:=by
 obtain ⟨h1,h2⟩:=bG hv hs
 refine cV hv (n:=0) (f:=sY) rfl rfl (fun w hw=>?_) ?_ rfl fun hK _ h=>tN hK fun H' f=>?_
 ·simp only [List.mem_cons,List.not_mem_nil,or_false] at hw
  rw [hw,bt hs h1 h2];decide
 ·rw [bt hs h1 h2];exact bv v (by decide)
 ·rw [eJ hs h1 h2]
  exact h H' f
theorem mY (hv:KAllW s t v){k:Int}{xs:List Int} (hs:bU s.h k xs){n:Int} (hn:qg n):PrimS s t 10 ⟨#[97,116,58]⟩ (4*k) [2*n+1] (js s.h (4*k) (2*n+1)) s t:=by
 obtain ⟨h1,h2⟩:=bG hv hs
 refine cV hv (n:=1) (f:=tU) rfl rfl (fun w hw=>?_) ?_ rfl fun hK hr h=>r0 hK hr fun H' f=>h H' f
 ·simp only [List.mem_cons,List.not_mem_nil,or_false] at hw
  rcases hw with rfl | rfl
  ·rw [bt hs h1 h2];decide
  ·rw [ia hn];decide
 ·rw [bt hs h1 h2];exact bv v (by decide)
theorem wH {k:Int}{xs:List Int} (hs:bU s.h k xs) (h1:1<=k) (h2:k<=65536){i:Nat} (hi:i<xs.length) (hl:xs.length<=100000) (hb:0<=xs.getD i 0∧xs.getD i 0<=255):js s.h (4*k) (2*((i:Int)+1)+1)=(2*xs.getD i 0+1,0):=by
 have hr:qg ((i:Int)+1):=⟨by omega,by omega⟩
 have e:dK (fA s.h (4*k)).1 (2*((i:Int)+1)+1)=((i:Int),0):=by
  unfold dK
  rw [if_neg (fun e=>e (dG hr)),eX,eJ hs h1 h2,if_neg (by simp only;omega)]
  have:(i:Int)+1-1=i:=by omega
  rw [this]
 unfold js
 rw [e,if_neg (by simp),ox hs h1 h2 hi,mj (by omega)]
theorem oL {k:Int}{xs:List Int} (hs:bU s.h k xs) (h1:1<=k) (h2:k<=65536){n:Int} (hr:qg n) (hn:n<1∨(xs.length:Int)<n):js s.h (4*k) (2*n+1)=(0,171):=by
 have e:dK (fA s.h (4*k)).1 (2*n+1)=(0,171):=by
  unfold dK
  rw [if_neg (fun e=>e (dG hr)),eX,eJ hs h1 h2,if_pos hn]
 unfold js
 rw [e,if_pos (by decide)]
end
variable {Q:QT}{H:ae}
abbrev za:Nat:=354
def BH (p1:Option Addr) (n2:Int) (Q:QT) (H:ae):Prop :=
 ac PP 384 #[pV p1] (fun v3 H1=>v3=.tuple #[]∧∃ q4,p1=some q4∧∃ a5 l5 c5,aa H1 (q4.add 1)=some (lV a5 l5 c5)∧aI PP (Builtin.append_ #[263,263] 263 #[lV a5 l5 c5,lV (some (A0 H1.size)) 1 1]) (fun v6 H2=>∃ a7 l7 c7,v6=lV a7 l7 c7∧∃ q8,p1=some q8∧Wr H2 (q8.add 1)∧Q (.nilIface) (aB H2 (q8.add 1) (lV a7 l7 c7))) (H1.push (.cells #[.int .u8 n2] 5))) H
theorem wn {p1:Option Addr}{n2:Int} (h:BH p1 n2 Q H):ac PP 354 #[.pointer p1,.int .u8 n2] Q H :=
 okF Tryz.func354 rfl h
abbrev Ae:Nat:=355
def CG (p1:Option Addr) (Q:QT) (H:ae):Prop :=
 ∃ q2,p1=some q2∧∃ a3 l3 c3,aa H (q2.add 1)=some (lV a3 l3 c3)∧∃ q4,p1=some q4∧∃ a5 l5 c5,aa H (q4.add 1)=some (lV a5 l5 c5)∧aI PP (Builtin.unsafeSliceData_ #[263] 328 #[lV a3 l3 c3]) (fun v6 H1=>∃ p7,v6=pV p7∧((aa H1 (q4.add 1)=some (lV a5 l5 c5)∧True)∧True)∧aI PP (Builtin.unsafeString_ #[328,3] 9 #[pV p7,iV (l5:Int)]) (fun v8 H2=>∃ s9,v8=sV s9∧True∧Q (sV s9) H2) H1) H
theorem xD {p1:Option Addr} (h:CG p1 Q H):ac PP 355 #[.pointer p1] Q H :=
 okF Tryz.func355 rfl h
end Go.Proofs.YtgcoppcogllpbaaGreatDoor
