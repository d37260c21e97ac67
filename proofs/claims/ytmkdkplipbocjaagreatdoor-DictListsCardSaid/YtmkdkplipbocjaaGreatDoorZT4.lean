/- Lemmas for RDLists: functions of the program as predicate transformers, and their contracts. -/
import Derived.Test.YtmkdkplipbocjaaGreatDoorZT3
import Derived.ProofKit
import Derived.Test.YtmkdkplipbocjaaGreatDoorCards
import Derived.Test.YtmkdkplipbocjaaGreatDoorTie
import Derived.LaidLaws
import Derived.Handed
import Derived.Lib.LaidU8
import Derived.Deep.Strs
import Derived.WideKeyArgs
import Derived.SizedLaws
set_option linter.all false
set_option maxRecDepth 100000
set_option maxHeartbeats 4000000
namespace Go.Proofs.YtmkdkplipbocjaaGreatDoor
open Kw
variable {Q:QT}{H:aj}
abbrev vc:Nat:=11
def Re (n1:Int) (n2:Int) (Q:QT) (H:aj):Prop :=
 ah PP 55 #[iV n1,iV n2] (fun v3 H1=>∃ p4 n5,v3=.tuple #[pV p4,iV n5]∧cond (n5 != 0) (Q (.tuple #[pV none,iV n5]) H1) (cS 56 #[iV 4096] (fun v6 H2=>∃ p7 n8,v6=.tuple #[pV p7,iV n8]∧∃(I9:IT) (μ9:MT),I9 [iV 1] (H2.push (.cells #[pV p4,pV p7] 104))∧∀ w10 H3,I9 w10 H3->∀ _g:Nat->Value,∃ n11,w10=[iV n11]∧cond (decide (n11<=20)) (cS 57 #[iV n11] (fun v12 H4=>∃ n13 n14,v12=.tuple #[iV n13,iV n14]∧∃ q15,p4=some q15∧∃ p16,ac H4 q15=some (pV p16)∧cS 59 #[iV n13] (fun v17 H5=>∃ n18,v17=iV n18∧((ac H5 q15=some (pV p16)∧True)∧True)∧cS 58 #[pV p16,iV n18,iV n14,iV 0] (fun v19 H6=>∃ n20 n21,v19=.tuple #[iV n20,iV n21]∧True∧cond (n21 != 0) (Q (.tuple #[pV none,iV n21]) H6) (I9 [iV (wW (n11+1))] H6∧μ9 [iV (wW (n11+1))] H6<μ9 w10 H3)) H5) H4) H3) (∃(I22:IT) (μ22:MT),I22 [iV 0] H3∧∀ w23 H7,I22 w23 H7->∀ _g:Nat->Value,∃ n24,w23=[iV n24]∧cond (decide (n24<14)) (((0:Int)<=n24∧n24<(14:Int))∧∃ s25,ac H7 ((A0 0).add (Int.toNat n24*1))=some (sV s25)∧cS 60 #[pV p7,sV s25] (fun v26 H8=>∃ n27 n28,v26=.tuple #[iV n27,iV n28]∧cS 59 #[iV 4] (fun v29 H9=>∃ n30,v29=iV n30∧∃ J31:IT,(cond (n24 == 0) (cS 59 #[iV 1] (fun v32 H10=>∃ n33,v32=iV n33∧J31 [iV n33] H10) H9) (J31 [iV n30] H9))∧∀ w34 H11,J31 w34 H11->∀ _g:Nat->Value,∃ n35,w34=[iV n35]∧cS 62 #[iV n24] (fun v36 H12=>∃ n37,v36=iV n37∧cS 59 #[iV 18] (fun v38 H13=>∃ n39,v38=iV n39∧cS 59 #[iV 18] (fun v40 H14=>∃ n41,v40=iV n41∧cS 59 #[iV 18] (fun v42 H15=>∃ n43,v42=iV n43∧cS 63 #[iV 0] (fun v44 H16=>∃ n45,v44=iV n45∧cS 63 #[iV (wW (n24+1))] (fun v46 H17=>∃ n47,v46=iV n47∧cS 61 #[pV (some (A0 H2.size)),iV (wW (4+n24)),lV (some (A0 H17.size)) 7 7] (fun v48 H18=>v48=.tuple #[]∧∃ q49,p4=some q49∧∃ p50,ac H18 q49=some (pV p50)∧cS 59 #[iV (wW (4+n24))] (fun v51 H19=>∃ n52,v51=iV n52∧((ac H19 q49=some (pV p50)∧True)∧True)∧cS 64 #[pV p50,iV 20,iV n24,iV n52] (fun v53 H20=>∃ n54,v53=iV n54∧True∧I22 [iV (wW (n24+1))] H20∧μ22 [iV (wW (n24+1))] H20<μ22 w23 H7) H19) H18) (H17.push (.cells #[iV n37,iV n35,iV n39,iV n41,iV n43,iV n45,iV n47] 36))) H16) H15) H14) H13) H12) H11) H8) H7) (cS 59 #[iV 20] (fun v55 H21=>∃ n56,v55=iV n56∧cS 59 #[iV 18] (fun v57 H22=>∃ n58,v57=iV n58∧cS 59 #[iV 18] (fun v59 H23=>∃ n60,v59=iV n60∧cS 59 #[iV 18] (fun v61 H24=>∃ n62,v61=iV n62∧cS 59 #[iV 1] (fun v63 H25=>∃ n64,v63=iV n64∧cS 59 #[iV 2] (fun v65 H26=>∃ n66,v65=iV n66∧cS 59 #[iV 3] (fun v67 H27=>∃ n68,v67=iV n68∧cS 59 #[iV 1] (fun v69 H28=>∃ n70,v69=iV n70∧cS 61 #[pV (some (A0 H2.size)),iV 19,lV (some (A0 H28.size)) 8 8] (fun v71 H29=>v71=.tuple #[]∧cS 65 #[pV p4,iV 19] (fun v72 H30=>∃ n73,v72=iV n73∧Q (.tuple #[pV (some (A0 H2.size)),iV 0]) H30) H29) (H28.push (.cells #[iV n56,iV n58,iV n60,iV n62,iV n64,iV n66,iV n68,iV n70] 36))) H27) H26) H25) H24) H23) H22) H21) H7))) H1)) H
theorem Iq {n1:Int}{n2:Int} (h:Re n1 n2 Q H):ah PP 11 #[.int .i64 n1,.int .i64 n2] Q H :=
 aN good Tryz.func11 rfl (Ls:=fun | 7=>some [(11,3)] | 14=>some [(16,3)] | 1020=>some [(17,36)] | _=>none) (by kernel_rfl) h
abbrev NG:Nat:=27
def RL (p1:Option Addr) (s2:ByteArray) (Q:QT) (H:aj):Prop :=
 ah PP 114 #[sV s2] (fun v3 H1=>∃ b4,v3=.bool b4∧cond (!b4) (Q (iV 133) H1) (cS 115 #[pV p1,sV s2] (fun v5 H2=>∃ b6,v5=.bool b6∧cond b6 (Q (iV 131) H2) (cS 78 #[pV p1] (fun v7 H3=>∃ a8 l8 c8,v7=lV a8 l8 c8∧cond (decide ((l8:Int) ≥ 256)) (Q (iV 138) H3) (cS 116 #[pV p1] (fun v9 H4=>∃ p10,v9=pV p10∧cS 117 #[pV p1,lV (some (A0 H4.size)) 1 1] (fun v11 H5=>∃ a12 l12 c12 n13,v11=.tuple #[lV a12 l12 c12,iV n13]∧cond (n13 == 0) (∃ J14:IT,(((0:Int)<=0∧0<(l12:Int))∧∃ q15,a12=some q15∧∃ n16,ac H5 (q15.add (Int.toNat 0*1))=some (iV n16)∧(cS 120 #[pV p1,iV 19,iV 1] (fun v17 H6=>∃ n18,v17=iV n18∧((ac H6 (q15.add (Int.toNat 0*1))=some (iV n16)∧True)∧True)∧(cS 119 #[iV n18] (fun v19 H7=>∃ n20,v19=iV n20∧((ac H7 (q15.add (Int.toNat 0*1))=some (iV n16)∧True)∧True)∧(cS 118 #[pV p1,iV n20] (fun v21 H8=>∃ a22 l22 c22,v21=lV a22 l22 c22∧((ac H8 (q15.add (Int.toNat 0*1))=some (iV n16)∧True)∧True)∧True∧bk PP (Builtin.append_ #[108,108] 108 #[lV a22 l22 c22,lV (some (A0 H8.size)) 1 1]) (fun v23 H9=>∃ a24 l24 c24,v23=lV a24 l24 c24∧True∧J14 [lV a24 l24 c24] H9) (H8.push (.cells #[iV n16] 36))) H7)∧(True∧cS 118 #[pV p1,iV n20] (fun v25 H10=>∃ a26 l26 c26,v25=lV a26 l26 c26∧True∧bk PP (Builtin.append_ #[108,108] 108 #[lV a26 l26 c26,lV (some (A0 H7.size)) 1 1]) (fun v27 H11=>∃ a28 l28 c28,v27=lV a28 l28 c28∧True∧J14 [lV a28 l28 c28] H11) H10) (H7.push (.cells #[iV n16] 36)))) H6)∧(True∧cS 119 #[iV n18] (fun v29 H12=>∃ n30,v29=iV n30∧True∧cS 118 #[pV p1,iV n30] (fun v31 H13=>∃ a32 l32 c32,v31=lV a32 l32 c32∧True∧bk PP (Builtin.append_ #[108,108] 108 #[lV a32 l32 c32,lV (some (A0 H6.size)) 1 1]) (fun v33 H14=>∃ a34 l34 c34,v33=lV a34 l34 c34∧True∧J14 [lV a34 l34 c34] H14) H13) H12) (H6.push (.cells #[iV n16] 36)))) H5)∧(True∧cS 120 #[pV p1,iV 19,iV 1] (fun v35 H15=>∃ n36,v35=iV n36∧True∧cS 119 #[iV n36] (fun v37 H16=>∃ n38,v37=iV n38∧True∧cS 118 #[pV p1,iV n38] (fun v39 H17=>∃ a40 l40 c40,v39=lV a40 l40 c40∧True∧bk PP (Builtin.append_ #[108,108] 108 #[lV a40 l40 c40,lV (some (A0 H5.size)) 1 1]) (fun v41 H18=>∃ a42 l42 c42,v41=lV a42 l42 c42∧True∧J14 [lV a42 l42 c42] H18) H17) H16) H15) (H5.push (.cells #[iV n16] 36))))∧∀ w43 H19,J14 w43 H19->∀ _g:Nat->Value,∃ a44 l44 c44,w43=[lV a44 l44 c44]∧cS 59 #[iV 1] (fun v45 H20=>∃ n46,v45=iV n46∧bk PP (Builtin.append_ #[108,108] 108 #[lV a44 l44 c44,lV (some (A0 H20.size)) 1 1]) (fun v47 H21=>∃ a48 l48 c48,v47=lV a48 l48 c48∧cS 121 #[pV p1,iV 11,lV a48 l48 c48] (fun v49 H22=>∃ n50 n51,v49=.tuple #[iV n50,iV n51]∧cond (n51 == 0) (∃ q52,p1=some q52∧∃ p53,ac H22 q52=some (pV p53)∧cS 122 #[pV p53,iV 1,iV n50] (fun v54 H23=>∃ n55,v54=iV n55∧cS 123 #[pV p1,pV p10,iV n51] (fun v56 H24=>∃ n57,v56=iV n57∧Q (iV n57) H24) H23) H22) (cS 123 #[pV p1,pV p10,iV n51] (fun v58 H25=>∃ n59,v58=iV n59∧Q (iV n59) H25) H22)) H21) (H20.push (.cells #[iV n46] 36))) H19) (cS 123 #[pV p1,pV p10,iV n13] (fun v60 H26=>∃ n61,v60=iV n61∧Q (iV n61) H26) H5)) (H4.push (.cells #[sV s2] 9))) H3)) H2)) H1)) H
theorem IB {p1:Option Addr}{s2:ByteArray} (h:RL p1 s2 Q H):ah PP 27 #[.pointer p1,.string s2] Q H :=
 aN good Tryz.func27 rfl (Ls:=fun | 1012=>some [(9,108)] | _=>none) (by kernel_rfl) h
abbrev P9:Nat:=40
def RM (p1:Option Addr) (Q:QT) (H:aj):Prop :=
 ah PP 120 #[pV p1,iV 19,iV 0] (fun v2 H1=>∃ n3,v2=iV n3∧cS 119 #[iV n3] (fun v4 H2=>∃ n5,v4=iV n5∧cS 118 #[pV p1,iV n5] (fun v6 H3=>∃ a7 l7 c7,v6=lV a7 l7 c7∧∃(I8:IT) (μ8:MT),I8 [lV none 0 0,iV 0] H3∧∀ w9 H4,I8 w9 H4->∀ _g:Nat->Value,∃ a10 l10 c10 n11,w9=[lV a10 l10 c10,iV n11]∧cond (decide (n11<(l7:Int))) (((0:Int)<=n11∧n11<(l7:Int))∧∃ q12,a7=some q12∧∃ n13,ac H4 (q12.add (Int.toNat n11*1))=some (iV n13)∧cS 119 #[iV n13] (fun v14 H5=>∃ n15,v14=iV n15∧bk PP (Builtin.append_ #[66,66] 66 #[lV a10 l10 c10,lV (some (A0 H5.size)) 1 1]) (fun v16 H6=>∃ a17 l17 c17,v16=lV a17 l17 c17∧I8 [lV a17 l17 c17,iV (wW (n11+1))] H6∧μ8 [lV a17 l17 c17,iV (wW (n11+1))] H6<μ8 w9 H4) (H5.push (.cells #[iV n15] 3))) H4) (Q (lV a10 l10 c10) H4)) H2) H1) H
theorem EJ {p1:Option Addr} (h:RM p1 Q H):ah PP 40 #[.pointer p1] Q H :=
 aN good Tryz.func40 rfl (Ls:=fun | 4=>some [(4,66),(5,3)] | _=>none) (by kernel_rfl) h
abbrev yf:Nat:=61
def QU (p1:Option Addr) (n2:Int) (a3:Option Addr) (l3:Nat) (_c3:Nat) (Q:QT) (H:aj):Prop :=
 ∃(I4:IT) (μ4:MT),I4 [iV 0] H∧∀ w5 H1,I4 w5 H1->∀ _g:Nat->Value,∃ n6,w5=[iV n6]∧cond (decide (n6<(l3:Int))) (∃ q7,p1=some q7∧∃ p8,ac H1 q7=some (pV p8)∧∃ q9,p8=some q9∧∃ p10,ac H1 q9=some (pV p10)∧((0:Int)<=n6∧n6<(l3:Int))∧∃ q11,a3=some q11∧∃ n12,ac H1 (q11.add (Int.toNat n6*1))=some (iV n12)∧cS 64 #[pV p10,iV n2,iV n6,iV n12] (fun v13 H2=>∃ n14,v13=iV n14∧True∧I4 [iV (wW (n6+1))] H2∧μ4 [iV (wW (n6+1))] H2<μ4 w5 H1) H1) (Q (.tuple #[]) H1)
theorem GP {p1:Option Addr}{n2:Int}{a3:Option Addr}{l3:Nat}{c3:Nat} (h:QU p1 n2 a3 l3 c3 Q H):ah PP 61 #[.pointer p1,.int .i64 n2,.slice a3 l3 c3] Q H :=
 aN good Tryz.func61 rfl (Ls:=fun | 1=>some [(6,3)] | _=>none) (by kernel_rfl) h
abbrev ME:Nat:=78
def Rn (p1:Option Addr) (Q:QT) (H:aj):Prop :=
 ah PP 120 #[pV p1,iV 19,iV 1] (fun v2 H1=>∃ n3,v2=iV n3∧cS 119 #[iV n3] (fun v4 H2=>∃ n5,v4=iV n5∧cS 118 #[pV p1,iV n5] (fun v6 H3=>∃ a7 l7 c7,v6=lV a7 l7 c7∧∃(I8:IT) (μ8:MT),I8 [lV none 0 0,iV 0] H3∧∀ w9 H4,I8 w9 H4->∀ _g:Nat->Value,∃ a10 l10 c10 n11,w9=[lV a10 l10 c10,iV n11]∧cond (decide ((wW (n11+1))<(l7:Int))) (((0:Int)<=n11∧n11<(l7:Int))∧∃ q12,a7=some q12∧∃ n13,ac H4 (q12.add (Int.toNat n11*1))=some (iV n13)∧cS 158 #[pV p1,iV n13] (fun v14 H5=>∃ s15,v14=sV s15∧bk PP (Builtin.append_ #[37,37] 37 #[lV a10 l10 c10,lV (some (A0 H5.size)) 1 1]) (fun v16 H6=>∃ a17 l17 c17,v16=lV a17 l17 c17∧I8 [lV a17 l17 c17,iV (wW (n11+2))] H6∧μ8 [lV a17 l17 c17,iV (wW (n11+2))] H6<μ8 w9 H4) (H5.push (.cells #[sV s15] 9))) H4) (Q (lV a10 l10 c10) H4)) H2) H1) H
theorem GZ {p1:Option Addr} (h:Rn p1 Q H):ah PP 78 #[.pointer p1] Q H :=
 aN good Tryz.func78 rfl (Ls:=fun | 4=>some [(4,37),(5,3)] | _=>none) (by kernel_rfl) h
abbrev Iv:Nat:=103
def P4 (p1:Option Addr) (s2:ByteArray) (s3:ByteArray) (a4:Option Addr) (l4:Nat) (c4:Nat) (Q:QT) (H:aj):Prop :=
 ah PP 208 #[pV p1,sV s2,sV s3,lV a4 l4 c4] (fun v5 H1=>∃ n6 n7,v5=.tuple #[iV n6,iV n7]∧cond (n7 != 0) (Q (.tuple #[iV 0,iV n7]) H1) (cS 116 #[pV p1] (fun v8 H2=>∃ p9,v8=pV p9∧cS 209 #[pV p1,sV s2,iV n6,lV a4 l4 c4] (fun v10 H3=>∃ n11 n12,v10=.tuple #[iV n11,iV n12]∧cS 123 #[pV p1,pV p9,iV n12] (fun v13 H4=>∃ n14,v13=iV n14∧cond (n14 != 0) (Q (.tuple #[iV 0,iV n14]) H4) (Q (.tuple #[iV n11,iV 0]) H4)) H3) H2) H1)) H
theorem Di {p1:Option Addr}{s2:ByteArray}{s3:ByteArray}{a4:Option Addr}{l4:Nat}{c4:Nat} (h:P4 p1 s2 s3 a4 l4 c4 Q H):ah PP 103 #[.pointer p1,.string s2,.string s3,.slice a4 l4 c4] Q H :=
 okF Tryz.func103 rfl h
abbrev EF:Nat:=105
def Qc (p1:Option Addr) (n2:Int) (n3:Int) (Q:QT) (H:aj):Prop :=
 ah PP 106 #[pV p1,iV n2] (fun v4 H1=>∃ n5 n6,v4=.tuple #[iV n5,iV n6]∧cond (n6 != 0) (Q (iV n6) H1) (cS 210 #[iV n3] (fun v7 H2=>∃ b8,v7=.bool b8∧cond (!b8) (Q (iV 10) H2) (∃ q9,p1=some q9∧∃ p10,ac H2 q9=some (pV p10)∧∃ q11,p10=some q11∧∃ p12,ac H2 q11=some (pV p12)∧cS 120 #[pV p1,iV 19,iV 1] (fun v13 H3=>∃ n14,v13=iV n14∧((ac H3 q11=some (pV p12)∧True)∧((ac H3 q9=some (pV p10)∧True)∧True))∧cS 119 #[iV n14] (fun v15 H4=>∃ n16,v15=iV n16∧((ac H4 q11=some (pV p12)∧True)∧((ac H4 q9=some (pV p10)∧True)∧True))∧cS 64 #[pV p12,iV n16,iV (wW ((wW (2*n2))+1)),iV n3] (fun v17 H5=>∃ n18,v17=iV n18∧True∧Q (iV n18) H5) H4) H3) H2)) H1)) H
theorem AE {p1:Option Addr}{n2:Int}{n3:Int} (h:Qc p1 n2 n3 Q H):ah PP 105 #[.pointer p1,.int .i64 n2,.int .i64 n3] Q H :=
 okF Tryz.func105 rfl h
abbrev EM:Nat:=106
def Mx (p1:Option Addr) (n2:Int) (Q:QT) (H:aj):Prop :=
 cond (decide (n2<0)) (Q (.tuple #[iV 0,iV 1]) H) (cS 78 #[pV p1] (fun v3 H1=>∃ a4 l4 c4,v3=lV a4 l4 c4∧cond (decide (n2 ≥ (l4:Int))) (Q (.tuple #[iV 0,iV 1]) H1) (cS 120 #[pV p1,iV 19,iV 1] (fun v5 H2=>∃ n6,v5=iV n6∧cS 119 #[iV n6] (fun v7 H3=>∃ n8,v7=iV n8∧cS 120 #[pV p1,iV n8,iV (wW ((wW (2*n2))+1))] (fun v9 H4=>∃ n10,v9=iV n10∧Q (.tuple #[iV n10,iV 0]) H4) H3) H2) H1)) H)
theorem BU {p1:Option Addr}{n2:Int} (h:Mx p1 n2 Q H):ah PP 106 #[.pointer p1,.int .i64 n2] Q H :=
 okF Tryz.func106 rfl h
abbrev GR:Nat:=110
def N4 (p1:Option Addr) (s2:ByteArray) (Q:QT) (H:aj):Prop :=
 ah PP 40 #[pV p1] (fun v3 H1=>∃ a4 l4 c4,v3=lV a4 l4 c4∧∃(I5:IT) (μ5:MT),I5 [iV 0] H1∧∀ w6 H2,I5 w6 H2->∀ _g:Nat->Value,∃ n7,w6=[iV n7]∧cond (decide (n7<(l4:Int))) (((0:Int)<=n7∧n7<(l4:Int))∧∃ q8,a4=some q8∧∃ n9,ac H2 (q8.add (Int.toNat n7*1))=some (iV n9)∧cS 120 #[pV p1,iV n9,iV 0] (fun v10 H3=>∃ n11,v10=iV n11∧cS 158 #[pV p1,iV n11] (fun v12 H4=>∃ s13,v12=sV s13∧cond (cQ s13 s2) (((0:Int)<=n7∧n7<(l4:Int))∧∃ q14,a4=some q14∧∃ n15,ac H4 (q14.add (Int.toNat n7*1))=some (iV n15)∧Q (.tuple #[iV n15,iV 0]) H4) (I5 [iV (wW (n7+1))] H4∧μ5 [iV (wW (n7+1))] H4<μ5 w6 H2)) H3) H2) (Q (.tuple #[iV 0,iV 130]) H2)) H
theorem B8 {p1:Option Addr}{s2:ByteArray} (h:N4 p1 s2 Q H):ah PP 110 #[.pointer p1,.string s2] Q H :=
 aN good Tryz.func110 rfl (Ls:=fun | 3=>some [(7,3)] | _=>none) (by kernel_rfl) h
abbrev Ff:Nat:=115
def M1 (p1:Option Addr) (s2:ByteArray) (Q:QT) (H:aj):Prop :=
 ah PP 110 #[pV p1,sV s2] (fun v3 H1=>∃ n4 n5,v3=.tuple #[iV n4,iV n5]∧cS 78 #[pV p1] (fun v6 H2=>∃ a7 l7 c7,v6=lV a7 l7 c7∧∃(I8:IT) (μ8:MT),I8 [iV 0] H2∧∀ w9 H3,I8 w9 H3->∀ _g:Nat->Value,∃ n10,w9=[iV n10]∧cond (decide (n10<(l7:Int))) (((0:Int)<=n10∧n10<(l7:Int))∧∃ q11,a7=some q11∧∃ s12,ac H3 (q11.add (Int.toNat n10*1))=some (sV s12)∧cond (cQ s12 s2) (Q (.bool true) H3) (I8 [iV (wW (n10+1))] H3∧μ8 [iV (wW (n10+1))] H3<μ8 w9 H3)) (Q (.bool (n5 == 0)) H3)) H1) H
theorem Ct {p1:Option Addr}{s2:ByteArray} (h:M1 p1 s2 Q H):ah PP 115 #[.pointer p1,.string s2] Q H :=
 aN good Tryz.func115 rfl (Ls:=fun | 4=>some [(8,3)] | _=>none) (by kernel_rfl) h
abbrev HI:Nat:=116
def Pu (p1:Option Addr) (Q:QT) (H:aj):Prop :=
 ∃ q2,p1=some q2∧∃ p3,ac H (q2.add 1)=some (pV p3)∧∃ q4,p1=some q4∧∃ p5,ac H q4=some (pV p5)∧∃ q6,p5=some q6∧∃ p7,ac H q6=some (pV p7)∧∃ q8,p1=some q8∧∃ p9,ac H q8=some (pV p9)∧∃ q10,p9=some q10∧∃ a11 l11 c11,ac H (q10.add 2)=some (lV a11 l11 c11)∧cS 214 #[pV p3] (fun v12 H1=>∃ n13,v12=iV n13∧((ac H1 (q10.add 2)=some (lV a11 l11 c11)∧True)∧((ac H1 q8=some (pV p9)∧True)∧((ac H1 q6=some (pV p7)∧True)∧((ac H1 q4=some (pV p5)∧True)∧True))))∧cS 82 #[pV p7] (fun v14 H2=>∃ n15,v14=iV n15∧((ac H2 (q10.add 2)=some (lV a11 l11 c11)∧True)∧((ac H2 q8=some (pV p9)∧True)∧True))∧True∧Q (pV (some (A0 H2.size))) (H2.push (.cells #[iV n13,iV n15,iV (l11:Int)] 257))) H1) H
theorem CA {p1:Option Addr} (h:Pu p1 Q H):ah PP 116 #[.pointer p1] Q H :=
 okF Tryz.func116 rfl h
abbrev KK:Nat:=117
def PF (p1:Option Addr) (a2:Option Addr) (l2:Nat) (_c2:Nat) (Q:QT) (H:aj):Prop :=
 ∃(I3:IT) (μ3:MT),I3 [lV none 0 0,iV 0] H∧∀ w4 H1,I3 w4 H1->∀ _g:Nat->Value,∃ a5 l5 c5 n6,w4=[lV a5 l5 c5,iV n6]∧cond (decide (n6<(l2:Int))) (∃ q7,p1=some q7∧∃ p8,ac H1 (q7.add 1)=some (pV p8)∧((0:Int)<=n6∧n6<(l2:Int))∧∃ q9,a2=some q9∧∃ s10,ac H1 (q9.add (Int.toNat n6*1))=some (sV s10)∧cS 60 #[pV p8,sV s10] (fun v11 H2=>∃ n12 n13,v11=.tuple #[iV n12,iV n13]∧True∧cond (n13 != 0) (Q (.tuple #[lV none 0 0,iV n13]) H2) (cS 62 #[iV n12] (fun v14 H3=>∃ n15,v14=iV n15∧bk PP (Builtin.append_ #[108,108] 108 #[lV a5 l5 c5,lV (some (A0 H3.size)) 1 1]) (fun v16 H4=>∃ a17 l17 c17,v16=lV a17 l17 c17∧I3 [lV a17 l17 c17,iV (wW (n6+1))] H4∧μ3 [lV a17 l17 c17,iV (wW (n6+1))] H4<μ3 w4 H1) (H3.push (.cells #[iV n15] 36))) H2)) H1) (Q (.tuple #[lV a5 l5 c5,iV 0]) H1)
theorem zZ {p1:Option Addr}{a2:Option Addr}{l2:Nat}{c2:Nat} (h:PF p1 a2 l2 c2 Q H):ah PP 117 #[.pointer p1,.slice a2 l2 c2] Q H :=
 aN good Tryz.func117 rfl (Ls:=fun | 3=>some [(6,108),(7,3)] | _=>none) (by kernel_rfl) h
abbrev FV:Nat:=118
def L7 (p1:Option Addr) (n2:Int) (Q:QT) (H:aj):Prop :=
 ∃ q3,p1=some q3∧∃ p4,ac H q3=some (pV p4)∧∃ q5,p4=some q5∧∃ p6,ac H q5=some (pV p6)∧cS 201 #[pV p6,iV n2] (fun v7 H1=>∃ n8 n9 n10,v7=.tuple #[iV n8,iV n9,iV n10]∧∃(I11:IT) (μ11:MT),I11 [lV none 0 0,iV 0] H1∧∀ w12 H2,I11 w12 H2->∀ _g:Nat->Value,∃ a13 l13 c13 n14,w12=[lV a13 l13 c13,iV n14]∧cond (decide (n14<n8)) (cS 120 #[pV p1,iV n2,iV n14] (fun v15 H3=>∃ n16,v15=iV n16∧bk PP (Builtin.append_ #[108,108] 108 #[lV a13 l13 c13,lV (some (A0 H3.size)) 1 1]) (fun v17 H4=>∃ a18 l18 c18,v17=lV a18 l18 c18∧I11 [lV a18 l18 c18,iV (wW (n14+1))] H4∧μ11 [lV a18 l18 c18,iV (wW (n14+1))] H4<μ11 w12 H2) (H3.push (.cells #[iV n16] 36))) H2) (Q (lV a13 l13 c13) H2)) H
theorem Bu {p1:Option Addr}{n2:Int} (h:L7 p1 n2 Q H):ah PP 118 #[.pointer p1,.int .i64 n2] Q H :=
 aN good Tryz.func118 rfl (Ls:=fun | 4=>some [(8,108),(9,3)] | _=>none) (by kernel_rfl) h
abbrev tT:Nat:=120
def Ns (p1:Option Addr) (n2:Int) (n3:Int) (Q:QT) (H:aj):Prop :=
 ∃ q4,p1=some q4∧∃ p5,ac H q4=some (pV p5)∧∃ q6,p5=some q6∧∃ p7,ac H q6=some (pV p7)∧cS 215 #[pV p7,iV n2,iV n3] (fun v8 H1=>∃ n9 n10,v8=.tuple #[iV n9,iV n10]∧Q (iV n9) H1) H
theorem CS {p1:Option Addr}{n2:Int}{n3:Int} (h:Ns p1 n2 n3 Q H):ah PP 120 #[.pointer p1,.int .i64 n2,.int .i64 n3] Q H :=
 okF Tryz.func120 rfl h
abbrev yQ:Nat:=121
def KC (p1:Option Addr) (n2:Int) (a3:Option Addr) (l3:Nat) (c3:Nat) (Q:QT) (H:aj):Prop :=
 ∃ J4:IT,(cond (n2 == 11) (cond ((l3:Int) == 0) (cS 59 #[iV 18] (fun v5 H1=>∃ n6,v5=iV n6∧Q (.tuple #[iV n6,iV 0]) H1) H) (J4 [] H)) (J4 [] H))∧∀ w7 H2,J4 w7 H2->∀ _g:Nat->Value,w7=[]∧∃ q8,p1=some q8∧∃ p9,ac H2 q8=some (pV p9)∧cS 59 #[iV n2] (fun v10 H3=>∃ n11,v10=iV n11∧((ac H3 q8=some (pV p9)∧True)∧True)∧cS 216 #[pV p9,iV n11,iV (l3:Int),iV 0] (fun v12 H4=>∃ n13 n14,v12=.tuple #[iV n13,iV n14]∧True∧cond (n14 != 0) (Q (.tuple #[iV 0,iV n14]) H4) (cS 119 #[iV n13] (fun v15 H5=>∃ n16,v15=iV n16∧cS 61 #[pV p1,iV n16,lV a3 l3 c3] (fun v17 H6=>v17=.tuple #[]∧∃ q18,p1=some q18∧∃ p19,ac H6 q18=some (pV p19)∧cS 217 #[pV p19,lV (some (A0 H6.size)) 1 1] (fun v20 H7=>∃ n21,v20=iV n21∧Q (.tuple #[iV n13,iV n21]) H7) (H6.push (.cells #[iV n13] 36))) H5) H4)) H3) H2
theorem vH {p1:Option Addr}{n2:Int}{a3:Option Addr}{l3:Nat}{c3:Nat} (h:KC p1 n2 a3 l3 c3 Q H):ah PP 121 #[.pointer p1,.int .i64 n2,.slice a3 l3 c3] Q H :=
 aN good Tryz.func121 rfl (Ls:=fun | 1003=>some [] | _=>none) (by kernel_rfl) h
abbrev xH:Nat:=123
def P5 (p1:Option Addr) (p2:Option Addr) (n3:Int) (Q:QT) (H:aj):Prop :=
 ∃ q4,p1=some q4∧∃ p5,ac H q4=some (pV p5)∧∃ q6,p1=some q6∧∃ p7,ac H q6=some (pV p7)∧∃ q8,p7=some q8∧∃ a9 l9 c9,ac H (q8.add 2)=some (lV a9 l9 c9)∧∃ q10,p2=some q10∧∃ n11,ac H (q10.add 2)=some (iV n11)∧cS 218 #[pV p5,iV (wW ((l9:Int)-n11))] (fun v12 H1=>∃ n13,v12=iV n13∧True∧cond (n3 == 0) (Q (iV 0) H1) (∃ q14,p1=some q14∧∃ p15,ac H1 (q14.add 1)=some (pV p15)∧∃ q16,p2=some q16∧∃ n17,ac H1 q16=some (iV n17)∧cS 219 #[pV p15,iV n17] (fun v18 H2=>∃ n19,v18=iV n19∧True∧cond (n3 != 24) (∃ q20,p1=some q20∧∃ p21,ac H2 q20=some (pV p21)∧∃ q22,p21=some q22∧∃ p23,ac H2 q22=some (pV p23)∧∃ q24,p2=some q24∧∃ n25,ac H2 (q24.add 1)=some (iV n25)∧cS 107 #[pV p23,iV n25] (fun v26 H3=>∃ n27,v26=iV n27∧True∧Q (iV n3) H3) H2) (Q (iV n3) H2)) H1)) H
theorem Ax {p1:Option Addr}{p2:Option Addr}{n3:Int} (h:P5 p1 p2 n3 Q H):ah PP 123 #[.pointer p1,.pointer p2,.int .i64 n3] Q H :=
 okF Tryz.func123 rfl h
abbrev GJ:Nat:=125
def NW (p1:Option Addr) (n2:Int) (Q:QT) (H:aj):Prop :=
 ah PP 220 #[pV p1,iV n2] (fun v3 H1=>∃ n4,v3=iV n4∧cond (n4 == 0) (Q (.tuple #[lV none 0 0,iV 130]) H1) (cS 223 #[pV p1] (fun v5 H2=>∃ a6 l6 c6,v5=lV a6 l6 c6∧cS 222 #[lV a6 l6 c6,iV (wW (n4-1)),iV (-1),lV none 0 0] (fun v7 H3=>∃ a8 l8 c8,v7=lV a8 l8 c8∧Q (.tuple #[lV a8 l8 c8,iV 0]) H3) H2) H1)) H
theorem BX {p1:Option Addr}{n2:Int} (h:NW p1 n2 Q H):ah PP 125 #[.pointer p1,.int .i64 n2] Q H :=
 okF Tryz.func125 rfl h
abbrev tO:Nat:=158
def Lq (p1:Option Addr) (n2:Int) (Q:QT) (H:aj):Prop :=
 cond ((Int.tmod n2 4) != 2) (Q (sV (⟨#[]⟩:ByteArray)) H) (∃ q3,p1=some q3∧∃ p4,ac H (q3.add 1)=some (pV p4)∧cS 241 #[pV p4,iV (wW (Int.tdiv (wW (n2-2)) 4))] (fun v5 H1=>∃ s6 n7,v5=.tuple #[sV s6,iV n7]∧Q (sV s6) H1) H)
theorem AY {p1:Option Addr}{n2:Int} (h:Lq p1 n2 Q H):ah PP 158 #[.pointer p1,.int .i64 n2] Q H :=
 okF Tryz.func158 rfl h
abbrev E6:Nat:=189
def MU (p1:Option Addr) (n2:Int) (Q:QT) (H:aj):Prop :=
 ah PP 220 #[pV p1,iV n2] (fun v3 H1=>∃ n4,v3=iV n4∧cond (n4 == 0) (Q (.tuple #[iV 0,iV 130]) H1) (Q (.tuple #[iV n4,iV 0]) H1)) H
theorem Cl {p1:Option Addr}{n2:Int} (h:MU p1 n2 Q H):ah PP 189 #[.pointer p1,.int .i64 n2] Q H :=
 okF Tryz.func189 rfl h
abbrev Hx:Nat:=191
def Pk (p1:Option Addr) (n2:Int) (Q:QT) (H:aj):Prop :=
 ah PP 220 #[pV p1,iV n2] (fun v3 H1=>∃ n4,v3=iV n4∧cond (n4 == 0) (Q (.tuple #[iV 0,iV 130]) H1) (cS 224 #[pV p1,iV n2] (fun v5 H2=>∃ n6,v5=iV n6∧Q (.tuple #[iV n6,iV 0]) H2) H1)) H
theorem Cv {p1:Option Addr}{n2:Int} (h:Pk p1 n2 Q H):ah PP 191 #[.pointer p1,.int .i64 n2] Q H :=
 okF Tryz.func191 rfl h
abbrev FK:Nat:=208
def LV (p1:Option Addr) (s2:ByteArray) (s3:ByteArray) (a4:Option Addr) (l4:Nat) (_c4:Nat) (Q:QT) (H:aj):Prop :=
 ah PP 114 #[sV s2] (fun v5 H1=>∃ b6,v5=.bool b6∧cond (!b6) (Q (.tuple #[iV 0,iV 133]) H1) (cS 115 #[pV p1,sV s2] (fun v7 H2=>∃ b8,v7=.bool b8∧cond b8 (Q (.tuple #[iV 0,iV 131]) H2) (cS 110 #[pV p1,sV s3] (fun v9 H3=>∃ n10 n11,v9=.tuple #[iV n10,iV n11]∧cond (n11 != 0) (Q (.tuple #[iV 0,iV 130]) H3) (cS 220 #[pV p1,iV n10] (fun v12 H4=>∃ n13,v12=iV n13∧∃ J14:IT,(cond (decide (n13 > 1)) (cond (decide (n13<=14)) (Q (.tuple #[iV 0,iV 132]) H4) (J14 [] H4)) (J14 [] H4))∧∀ w15 H5,J14 w15 H5->∀ _g:Nat->Value,w15=[]∧cS 125 #[pV p1,iV n10] (fun v16 H6=>∃ a17 l17 c17 n18,v16=.tuple #[lV a17 l17 c17,iV n18]∧∃(I19:IT) (μ19:MT),I19 [iV 0] H6∧∀ w20 H7,I19 w20 H7->∀ _g:Nat->Value,∃ n21,w20=[iV n21]∧cond (decide (n21<(l4:Int))) (((0:Int)<=n21∧n21<(l4:Int))∧∃ q22,a4=some q22∧∃ s23,ac H7 (q22.add (Int.toNat n21*1))=some (sV s23)∧cS 260 #[sV s23] (fun v24 H8=>∃ b25,v24=.bool b25∧cond (!b25) (Q (.tuple #[iV 0,iV 133]) H8) (∃(I26:IT) (μ26:MT),I26 [iV 0] H8∧∀ w27 H9,I26 w27 H9->∀ _g:Nat->Value,∃ n28,w27=[iV n28]∧cond (decide (n28<n21)) (((0:Int)<=n28∧n28<(l4:Int))∧∃ q29,a4=some q29∧∃ s30,ac H9 (q29.add (Int.toNat n28*1))=some (sV s30)∧((0:Int)<=n21∧n21<(l4:Int))∧∃ q31,a4=some q31∧∃ s32,ac H9 (q31.add (Int.toNat n21*1))=some (sV s32)∧cond (cQ s30 s32) (Q (.tuple #[iV 0,iV 134]) H9) (I26 [iV (wW (n28+1))] H9∧μ26 [iV (wW (n28+1))] H9<μ26 w27 H9)) (∃(I33:IT) (μ33:MT),I33 [iV 0] H9∧∀ w34 H10,I33 w34 H10->∀ _g:Nat->Value,∃ n35,w34=[iV n35]∧cond (decide (n35<(l17:Int))) (((0:Int)<=n35∧n35<(l17:Int))∧∃ q36,a17=some q36∧∃ s37,ac H10 (q36.add (Int.toNat n35*1))=some (sV s37)∧((0:Int)<=n21∧n21<(l4:Int))∧∃ q38,a4=some q38∧∃ s39,ac H10 (q38.add (Int.toNat n21*1))=some (sV s39)∧cond (cQ s37 s39) (Q (.tuple #[iV 0,iV 135]) H10) (I33 [iV (wW (n35+1))] H10∧μ33 [iV (wW (n35+1))] H10<μ33 w34 H10)) (I19 [iV (wW (n21+1))] H10∧μ19 [iV (wW (n21+1))] H10<μ19 w20 H7)))) H7) (cond (decide ((wW ((l17:Int)+(l4:Int))) > 32)) (Q (.tuple #[iV 0,iV 137]) H7) (cS 40 #[pV p1] (fun v40 H11=>∃ a41 l41 c41,v40=lV a41 l41 c41∧cond (decide ((l41:Int) ≥ 256)) (Q (.tuple #[iV 0,iV 138]) H11) (Q (.tuple #[iV n10,iV 0]) H11)) H7))) H5) H3)) H2)) H1)) H
theorem Bn {p1:Option Addr}{s2:ByteArray}{s3:ByteArray}{a4:Option Addr}{l4:Nat}{c4:Nat} (h:LV p1 s2 s3 a4 l4 c4 Q H):ah PP 208 #[.pointer p1,.string s2,.string s3,.slice a4 l4 c4] Q H :=
 aN good Tryz.func208 rfl (Ls:=fun | 1011=>some [] | 13=>some [(15,3)] | 18=>some [(16,3)] | 23=>some [(17,3)] | _=>none) (by kernel_rfl) h
abbrev FX:Nat:=209
def Nj (p1:Option Addr) (s2:ByteArray) (n3:Int) (a4:Option Addr) (l4:Nat) (c4:Nat) (Q:QT) (H:aj):Prop :=
 ah PP 117 #[pV p1,lV (some (A0 H.size)) 1 1] (fun v5 H1=>∃ a6 l6 c6 n7,v5=.tuple #[lV a6 l6 c6,iV n7]∧cond (n7 != 0) (Q (.tuple #[iV 0,iV n7]) H1) (cS 117 #[pV p1,lV a4 l4 c4] (fun v8 H2=>∃ a9 l9 c9 n10,v8=.tuple #[lV a9 l9 c9,iV n10]∧cond (n10 != 0) (Q (.tuple #[iV 0,iV n10]) H2) (cS 121 #[pV p1,iV 11,lV a9 l9 c9] (fun v11 H3=>∃ n12 n13,v11=.tuple #[iV n12,iV n13]∧cond (n13 != 0) (Q (.tuple #[iV 0,iV n13]) H3) (cS 120 #[pV p1,iV 19,iV 0] (fun v14 H4=>∃ n15,v14=iV n15∧cS 119 #[iV n15] (fun v16 H5=>∃ n17,v16=iV n17∧cS 118 #[pV p1,iV n17] (fun v18 H6=>∃ a19 l19 c19,v18=lV a19 l19 c19∧((0:Int)<=0∧0<(l6:Int))∧∃ q20,a6=some q20∧∃ n21,ac H6 (q20.add (Int.toNat 0*1))=some (iV n21)∧cS 59 #[iV n3] (fun v22 H7=>∃ n23,v22=iV n23∧((ac H7 (q20.add (Int.toNat 0*1))=some (iV n21)∧True)∧True)∧cS 59 #[iV 18] (fun v24 H8=>∃ n25,v24=iV n25∧((ac H8 (q20.add (Int.toNat 0*1))=some (iV n21)∧True)∧True)∧cS 59 #[iV 18] (fun v26 H9=>∃ n27,v26=iV n27∧((ac H9 (q20.add (Int.toNat 0*1))=some (iV n21)∧True)∧True)∧cS 63 #[iV 0] (fun v28 H10=>∃ n29,v28=iV n29∧((ac H10 (q20.add (Int.toNat 0*1))=some (iV n21)∧True)∧True)∧cS 63 #[iV (wW ((l19:Int)+1))] (fun v30 H11=>∃ n31,v30=iV n31∧((ac H11 (q20.add (Int.toNat 0*1))=some (iV n21)∧True)∧True)∧True∧cS 121 #[pV p1,iV 12,lV (some (A0 H11.size)) 7 7] (fun v32 H12=>∃ n33 n34,v32=.tuple #[iV n33,iV n34]∧True∧cond (n34 != 0) (Q (.tuple #[iV 0,iV n34]) H12) (bk PP (Builtin.append_ #[108,108] 108 #[lV a19 l19 c19,lV (some (A0 H12.size)) 1 1]) (fun v35 H13=>∃ a36 l36 c36,v35=lV a36 l36 c36∧cS 121 #[pV p1,iV 11,lV a36 l36 c36] (fun v37 H14=>∃ n38 n39,v37=.tuple #[iV n38,iV n39]∧cond (n39 != 0) (Q (.tuple #[iV 0,iV n39]) H14) (∃ q40,p1=some q40∧∃ p41,ac H14 q40=some (pV p41)∧cS 122 #[pV p41,iV 0,iV n38] (fun v42 H15=>∃ n43,v42=iV n43∧cS 119 #[iV n33] (fun v44 H16=>∃ n45,v44=iV n45∧Q (.tuple #[iV n45,iV 0]) H16) H15) H14)) H13) (H12.push (.cells #[iV n33] 36)))) (H11.push (.cells #[iV n21,iV n23,iV n12,iV n25,iV n27,iV n29,iV n31] 36))) H10) H9) H8) H7) H6) H5) H4) H3)) H2)) H1)) (H.push (.cells #[sV s2] 9))
theorem CK {p1:Option Addr}{s2:ByteArray}{n3:Int}{a4:Option Addr}{l4:Nat}{c4:Nat} (h:Nj p1 s2 n3 a4 l4 c4 Q H):ah PP 209 #[.pointer p1,.string s2,.int .i64 n3,.slice a4 l4 c4] Q H :=
 okF Tryz.func209 rfl h
abbrev Ig:Nat:=220
def PR (p1:Option Addr) (n2:Int) (Q:QT) (H:aj):Prop :=
 ah PP 40 #[pV p1] (fun v3 H1=>∃ a4 l4 c4,v3=lV a4 l4 c4∧∃(I5:IT) (μ5:MT),I5 [iV 0] H1∧∀ w6 H2,I5 w6 H2->∀ _g:Nat->Value,∃ n7,w6=[iV n7]∧cond (decide (n7<(l4:Int))) (((0:Int)<=n7∧n7<(l4:Int))∧∃ q8,a4=some q8∧∃ n9,ac H2 (q8.add (Int.toNat n7*1))=some (iV n9)∧cond (n9 == n2) (cond (decide (n2 > 0)) (Q (iV (wW (n7+1))) H2) (I5 [iV (wW (n7+1))] H2∧μ5 [iV (wW (n7+1))] H2<μ5 w6 H2)) (I5 [iV (wW (n7+1))] H2∧μ5 [iV (wW (n7+1))] H2<μ5 w6 H2)) (Q (iV 0) H2)) H
theorem CT {p1:Option Addr}{n2:Int} (h:PR p1 n2 Q H):ah PP 220 #[.pointer p1,.int .i64 n2] Q H :=
 aN good Tryz.func220 rfl (Ls:=fun | 3=>some [(6,3)] | _=>none) (by kernel_rfl) h
abbrev Er:Nat:=221
def PY (p1:Option Addr) (n2:Int) (Q:QT) (H:aj):Prop :=
 ah PP 120 #[pV p1,iV n2,iV 0] (fun v3 H1=>∃ n4,v3=iV n4∧cS 158 #[pV p1,iV n4] (fun v5 H2=>∃ s6,v5=sV s6∧cS 120 #[pV p1,iV n2,iV 2] (fun v7 H3=>∃ n8,v7=iV n8∧cS 119 #[iV n8] (fun v9 H4=>∃ n10,v9=iV n10∧cS 264 #[pV p1,iV n10] (fun v11 H5=>∃ a12 l12 c12,v11=lV a12 l12 c12∧cS 120 #[pV p1,iV n2,iV 5] (fun v13 H6=>∃ n14,v13=iV n14∧cS 265 #[iV n14] (fun v15 H7=>shH (H7.push (.cells #[sV (⟨#[]⟩:ByteArray),sV (⟨#[]⟩:ByteArray),lV none 0 0,iV 0] 121)) fun C8=>shH (au C8 (A0 H7.size) (sV s6)) fun C3=>shH (au C3 ((A0 H7.size).add 1) (sV (⟨#[]⟩:ByteArray))) fun C7=>∃ n16,v15=iV n16∧Wr C8 (A0 H7.size)∧Wr C3 ((A0 H7.size).add 1)∧Wr C7 ((A0 H7.size).add 2)∧Wr (au C7 ((A0 H7.size).add 2) (lV a12 l12 c12)) ((A0 H7.size).add 3)∧cS 224 #[pV p1,iV n2] (fun v17 H8=>∃ n18,v17=iV n18∧cond (n18 != 0) (cS 120 #[pV p1,iV n18,iV 0] (fun v19 H9=>∃ n20,v19=iV n20∧cS 158 #[pV p1,iV n20] (fun v21 H10=>∃ s22:ByteArray,shH (au H10 ((A0 H7.size).add 1) (sV s22)) fun C4=>v21=sV s22∧Wr H10 ((A0 H7.size).add 1)∧∃ s23,ac C4 (A0 H7.size)=some (sV s23)∧∃ s24:ByteArray,shH (au (au C4 (A0 H.size) (sV s23)) ((A0 H.size).add 1) (sV s24)) fun C5=>ac C4 ((A0 H7.size).add 1)=some (sV s24)∧∃ a25 l25 c25,ac C4 ((A0 H7.size).add 2)=some (lV a25 l25 c25)∧∃ n26:Int,shH (au (au C5 ((A0 H.size).add 2) (lV a25 l25 c25)) ((A0 H.size).add 3) (iV n26)) fun C1=>ac C4 ((A0 H7.size).add 3)=some (iV n26)∧Wr C4 (A0 H.size)∧Wr (au C4 (A0 H.size) (sV s23)) ((A0 H.size).add 1)∧Wr C5 ((A0 H.size).add 2)∧Wr (au C5 ((A0 H.size).add 2) (lV a25 l25 c25)) ((A0 H.size).add 3)∧∃ s27,ac C1 (A0 H.size)=some (sV s27)∧∃ s28,ac C1 ((A0 H.size).add 1)=some (sV s28)∧∃ a29 l29 c29,ac C1 ((A0 H.size).add 2)=some (lV a29 l29 c29)∧∃ n30,ac C1 ((A0 H.size).add 3)=some (iV n30)∧Q (.agg #[sV s27,sV s28,lV a29 l29 c29,iV n30]) C1) H9) H8) (∃ s31,ac H8 (A0 H7.size)=some (sV s31)∧∃ s32:ByteArray,shH (au (au H8 (A0 H.size) (sV s31)) ((A0 H.size).add 1) (sV s32)) fun C6=>ac H8 ((A0 H7.size).add 1)=some (sV s32)∧∃ a33 l33 c33,ac H8 ((A0 H7.size).add 2)=some (lV a33 l33 c33)∧∃ n34:Int,shH (au (au C6 ((A0 H.size).add 2) (lV a33 l33 c33)) ((A0 H.size).add 3) (iV n34)) fun C2=>ac H8 ((A0 H7.size).add 3)=some (iV n34)∧Wr H8 (A0 H.size)∧Wr (au H8 (A0 H.size) (sV s31)) ((A0 H.size).add 1)∧Wr C6 ((A0 H.size).add 2)∧Wr (au C6 ((A0 H.size).add 2) (lV a33 l33 c33)) ((A0 H.size).add 3)∧∃ s35,ac C2 (A0 H.size)=some (sV s35)∧∃ s36,ac C2 ((A0 H.size).add 1)=some (sV s36)∧∃ a37 l37 c37,ac C2 ((A0 H.size).add 2)=some (lV a37 l37 c37)∧∃ n38,ac C2 ((A0 H.size).add 3)=some (iV n38)∧Q (.agg #[sV s35,sV s36,lV a37 l37 c37,iV n38]) C2)) (au (au C7 ((A0 H7.size).add 2) (lV a12 l12 c12)) ((A0 H7.size).add 3) (iV n16))) H6) H5) H4) H3) H2) H1) (H.push (.cells #[sV (⟨#[]⟩:ByteArray),sV (⟨#[]⟩:ByteArray),lV none 0 0,iV 0] 121))
theorem Ap {p1:Option Addr}{n2:Int} (h:PY p1 n2 Q H):ah PP 221 #[.pointer p1,.int .i64 n2] Q H :=
 okF Tryz.func221 rfl h
abbrev Gx:Nat:=223
def Mo (p1:Option Addr) (Q:QT) (H:aj):Prop :=
 ah PP 40 #[pV p1] (fun v2 H1=>∃ a3 l3 c3,v2=lV a3 l3 c3∧∃(I4:IT) (μ4:MT),I4 [lV none 0 0,iV 0] H1∧∀ w5 H2,I4 w5 H2->∀ _g:Nat->Value,∃ a6 l6 c6 n7,w5=[lV a6 l6 c6,iV n7]∧cond (decide (n7<(l3:Int))) (((0:Int)<=n7∧n7<(l3:Int))∧∃ q8,a3=some q8∧∃ n9,ac H2 (q8.add (Int.toNat n7*1))=some (iV n9)∧cS 221 #[pV p1,iV n9] (fun v10 H3=>∃ s11 s12 a13 l13 c13 n14,v10=.agg #[sV s11,sV s12,lV a13 l13 c13,iV n14]∧bk PP (Builtin.append_ #[40,40] 40 #[lV a6 l6 c6,lV (some (A0 H3.size)) 1 1]) (fun v15 H4=>∃ a16 l16 c16,v15=lV a16 l16 c16∧I4 [lV a16 l16 c16,iV (wW (n7+1))] H4∧μ4 [lV a16 l16 c16,iV (wW (n7+1))] H4<μ4 w5 H2) (H3.push (.cells #[sV s11,sV s12,lV a13 l13 c13,iV n14] 121))) H2) (Q (lV a6 l6 c6) H2)) H
theorem BK {p1:Option Addr} (h:Mo p1 Q H):ah PP 223 #[.pointer p1] Q H :=
 aN good Tryz.func223 rfl (Ls:=fun | 4=>some [(4,40),(5,3)] | _=>none) (by kernel_rfl) h
abbrev yp:Nat:=224
def NP (p1:Option Addr) (n2:Int) (Q:QT) (H:aj):Prop :=
 ah PP 120 #[pV p1,iV n2,iV 1] (fun v3 H1=>∃ n4,v3=iV n4∧cS 119 #[iV n4] (fun v5 H2=>∃ n6,v5=iV n6∧cond (n6 == 1) (Q (iV 0) H2) (Q (iV n6) H2)) H1) H
theorem Dp {p1:Option Addr}{n2:Int} (h:NP p1 n2 Q H):ah PP 224 #[.pointer p1,.int .i64 n2] Q H :=
 okF Tryz.func224 rfl h
abbrev IP:Nat:=264
def Qi (p1:Option Addr) (n2:Int) (Q:QT) (H:aj):Prop :=
 ah PP 118 #[pV p1,iV n2] (fun v3 H1=>∃ a4 l4 c4,v3=lV a4 l4 c4∧∃(I5:IT) (μ5:MT),I5 [lV none 0 0,iV 0] H1∧∀ w6 H2,I5 w6 H2->∀ _g:Nat->Value,∃ a7 l7 c7 n8,w6=[lV a7 l7 c7,iV n8]∧cond (decide (n8<(l4:Int))) (((0:Int)<=n8∧n8<(l4:Int))∧∃ q9,a4=some q9∧∃ n10,ac H2 (q9.add (Int.toNat n8*1))=some (iV n10)∧cS 158 #[pV p1,iV n10] (fun v11 H3=>∃ s12,v11=sV s12∧bk PP (Builtin.append_ #[37,37] 37 #[lV a7 l7 c7,lV (some (A0 H3.size)) 1 1]) (fun v13 H4=>∃ a14 l14 c14,v13=lV a14 l14 c14∧I5 [lV a14 l14 c14,iV (wW (n8+1))] H4∧μ5 [lV a14 l14 c14,iV (wW (n8+1))] H4<μ5 w6 H2) (H3.push (.cells #[sV s12] 9))) H2) (Q (lV a7 l7 c7) H2)) H
theorem Dz {p1:Option Addr}{n2:Int} (h:Qi p1 n2 Q H):ah PP 264 #[.pointer p1,.int .i64 n2] Q H :=
 aN good Tryz.func264 rfl (Ls:=fun | 4=>some [(6,37),(7,3)] | _=>none) (by kernel_rfl) h
end Go.Proofs.YtmkdkplipbocjaaGreatDoor
namespace Kw
open Go
def gB (s:ByteArray) (i:Nat):Nat:=(s[i]?.getD 0).toNat
theorem vG {s:ByteArray}{i:Nat}{u:UInt8} (h:s[i]?=some u):gB s i=u.toNat:=by unfold gB;rw [h];rfl
def cY (n:Nat):Prop:=(97<=n∧n<=122)∨(65<=n∧n<=90)∨(48<=n∧n<=57)
instance (n:Nat):Decidable (cY n):=inferInstanceAs (Decidable (_∨_∨_))
def gp (lo hi:Nat) (s:ByteArray):Prop:=1<=s.size∧s.size<=32∧lo<=gB s 0∧gB s 0<=hi∧∀ i,i<s.size->cY (gB s i)
noncomputable instance (lo hi:Nat) (s:ByteArray):Decidable (gp lo hi s):=Classical.propDecidable _
def zD (s:ByteArray):Prop:=s=⟨#[115,101,108,102]⟩∨s=⟨#[115,117,112,101,114]⟩∨s=⟨#[110,105,108]⟩∨s=⟨#[116,114,117,101]⟩∨s=⟨#[102,97,108,115,101]⟩
instance (s:ByteArray):Decidable (zD s):=inferInstanceAs (Decidable (_∨_))
def gA (s:ByteArray):Prop:=¬ zD s∧gp 97 122 s
noncomputable instance (s:ByteArray):Decidable (gA s):=Classical.propDecidable _
noncomputable instance memBA (s:ByteArray) (l:List ByteArray):Decidable (s∈l):=Classical.propDecidable _
noncomputable def mN (inh pre:List ByteArray):List ByteArray->Int
 | []=>0
 | s :: l=>if ¬ gA s then 133 else if s∈pre then 134 else if s∈inh then 135 else mN inh (pre++[s]) l
def gO (v:KV) (t:TB) (name:ByteArray):Prop:=(dP v t name).2=0∨name∈cE v t
noncomputable instance (v:KV) (t:TB) (name:ByteArray):Decidable (gO v t name):=Classical.propDecidable _
noncomputable def i9 (v:KV) (t:TB) (name sup:ByteArray) (own:List ByteArray):Int × Int :=
 if ¬ gp 65 90 name then (0,133)
 else if gO v t name then (0,131)
 else if (dP v t sup).2≠0 then (0,(dP v t sup).2)
 else match dZ v (dP v t sup).1 with
  | none=>(0,130)
  | some j=>if 1<=j∧j<14 then (0,132)
   else if mN ((bQ v j).map (tx t)) [] own≠0 then (0,mN ((bQ v j).map (tx t)) [] own)
   else if 32<(bQ v j).length+own.length then (0,137)
   else if 256<=v.cls.length then (0,138)
   else ((dP v t sup).1,0)
theorem d8 (v:KV) (t:TB) (name:ByteArray):(dP v t name=(0,130)∧∀ c∈v.cls,tx t c.name≠name)∨∃ i,∃ hi:i<v.cls.length,dP v t name=((v.cls[i]).oop,0)∧tx t (v.cls[i]).name=name:=by
 unfold dP
 cases hx:v.cls.findIdx? (fun c=>decide (tx t c.name=name)) with
 | none =>
  left
  rw [List.findIdx?_eq_none_iff] at hx
  exact ⟨rfl,fun c hc=>by simpa using hx c hc⟩
 | some i =>
  right
  rw [List.findIdx?_eq_some_iff_getElem] at hx
  obtain ⟨hi,h1,_⟩:=hx
  exact ⟨i,hi,by simp [hi],by simpa using h1⟩
noncomputable def bF (s:SP) (v:KV) (t:TB) (name sup:ByteArray) (own:List ByteArray):(Int × Int) × SP × TB :=
 if (i9 v t name sup own).2≠0 then ((0,(i9 v t name sup own).2),s,t) else cO s t v.clsW name (i9 v t name sup own).1 own
noncomputable def kI (v:KV) (t:TB) (name:ByteArray):Int :=
 if ¬ gp 65 90 name then 133 else if gO v t name then 131 else if 256<=v.glob.length then 138 else 0
noncomputable def bE (s:SP) (v:KV) (t:TB) (name:ByteArray):Int × SP × TB :=
 if kI v t name≠0 then (kI v t name,s,t) else dB s t (bw v.glob) name
theorem mU {s:SP}{v:KV}{t:TB} (hv:KAll s t v){name sup:ByteArray}{own:List ByteArray} (h:(i9 v t name sup own).2=0) :
  ∃ j,∃ hj:j<v.cls.length,(i9 v t name sup own).1=(v.cls[j]).oop∧v.cls.length<256∧(∀ c∈v.cls,tx t c.name≠name)∧dP v t sup=((v.cls[j]).oop,0)∧dZ v (v.cls[j]).oop=some j:=by
 unfold i9 at h ⊢
 split at h
 ·cases h
 rename_i h1
 split at h
 ·cases h
 rename_i h2
 split at h
 ·rename_i h3;exact absurd h h3
 rename_i h3
 rw [if_neg h1,if_neg h2,if_neg h3]
 rcases d8 v t sup with ⟨e,_⟩ | ⟨j,hj,e,_⟩
 ·rw [e] at h3;simp at h3
 rw [e] at h ⊢
 have hp:=hv.ks.idx hj
 simp only [hp] at h ⊢
 split at h
 ·cases h
 rename_i h4
 split at h
 ·rename_i h5;exact absurd h h5
 rename_i h5
 split at h
 ·cases h
 rename_i h6
 split at h
 ·cases h
 rename_i h7
 rw [if_neg h4,if_neg h5,if_neg h6,if_neg h7]
 refine ⟨j,hj,rfl,by omega,?_,rfl,hp⟩
 rcases d8 v t name with ⟨_,h8⟩ | ⟨i,hi,e',_⟩
 ·exact h8
 ·exact absurd (.inl (by rw [e'])) h2
theorem sQ {v:KV}{t:TB}{name sup:ByteArray}{own:List ByteArray} (h:(i9 v t name sup own).2=0):own.length<=32:=by
 unfold i9 at h
 split at h
 ·cases h
 split at h
 ·cases h
 split at h
 ·rename_i h3;exact absurd h h3
 split at h
 ·cases h
 split at h
 ·cases h
 split at h
 ·rename_i h5;exact absurd h h5
 split at h
 ·cases h
 ·omega
end Kw
namespace Kw
open Go
def aG:List (Int × Int):=[(5,0),(6,0),(7,0),(12,7),(12,7),(12,7),(12,7),(12,7),(12,7),(12,7),(12,7),(12,7),(12,7),(12,7),(12,7),(12,7),(12,7),(11,0),(11,8),(11,14)]
def RH.allocAll (r:RH):List (Int × Int)->Int × RH
 | []=>(0,r)
 | (c,n) :: l=>if (r.alloc (4*c) n 0).1.2≠0 then ((r.alloc (4*c) n 0).1.2,(r.alloc (4*c) n 0).2) else RH.allocAll (r.alloc (4*c) n 0).2 l
def uN (p:List RO × Int) (x:Int × Int):List RO × Int:=(p.1++[⟨bP p.1,0,bn p.1,p.2,4*x.1,List.replicate x.2.toNat 4⟩],IntKind.wrap .i64 (p.2+1))
def nj (p:List RO × Int):List (Int × Int)->List RO × Int
 | []=>p
 | x :: l=>nj (uN p x) l
theorem tN {r:RH} (hm:r.mark=0){c n:Int} (h:(r.alloc (4*c) n 0).1.2=0):(r.alloc (4*c) n 0).2={ r with objs:=(uN (r.objs,r.born) (c,n)).1,born:=(uN (r.objs,r.born) (c,n)).2 }:=by
 unfold RH.alloc at h ⊢
 split at h
 ·cases h
 rename_i g1
 split at h
 ·cases h
 rename_i g2
 split at h
 ·cases h
 rename_i g3
 split at h
 ·cases h
 rename_i g4
 rw [if_neg g1,if_neg g2,if_neg g3,if_neg g4]
 simp [uN,dV,hm]
theorem ik (l:List (Int × Int)):∀ {r:RH},r.mark=0->(r.allocAll l).1=0->(r.allocAll l).2={ r with objs:=(nj (r.objs,r.born) l).1,born:=(nj (r.objs,r.born) l).2 }:=by
 induction l with
 | nil=>intro r _ _;rfl
 | cons x l ih =>
  intro r hm h
  obtain ⟨c,n⟩:=x
  unfold RH.allocAll at h ⊢
  split at h
  ·rename_i hn;exact absurd h hn
  rename_i hn
  rw [if_neg hn]
  have e:=tN hm (Classical.byContradiction hn)
  have:=ih (r:=(r.alloc (4*c) n 0).2) (by rw [e];exact hm) h
  rw [this,e]
  rfl
theorem sx (l:List (Int × Int)):∀ {r:RH},WFH r->WFH (r.allocAll l).2:=by
 induction l with
 | nil=>intro r h;exact h
 | cons x l ih =>
  intro r h
  obtain ⟨c,n⟩:=x
  unfold RH.allocAll
  split
  ·exact ix h _ _ _
  ·exact ih (ix h _ _ _)
def bB:List ByteArray:=[⟨#[79,98,106,101,99,116]⟩,⟨#[85,110,100,101,102,105,110,101,100,79,98,106,101,99,116]⟩,⟨#[70,97,108,115,101]⟩,⟨#[84,114,117,101]⟩,⟨#[73,110,116,101,103,101,114]⟩,⟨#[83,121,109,98,111,108]⟩,⟨#[83,116,114,105,110,103]⟩,⟨#[65,114,114,97,121]⟩,⟨#[67,108,97,115,115]⟩,⟨#[77,101,116,104,111,100]⟩,⟨#[66,108,111,99,107]⟩,⟨#[67,111,110,116,101,120,116]⟩,⟨#[80,114,111,99,101,115,115]⟩,⟨#[77,101,115,115,97,103,101]⟩]
def eE (i:Nat):List Int:=[4*(i:Int)+2,if i=0 then 4 else 16,72,72,72,1,2*((i:Int)+1)+1]
def NS (i:Nat) (r:RH):RH:=((r.lay (4+i) 0 (eE i)).put 20 i (4*(4+i))).2
def i8 (r:RH):Nat->RH
 | 0=>r
 | n+1=>NS n (i8 r n)
def qw:List Int:=[80,72,72,72,4,8,12]
def eH (r:RH):RH:=(i8 r 14).lay 19 0 qw
def fF:List RO:=(nj ([],0) aG).1
def bK (words oops:Int):RH:=⟨words,oops,0,0,0,[]⟩
def bT (words oops:Int):RH:=eH (((bK words oops).allocAll aG).2)
def eW (words oops:Int):SP:=⟨bT words oops,19,[],false,0,0,0⟩
def dH:TB:=⟨4096,bB⟩
def cJ:KV:=⟨(List.range 14).map fun i:Nat=>⟨4+i,i,if i=0 then 1 else 4,[],18,18,18,[],[],0⟩,20,[],18,[72,72,4,8,12,4]⟩
def yJ:List (Int × List Int):=[(1,[]),(2,[]),(3,[])]++(List.range 14).map (fun i:Nat=>((4+i:Int),eE i))++[(18,[]),(19,[80,72,72,72,4,8,12,4]),(20,(List.range 14).map fun i:Nat=>4*(4+(i:Int)))]
theorem ua (w o m b t:Int):((eH ⟨w,o,m,b,t,fF⟩).objs.map fun x=>(x.oop,x.slots))=yJ:=by kernel_rfl
theorem qu (w o m b t:Int):((eH ⟨w,o,m,b,t,fF⟩).objs.all fun x=>decide (x.fmt=0) && decide (cz x.cls=3))=true:=by kernel_rfl
theorem wU:(fF.all fun x=>decide (x.fmt=0))=true:=by kernel_rfl
theorem mI:(bB.all fun s=>decide (cy s))=true:=by kernel_rfl
theorem kD:bB.Nodup:=by decide +kernel
theorem vU {words oops:Int} (h0:0<=words) (h1:words<=1048576) (h2:0<=oops) (h3:oops<=65536):WFH (bK words oops) :=
 ⟨h0,h1,h2,h3,Int.le_refl _,by simp [bK],⟨by simp [bK],by simp [bK]⟩⟩
theorem x8 {r:RH} (h:WFH r) (n:Nat):WFH (i8 r n):=by
 induction n with
 | zero=>exact h
 | succ n ih=>exact il (uw ih _ _ _) _ _ _
theorem xU {r:RH} (h:WFH r):WFH (eH r):=uw (x8 h 14) _ _ _
theorem yj:WFT dH:=⟨by decide,by decide,by decide,kD,fun s hs=>by simpa using List.all_eq_true.1 mI s hs⟩
theorem vd {i:Nat} (hi:i<bB.length):TB.add ⟨4096,bB.take i⟩ bB[i]=(((i:Int),0),⟨4096,bB.take (i+1)⟩):=by
 have hg:cy bB[i]:=by simpa using List.all_eq_true.1 mI _ (List.getElem_mem hi)
 have hn:bV (bB.take i) bB[i]=none:=iF.2 fun hm=>by
  obtain ⟨j,hj,e⟩:=List.getElem_of_mem hm
  rw [List.getElem_take] at e
  have:=(List.getElem_inj kD).1 e
  simp only [List.length_take] at hj
  omega
 have h14:bB.length=14:=rfl
 unfold TB.add
 rw [if_neg (by simpa using hg)]
 simp only [hn]
 rw [if_neg (by simp only [List.length_take];omega)]
 have e1:(bB.take i).length=i:=by rw [List.length_take];omega
 rw [e1,List.take_add_one,List.getElem?_eq_getElem hi]
 rfl
theorem wF:(cJ.roles.all fun p=>decide (p∈yJ))=true:=by kernel_rfl
theorem CG:D8 cJ:=by unfold D8;decide +kernel
theorem sZ {words oops:Int} (h:((bK words oops).allocAll aG).1=0):(bT words oops).objs=(eH ⟨words,oops,0,20,0,fF⟩).objs:=by
 have e:((bK words oops).allocAll aG).2=⟨words,oops,0,20,0,fF⟩:=by
  rw [ik aG (r:=bK words oops) rfl h]
  kernel_rfl
 unfold bT
 rw [e]
theorem vL {words oops:Int} (hw:WFH (bT words oops)) (h:((bK words oops).allocAll aG).1=0){p:jO} (hp:p∈yJ):eQ (bT words oops) p.1 p.2:=by
 have e:=sZ h
 rw [←ua words oops 0 20 0,←e] at hp
 obtain ⟨x,hx,rfl⟩:=List.mem_map.1 hp
 have hf:=qu words oops 0 20 0
 rw [←e] at hf
 have:=List.all_eq_true.1 hf x hx
 simp only [Bool.and_eq_true,decide_eq_true_eq] at this
 exact ⟨x,bW hw.objs hx,this.1,rfl⟩
theorem df (i:Nat) (hi:i<cJ.cls.length):cJ.cls[i]=⟨4+i,i,if i=0 then 1 else 4,[],18,18,18,[],[],0⟩:=by simp [cJ]
theorem xz {words oops:Int} (h0:0<=words) (h1:words<=1048576) (h2:0<=oops) (h3:oops<=65536):WFH (bT words oops):=by
 unfold bT
 exact xU (sx _ (vU h0 h1 h2 h3))
attribute [local irreducible] bT
theorem Aj {words oops:Int} (h0:0<=words) (h1:words<=1048576) (h2:0<=oops) (h3:oops<=65536) (h:((bK words oops).allocAll aG).1=0):KAll (eW words oops) dH cJ:=by
 have hw:WFH (bT words oops):=xz h0 h1 h2 h3
 have hl:cJ.cls.length=14:=rfl
 refine ⟨⟨⟨hw,(by decide:(0:Int)<=19),(by decide:(19:Int)<=65536),(Nat.zero_le _:([]:List Int).length<=65536),fun w hw=>by cases hw⟩,?_,rfl,rfl,?_,CG,?_⟩,⟨yj,?_,?_,?_,?_⟩,rfl⟩
 ·intro x hx
  have hf:=qu words oops 0 20 0
  rw [←sZ h] at hf
  have:=List.all_eq_true.1 hf x hx
  simp only [Bool.and_eq_true,decide_eq_true_eq] at this
  exact this.2
 ·intro p hp
  exact vL hw h (of_decide_eq_true (List.all_eq_true.1 wF p hp))
 ·refine ⟨rfl,by rw [hl];decide,by rw [hl];decide,by decide,fun _=>?_,fun i hi hpos=>?_,fun i hi h14=>?_,fun c hc=>?_⟩
  ·rw [df];exact ⟨rfl,rfl⟩
  ·refine ⟨0,by decide,hpos,?_⟩
   rw [df,df]
   simp only
   rw [if_neg (by omega)]
   rfl
  ·rw [df]
  ·obtain ⟨i,hi,rfl⟩:=List.getElem_of_mem hc
   rw [df];simp
 ·intro c hc
  obtain ⟨i,hi,rfl⟩:=List.getElem_of_mem hc
  rw [df]
  show i<14
  rw [hl] at hi;exact hi
 ·intro c hc n hn
  obtain ⟨i,hi,rfl⟩:=List.getElem_of_mem hc
  rw [df] at hn
  cases hn
 ·intro p hp;cases hp
 ·have:cJ.cls.map (·.name)=List.range 14:=by kernel_rfl
  rw [this];exact List.nodup_range
end Kw
namespace Go.Proofs.YtmkdkplipbocjaaGreatDoor
open Kw
def RK (H:aj) (b:Nat) (F:ay) (s:SP) (t:TB):Prop:=∃ sb tb F1 F2,F=b :: (F1++F2)∧b∉F1∧b∉F2∧bi F1 F2 ∧
 bA H b #[.pointer (some ⟨sb,0,none⟩),.pointer (some ⟨tb,0,none⟩)]∧kC H sb F1 s∧pZ H tb F2 t
theorem RK.lt {H:aj}{b:Nat}{F:ay}{s:SP}{t:TB} (h:RK H b F s t):∀ x∈F,x<H.size:=by
 obtain ⟨sb,tb,F1,F2,rfl,h1,h2,h3,hB,hS,hT⟩:=h
 intro x hx
 rcases List.mem_cons.1 hx with rfl | hx
 ·exact hB.lt
 ·rcases List.mem_append.1 hx with hx | hx
  ·exact hS.lt x hx
  ·exact hT.lt x hx
theorem RK.bmem {H:aj}{b:Nat}{F:ay}{s:SP}{t:TB} (h:RK H b F s t):b∈F:=by obtain ⟨_,_,_,_,rfl,_⟩:=h;simp
theorem RK.fr {H H':aj}{b:Nat}{F G:ay}{s:SP}{t:TB} (h:RK H b F s t) (hf:Fr G H H') (hd:bi F G):RK H' b F s t:=by
 obtain ⟨sb,tb,F1,F2,rfl,h1,h2,h3,hB,hS,hT⟩:=h
 exact ⟨sb,tb,F1,F2,rfl,h1,h2,h3,hB.fr hf (hd b (by simp)),hS.fr hf (hd.mono (fun x hx=>by simp [hx]) fun _ h=>h),hT.fr hf (hd.mono (fun x hx=>by simp [hx]) fun _ h=>h)⟩
theorem RK.nil {H H':aj}{b:Nat}{F:ay}{s:SP}{t:TB} (h:RK H b F s t) (hf:Fr [] H H'):RK H' b F s t:=h.fr hf (bi.nil_right _)
theorem RK.wfs {H:aj}{b:Nat}{F:ay}{s:SP}{t:TB} (h:RK H b F s t):WFS s:=by obtain ⟨_,_,_,_,_,_,_,_,_,hS,_⟩:=h;exact hS.wf
theorem RK.wft {H:aj}{b:Nat}{F:ay}{s:SP}{t:TB} (h:RK H b F s t):WFT t:=by obtain ⟨_,_,_,_,_,_,_,_,_,_,hT⟩:=h;exact hT.wf
theorem RK.sp {H:aj}{b:Nat}{F:ay}{s:SP}{t:TB} (h:RK H b F s t):∃ sb F1,ac H ⟨b,0,none⟩=some (.pointer (some ⟨sb,0,none⟩))∧kC H sb F1 s∧(∀ x∈F1,x∈F)∧b∉F1 ∧
  ∀ H' F1' s',kC H' sb F1' s'->Up F1 H F1' H'->∃ F',RK H' b F' s' t∧Up F H F' H':=by
 have hlt:=h.lt
 obtain ⟨sb,tb,F1,F2,rfl,h1,h2,h3,hB,hS,hT⟩:=h
 refine ⟨sb,F1,hB.cell 0,hS,fun x hx=>by simp [hx],h1,fun H' F1' s' hS' hu=>⟨b :: (F1'++F2),⟨sb,tb,F1',F2,rfl,fun hx=>?_,h2,fun x hx hx2=>?_,hB.fr hu.1 h1,hS',hT.fr hu.1 h3.symm⟩,hu.1.mono fun x hx=>by simp [hx],fun x hx=>?_⟩⟩
 ·rcases hu.2 b hx with h4 | h4
  ·exact h1 h4
  ·have:=hlt b (by simp);omega
 ·rcases hu.2 x hx with h4 | h4
  ·exact h3 x h4 hx2
  ·have:=hlt x (by simp [hx2]);omega
 ·rcases List.mem_cons.1 hx with rfl | hx
  ·exact .inl (by simp)
  ·rcases List.mem_append.1 hx with hx | hx
   ·exact (hu.2 x hx).imp (fun h4=>by simp [h4]) id
   ·exact .inl (by simp [hx])
theorem RK.tb {H:aj}{b:Nat}{F:ay}{s:SP}{t:TB} (h:RK H b F s t):∃ tb F2,ac H ⟨b,1,none⟩=some (.pointer (some ⟨tb,0,none⟩))∧pZ H tb F2 t∧(∀ x∈F2,x∈F)∧b∉F2 ∧
  ∀ H' F2' t',pZ H' tb F2' t'->Up F2 H F2' H'->∃ F',RK H' b F' s t'∧Up F H F' H':=by
 have hlt:=h.lt
 obtain ⟨sb,tb,F1,F2,rfl,h1,h2,h3,hB,hS,hT⟩:=h
 refine ⟨tb,F2,hB.cell 1,hT,fun x hx=>by simp [hx],h2,fun H' F2' t' hT' hu=>⟨b :: (F1++F2'),⟨sb,tb,F1,F2',rfl,h1,fun hx=>?_,fun x hx hx2=>?_,hB.fr hu.1 h2,hS.fr hu.1 h3,hT'⟩,hu.1.mono fun x hx=>by simp [hx],fun x hx=>?_⟩⟩
 ·rcases hu.2 b hx with h4 | h4
  ·exact h2 h4
  ·have:=hlt b (by simp);omega
 ·rcases hu.2 x hx2 with h4 | h4
  ·exact h3 x hx h4
  ·have:=hlt x (by simp [hx]);omega
 ·rcases List.mem_cons.1 hx with rfl | hx
  ·exact .inl (by simp)
  ·rcases List.mem_append.1 hx with hx | hx
   ·exact .inl (by simp [hx])
   ·exact (hu.2 x hx).imp (fun h4=>by simp [h4]) id
theorem RK.hp {H:aj}{b:Nat}{F:ay}{s:SP}{t:TB} (h:RK H b F s t):∃ sb hb F1,ac H ⟨b,0,none⟩=some (.pointer (some ⟨sb,0,none⟩))∧ac H ⟨sb,0,none⟩=some (.pointer (some ⟨hb,0,none⟩))∧dA H hb F1 s.h∧(∀ x∈F1,x∈F)∧b∉F1 ∧
  ∀ H' F1' r',dA H' hb F1' r'->Up F1 H F1' H'->∃ F',RK H' b F' { s with h:=r' } t∧Up F H F' H':=by
 obtain ⟨sb,F1,hc,hS,hsub,hbn,hup⟩:=h.sp
 obtain ⟨hb,F2,hR,c0,_,hsub2,_,hup2⟩:=hS.upd
 refine ⟨sb,hb,F2,hc,c0,hR,fun x hx=>hsub x (hsub2 x hx),fun hm=>hbn (hsub2 _ hm),fun H' F1' r' hR' hu=>?_⟩
 obtain ⟨F3,hS',hu'⟩:=hup2 H' F1' r' hR' hu
 exact hup H' F3 _ hS' hu'
def rz (t:TB) (w:Int):ByteArray:=if Int.tmod w 4≠2 then ⟨#[]⟩ else if h:0<=(w-2) / 4∧(w-2) / 4<t.texts.length then t.texts[((w-2) / 4).toNat]'(by omega) else ⟨#[]⟩
theorem iY {t:TB} (hw:WFT t){n:Nat} (h:n<t.texts.length):rz t (bD n)=tx t n:=by
 unfold rz bD
 have e:(4*(n:Int)+2-2) / 4=n:=by omega
 rw [if_neg (by rw [Int.tmod_eq_emod_of_nonneg (by omega)];omega)]
 rw [dif_pos (by omega)]
 unfold tx
 rw [List.getD_eq_getElem?_getD,List.getElem?_eq_getElem h]
 simp only [Option.getD_some]
 congr 1
 omega
section
variable {H:aj}{b:Nat}{F:ay}{s:SP}{t:TB}{Q:QT}
theorem fW (hK:RK H b F s t){o i:Int} (h:Q (.int .i64 (kslot s.h o i)) H):ah PP tT #[.pointer (some ⟨b,0,none⟩),.int .i64 o,.int .i64 i] Q H:=by
 obtain ⟨sb,hb,F1,hc,c0,hR,_⟩:=hK.hp
 apply CS
 unfold Ns iV pV cS
 exact ⟨_,rfl,_,hc,_,rfl,_,c0,Ei hR ⟨_,_,rfl,h⟩⟩
theorem qL (hK:RK H b F s t){w:Int} (hw:Ak w) (h:Q (.string (rz t w)) H):ah PP tO #[.pointer (some ⟨b,0,none⟩),.int .i64 w] Q H:=by
 apply AY
 unfold Lq iV wW pV sV cS
 unfold rz at h
 rw [bf,ae]
 refine aA (fun h1=>?_) fun h1=>?_
 ·rw [if_pos h1] at h;exact h
 rw [if_neg h1] at h
 obtain ⟨tb,F2,hc,hT,_⟩:=hK.tb
 have hw1:=hw.1
 have hw2:=hw.2
 have h2:Int.tmod w 4=2:=Classical.byContradiction h1
 have hge:0<=w:=by
  rcases Int.lt_or_le w 0 with h3 | h3
  ·exfalso
   have h4:Int.tmod w 4<=0:=by
    have e:w=-(-w):=by omega
    rw [e,Int.neg_tmod,Int.tmod_eq_emod_of_nonneg (by omega)]
    omega
   omega
  ·exact h3
 have hm:w % 4=2:=by rw [←h2,Int.tmod_eq_emod_of_nonneg hge]
 have e1:IntKind.wrap .i64 (w-2)=w-2:=am (by omega) (by omega)
 have e2:Int.tdiv (w-2) 4=(w-2) / 4:=Int.tdiv_eq_ediv_of_nonneg (by omega)
 have e3:IntKind.wrap .i64 ((w-2) / 4)=(w-2) / 4:=am (by omega) (by omega)
 rw [e1,e2,e3]
 refine ⟨_,rfl,_,hc,BN hT ?_⟩
 unfold nP
 split at h
 ·rename_i h5
  rw [dif_pos h5]
  exact ⟨_,_,rfl,h⟩
 ·rename_i h5
  rw [dif_neg h5]
  exact ⟨_,_,rfl,h⟩
theorem ga (hK:RK H b F s t){o:Int} (h:∀ a l c G H',bv 1 H' a l c (aq (kwords s.h o)) G->Fr [] H H'->(∀ x∈G,H.size<=x)->Q (.slice a l c) H'):ah PP FV #[.pointer (some ⟨b,0,none⟩),.int .i64 o] Q H:=by
 have hs1:aF PP 108=some (1,8,some (.int .i64 0)):=by kernel_rfl
 have hn0:=hZ (r:=s.h) o
 have hn1:=mY hK.wfs.h o
 apply Bu
 unfold L7 A0 iV wW pV lV cS
 obtain ⟨sb,hb,F1,hc,c0,hR,_⟩:=hK.hp
 refine ⟨_,rfl,_,hc,_,rfl,_,c0,rN hR ⟨_,_,_,rfl,?_⟩⟩
 show ∃(I11:List Value->aj->Prop) (μ11:List Value->aj->Nat),I11 [.slice none 0 0,.int .i64 0] H∧∀ w12 H2,I11 w12 H2->∀ _g:Nat->Value,∃ a13:Option Addr,∃ l13:Nat,∃ c13:Nat,∃ n14:Int,w12=[.slice a13 l13 c13,.int .i64 n14]∧cond (decide (n14<ksize s.h o)) _ _
 refine ⟨fun w H'=>∃(i:Nat) (a:Option Addr) (l' c:Nat) (G:ay),w=[.slice a l' c,.int .i64 i]∧(i:Int)<=ksize s.h o∧bv 1 H' a l' c (aq ((kwords s.h o).take i)) G∧Fr [] H H'∧(∀ x∈G,H.size<=x),fun w _=>match w with
  | [_,.int _ i]=>(ksize s.h o-i).toNat
  | _=>0,⟨0,none,0,0,[],rfl,hn0,by simpa [aq] using bv.nil 1 H,Fr.refl _ _,by simp⟩,?_⟩
 rintro w H1 ⟨i,a1,l1,c1,G,rfl,hi,ho,hf1,hG⟩ _
 have hlen:(kwords s.h o).length=(ksize s.h o).toNat:=by simp [kwords]
 have hl1:l1=i:=by have:=ho.len;simp only [aq,List.length_map,List.length_take] at this;omega
 refine ⟨_,_,_,_,rfl,?_⟩
 rw [ae]
 refine aA (fun hlt=>?_) fun hlt=>?_
 ·have htk:(kwords s.h o).take (i+1)=(kwords s.h o).take i++[kslot s.h o i]:=by
   rw [List.take_add_one,List.getElem?_eq_getElem (by omega)];simp [kwords]
  have e:IntKind.wrap .i64 ((i:Int)+1)=((i+1:Nat):Int):=by rw [am (by omega) (by omega)];omega
  refine fW (hK.nil hf1) ⟨_,rfl,?_⟩
  refine bg hs1 rfl (by kernel_rfl) ho rfl (by simp [cC]) (by omega) (by decide) (by decide) fun a' c' G2 H3 g1 g2 g3=>⟨_,_,_,rfl,?_⟩
  have hfr:=Up.fresh hf1 g2 hG
  rw [e]
  refine ⟨⟨i+1,a',l1+1,c',G2,rfl,by omega,?_,hfr.1,hfr.2⟩,by simp;omega⟩
  rw [htk,bt];exact g1
 ·rw [List.take_of_length_le (by omega)] at ho
  exact h _ _ _ _ H1 ho hf1 hG
end
theorem bZ {o:Int} (h:1<=o):kj (4*o)=o:=by
 unfold kj;rw [if_pos (by omega)];omega
theorem cW {n:Int} (h0:-1000000000000<=n) (h1:n<=1000000000000):Ak n:=⟨by omega,by omega⟩
section
variable {H:aj}{b:Nat}{F:ay}{s:SP}{t:TB}{v:KV}{Q:QT}
theorem qK (hK:RK H b F s t) (hv:KS s v){i:Int}{x:Int} (hx:kslot s.h 19 i=4*x) (h0:1<=x) (h1:x<=65536){Q:QT} (h:Q (.int .i64 x) H) :
  ah PP tT #[.pointer (some ⟨b,0,none⟩),.int .i64 19,.int .i64 i] (fun v2 H1=>∃ n3:Int,v2=.int .i64 n3∧ah PP zF #[.int .i64 n3] Q H1) H:=by
 refine fW hK ⟨_,rfl,?_⟩
 rw [hx]
 refine ch (cW (by omega) (by omega)) ?_
 rw [bZ h0];exact h
theorem KS.s0 (h:KS s v):kslot s.h 19 0=4*v.clsA∧1<=v.clsA∧v.clsA<=65536:=by
 have hb:=h.view.all.bnd h.wf.h
 exact ⟨h.view.root.kslot (i:=0) (by simp [KV.rootW]),hb.1,hb.2.1⟩
theorem KS.s1 (h:KS s v):kslot s.h 19 1=4*v.globA∧1<=v.globA∧v.globA<=65536:=by
 have hb:=h.view.globs.bnd h.wf.h
 exact ⟨h.view.root.kslot (i:=1) (by simp [KV.rootW]),hb.1,hb.2.1⟩
def gh (v:KV):List Int:=v.cls.map (·.oop)
theorem pN (hK:RK H b F s t) (hv:KS s v) (h:∀ a l c G H',bv 1 H' a l c (aq (gh v)) G->Fr [] H H'->(∀ x∈G,H.size<=x)->Q (.slice a l c) H'):ah PP P9 #[.pointer (some ⟨b,0,none⟩)] Q H:=by
 have hs1:aF PP 66=some (1,8,some (.int .i64 0)):=by kernel_rfl
 have hm1:=hv.shape.many1
 obtain ⟨e0,b0,b1⟩:=KS.s0 hv
 apply EJ
 unfold RM A0 iV wW pV lV cS
 refine qK hK hv e0 b0 b1 ⟨_,rfl,ga hK fun aw lw cw Gw H0 how hfw hGw=>⟨_,_,_,rfl,?_⟩⟩
 rw [show kwords s.h v.clsA=v.clsW from hv.view.all.kwords] at how
 have hlw:lw=v.cls.length:=by have:=how.len;simpa [aq,KV.clsW] using this.symm
 have hlen:(gh v).length=v.cls.length:=by simp [gh]
 refine ⟨fun w H'=>∃(i:Nat) (a:Option Addr) (l' c:Nat) (G:ay),w=[.slice a l' c,.int .i64 i]∧i<=v.cls.length∧bv 1 H' a l' c (aq ((gh v).take i)) G∧Fr [] H0 H'∧(∀ x∈G,H0.size<=x),fun w _=>match w with
  | [_,.int _ i]=>(v.cls.length-i).toNat
  | _=>0,⟨0,none,0,0,[],rfl,Nat.zero_le _,by simpa [aq] using bv.nil 1 H0,Fr.refl _ _,by simp⟩,?_⟩
 rintro w H1 ⟨i,a1,l1,c1,G,rfl,hi,ho,hf1,hG⟩ _
 have hl1:l1=i:=by have:=ho.len;simp only [aq,List.length_map,List.length_take] at this;omega
 refine ⟨_,_,_,_,rfl,?_⟩
 rw [ae]
 refine aA (fun hlt=>?_) fun hlt=>?_
 ·have hlt':i<v.cls.length:=by omega
  obtain ⟨p,rfl,hcell,hlt2⟩:=(how.rd.fr' hf1 (by simp)).int (i:=(i:Int)) (by omega) hlt
  rw [Int.toNat_natCast] at hcell hlt2
  have hx:v.clsW.getD i 0=4*(v.cls[i]).oop:=by simp [KV.clsW,hlt']
  rw [hx] at hcell
  have hb:=iH hv hlt'
  have htk:(gh v).take (i+1)=(gh v).take i++[(v.cls[i]).oop]:=by
   rw [List.take_add_one,List.getElem?_eq_getElem (by omega)];simp [gh]
  have e:IntKind.wrap .i64 ((i:Int)+1)=((i+1:Nat):Int):=by rw [am (by omega) (by omega)];omega
  refine ⟨⟨by omega,hlt⟩,_,rfl,_,by rw [Int.toNat_natCast,Nat.mul_one];exact hcell,ch (cW (by omega) (by omega)) ⟨_,rfl,?_⟩⟩
  rw [bZ hb.1]
  refine bg hs1 rfl (by kernel_rfl) ho rfl (by simp [cC]) (by omega) (by decide) (by decide) fun a' c' G2 H3 g1 g2 g3=>⟨_,_,_,rfl,?_⟩
  have hfr:=Up.fresh hf1 g2 hG
  rw [e]
  refine ⟨⟨i+1,a',l1+1,c',G2,rfl,by omega,?_,hfr.1,hfr.2⟩,by simp;omega⟩
  rw [htk,bt];exact g1
 ·rw [List.take_of_length_le (by omega)] at ho
  exact h _ _ _ _ H1 ho (hfw.trans hf1) fun x hx=>Nat.le_trans hfw.1 (hG x hx)
theorem jG {a:Option Addr}{l c:Nat}{G:ay} (ho:bv 1 H a l c (aq (gh v)) G){H':aj} (hf:Fr [] H H'){i:Nat} (hi:i<v.cls.length):∃ p,a=some p∧ac H' (p.add (i*1))=some (.int .i64 (v.cls[i]).oop):=by
 have hl:l=v.cls.length:=by have:=ho.len;simpa [aq,gh] using this.symm
 obtain ⟨p,hp,hcell,hlt2⟩:=(ho.rd.fr' hf (by simp)).int (i:=(i:Int)) (by omega) (by omega)
 rw [Int.toNat_natCast] at hcell
 refine ⟨p,hp,?_⟩
 rw [Nat.mul_one,hcell]
 simp [gh,hi]
def ip (v:KV) (o:Int):Int:=match dZ v o with
 | some i=>(i:Int)+1
 | none=>0
theorem m7 (hK:RK H b F s t) (hv:KS s v){o:Int} (h:∀ H',Fr [] H H'->Q (.int .i64 (ip v o)) H'):ah PP Ig #[.pointer (some ⟨b,0,none⟩),.int .i64 o] Q H:=by
 have hm1:=hv.shape.many1
 apply CT
 unfold PR iV wW pV lV
 refine pN hK hv fun a l c G H1 ho hf1 hG=>⟨_,_,_,rfl,?_⟩
 have hl:l=v.cls.length:=by have:=ho.len;simpa [aq,gh] using this.symm
 refine ⟨fun w H'=>H'=H1∧∃ i:Nat,w=[.int .i64 i]∧i<=v.cls.length∧∀ j (hj:j<v.cls.length),j<i->(v.cls[j]).oop≠o,fun w _=>match w with
  | [.int _ i]=>(v.cls.length-i).toNat
  | _=>0,⟨rfl,0,rfl,Nat.zero_le _,fun j _ hj=>by omega⟩,?_⟩
 rintro w H2 ⟨rfl,i,rfl,hi,hall⟩ _
 refine ⟨_,rfl,?_⟩
 rw [ae]
 refine aA (fun hlt=>?_) fun hlt=>?_
 ·have hlt':i<v.cls.length:=by omega
  obtain ⟨p,rfl,hcell⟩:=jG ho (Fr.refl _ _) hlt'
  have e:IntKind.wrap .i64 ((i:Int)+1)=((i+1:Nat):Int):=by rw [am (by omega) (by omega)];omega
  have hb:=(iH hv hlt').1
  refine ⟨⟨by omega,hlt⟩,_,rfl,_,by rw [Int.toNat_natCast];exact hcell,?_⟩
  rw [bj,ae]
  refine aA (fun he=>?_) fun he=>?_
  ·rw [ae,if_pos (by omega),e]
   have:ip v o=((i+1:Nat):Int):=by
    unfold ip
    rw [←he,hv.idx hlt']
    simp
   rw [←this];exact h _ hf1
  ·rw [e]
   refine ⟨⟨rfl,i+1,rfl,by omega,fun j hj hji=>?_⟩,by simp;omega⟩
   rcases Nat.lt_or_ge j i with h5 | h5
   ·exact hall j hj h5
   ·have:j=i:=by omega
    subst this;exact he
 ·have:ip v o=0:=by
   unfold ip
   cases hp:dZ v o with
   | none=>rfl
   | some j =>
    obtain ⟨hj,e⟩:=cd hp
    exact absurd e (hall j hj (by omega))
  rw [←this];exact h _ hf1
theorem PU (hK:RK H b F s t) (hv:KS s v){i:Nat} (hi:i<v.cls.length) (h:Q (.int .i64 (eJ v i)) H):ah PP yp #[.pointer (some ⟨b,0,none⟩),.int .i64 (v.cls[i]).oop] Q H:=by
 have hb:=hv.upB hi
 apply Dp
 unfold NP iV pV cS
 refine fW hK ⟨_,rfl,?_⟩
 rw [hv.c1 hi]
 refine ch (cW (by omega) (by omega)) ⟨_,rfl,?_⟩
 rw [bZ hb.1,bj,ae]
 unfold eJ at h
 rw [List.getElem?_eq_getElem hi] at h
 simp only at h
 refine aA (fun h1=>?_) fun h1=>?_
 ·rw [if_pos h1] at h;exact h
 ·rw [if_neg h1] at h;exact h
theorem uv (hK:RK H b F s t) (hv:KAll s t v){i:Nat} (hi:i<v.cls.length){Q:QT} (h:Q (.string (tx t (v.cls[i]).name)) H) :
  ah PP tT #[.pointer (some ⟨b,0,none⟩),.int .i64 (v.cls[i]).oop,.int .i64 0] (fun v2 H1=>∃ n3:Int,v2=.int .i64 n3∧ah PP tO #[.pointer (some ⟨b,0,none⟩),.int .i64 n3] Q H1) H:=by
 have hn:=hv.names.name _ (List.getElem_mem hi)
 have h3:=hv.names.wf.m1
 have h4:=hv.names.wf.len
 refine fW hK ⟨_,rfl,?_⟩
 rw [hv.ks.c0 hi]
 refine qL hK (cW (by unfold bD;omega) (by unfold bD;omega)) ?_
 rw [iY hv.names.wf hn];exact h
theorem xF (hK:RK H b F s t) (hv:KAll s t v){name:ByteArray} (h:∀ H',Fr [] H H'->Q (.tuple #[.int .i64 (dP v t name).1,.int .i64 (dP v t name).2]) H'):ah PP GR #[.pointer (some ⟨b,0,none⟩),.string name] Q H:=by
 have hm1:=hv.ks.shape.many1
 apply B8
 unfold N4 iV wW pV sV lV cS
 refine pN hK hv.ks fun a l c G H1 ho hf1 hG=>⟨_,_,_,rfl,?_⟩
 have hl:l=v.cls.length:=by have:=ho.len;simpa [aq,gh] using this.symm
 have hK1:=hK.nil hf1
 refine ⟨fun w H'=>H'=H1∧∃ i:Nat,w=[.int .i64 i]∧i<=v.cls.length∧∀ j (hj:j<v.cls.length),j<i->tx t (v.cls[j]).name≠name,fun w _=>match w with
  | [.int _ i]=>(v.cls.length-i).toNat
  | _=>0,⟨rfl,0,rfl,Nat.zero_le _,fun j _ hj=>by omega⟩,?_⟩
 rintro w H2 ⟨rfl,i,rfl,hi,hno⟩ _
 refine ⟨_,rfl,?_⟩
 rw [ae]
 refine aA (fun hlt=>?_) fun hlt=>?_
 ·have hlt':i<v.cls.length:=by omega
  obtain ⟨p,rfl,hcell⟩:=jG ho (Fr.refl _ _) hlt'
  have e:IntKind.wrap .i64 ((i:Int)+1)=((i+1:Nat):Int):=by rw [am (by omega) (by omega)];omega
  refine ⟨⟨by omega,hlt⟩,_,rfl,_,by rw [Int.toNat_natCast];exact hcell,uv hK1 hv hlt' ⟨_,rfl,?_⟩⟩
  rw [cL,ae]
  refine aA (fun he=>?_) fun he=>?_
  ·have hfd:dP v t name=((v.cls[i]).oop,0):=by
    unfold dP
    have:v.cls.findIdx? (fun c=>decide (tx t c.name=name))=some i:=by
     rw [List.findIdx?_eq_some_iff_getElem]
     exact ⟨hlt',by simpa using he,fun j hj=>by simpa using hno j (by omega) hj⟩
    rw [this]
    simp [hlt']
   rw [hfd] at h
   exact ⟨⟨by omega,hlt⟩,_,rfl,_,by rw [Int.toNat_natCast];exact hcell,h _ hf1⟩
  ·rw [e]
   refine ⟨⟨rfl,i+1,rfl,by omega,fun j hj hji=>?_⟩,by simp;omega⟩
   rcases Nat.lt_or_ge j i with h1 | h1
   ·exact hno j hj h1
   ·have:j=i:=by omega
    subst this;exact he
 ·have hfd:dP v t name=(0,130):=by
   unfold dP
   have:v.cls.findIdx? (fun c=>decide (tx t c.name=name))=none:=by
    rw [List.findIdx?_eq_none_iff]
    intro c hc
    obtain ⟨j,hj,rfl⟩:=hv.ks.view.idx hc
    simpa using hno j hj (by omega)
   rw [this]
  rw [hfd] at h
  exact h _ hf1
theorem r9 (hK:RK H b F s t) (hv:KAll s t v){o:Int} (h:∀ H',Fr [] H H'->Q (match dZ v o with | some i=>.tuple #[.int .i64 ((i:Int)+1),.int .i64 0] | none=>.tuple #[.int .i64 0,.int .i64 130]) H'):ah PP E6 #[.pointer (some ⟨b,0,none⟩),.int .i64 o] Q H:=by
 apply Cl
 unfold MU iV pV
 refine m7 hK hv.ks fun H1 hf1=>⟨_,rfl,?_⟩
 have:=h H1 hf1
 unfold ip
 cases hp:dZ v o with
 | none=>rw [hp] at this;exact this
 | some i =>
  rw [hp] at this
  rw [bj,ae,if_neg (by simp only;omega)];exact this
theorem Bl (hK:RK H b F s t) (hv:KAll s t v){o:Int} (h:∀ H',Fr [] H H'->Q (match dZ v o with | some i=>.tuple #[.int .i64 (eJ v i),.int .i64 0] | none=>.tuple #[.int .i64 0,.int .i64 130]) H'):ah PP Hx #[.pointer (some ⟨b,0,none⟩),.int .i64 o] Q H:=by
 apply Cv
 unfold Pk iV pV cS
 refine m7 hK hv.ks fun H1 hf1=>⟨_,rfl,?_⟩
 have:=h H1 hf1
 unfold ip
 cases hp:dZ v o with
 | none=>rw [hp] at this;exact this
 | some i =>
  rw [hp] at this
  obtain ⟨hi,rfl⟩:=cd hp
  rw [bj,ae,if_neg (by simp only;omega)]
  exact PU (hK.nil hf1) hv.ks hi ⟨_,rfl,this⟩
end
section
variable {H:aj}{b:Nat}{F:ay}{s:SP}{t:TB}{v:KV}{Q:QT}
theorem DD (hK:PK H b F s t) (hv:KAll s t v){o:Int} (h:∀ H',Fr [] H H'->Q (.bool (dZ v o).isSome) H'):ah PP Io #[rd b,.int .i64 o] Q H:=by
 have hm1:=hv.ks.shape.many1
 apply De
 unfold NE A0 iV wW pV cS
 have hf:Fr [] H (H.push (.cells #[.pointer (some ⟨b,0,none⟩)] 131)):=Fr.push _ _ _
 have hB:=bA.new H #[.pointer (some ⟨b,0,none⟩)] 131
 refine ⟨_,hB.cell 0,xO (hK.nil hf) fun H1 hf1=>⟨_,rfl,_,(hB.fr hf1 (by simp)).cell 0,?_⟩⟩
 have hF1:=hf.trans hf1
 refine iR (hK.nil hF1) fun H2 hf2=>⟨_,rfl,?_⟩
 rw [hv.ks.root0]
 have hF2:=hF1.trans hf2
 have hB2:=(hB.fr hf1 (by simp)).fr hf2 (by simp)
 cases hp:dZ v o with
 | some i =>
  rw [hp] at h
  obtain ⟨hi,he⟩:=cd hp
  have hb:=(iH hv.ks hi).1
  have hn:qX s.h o 6=(i:Int)+1:=by rw [←he];exact hv.ks.num hi
  rw [hn,ae,if_pos (by omega),ae,if_pos (by omega)]
  refine ⟨_,hB2.cell 0,jd (hK.nil hF2) fun H3 hf3=>⟨_,rfl,?_⟩⟩
  rw [hv.ks.size0,ae,if_pos (by omega)]
  refine ⟨_,(hB2.fr hf3 (by simp)).cell 0,pJ (hK.nil (hF2.trans hf3)) fun H4 hf4=>⟨_,rfl,?_⟩⟩
  have e:IntKind.wrap .i64 ((i:Int)+1-1)=(i:Nat):=by rw [am (by omega) (by omega)];omega
  rw [e,(hv.ks.clsAt hi).2,he]
  have:=h H4 ((hF2.trans hf3).trans hf4)
  simpa using this
 | none =>
  rw [hp] at h
  rw [ae]
  refine aA (fun h1=>?_) fun h1=>h _ hF2
  rw [ae]
  refine aA (fun h2=>?_) fun h2=>h _ hF2
  refine ⟨_,hB2.cell 0,jd (hK.nil hF2) fun H3 hf3=>⟨_,rfl,?_⟩⟩
  rw [hv.ks.size0,ae]
  refine aA (fun h3=>?_) fun h3=>h _ (hF2.trans hf3)
  refine ⟨_,(hB2.fr hf3 (by simp)).cell 0,pJ (hK.nil (hF2.trans hf3)) fun H4 hf4=>⟨_,rfl,?_⟩⟩
  have hi:(qX s.h o 6-1).toNat<v.cls.length:=by omega
  have e:IntKind.wrap .i64 (qX s.h o 6-1)=((qX s.h o 6-1).toNat:Nat):=by rw [am (by omega) (by omega)];omega
  have hne:=sJ hp _ hi
  rw [e,(hv.ks.clsAt hi).2]
  have:=h H4 ((hF2.trans hf3).trans hf4)
  rw [bj,decide_eq_false hne];exact this
theorem xS (hK:PK H b F s t) (hv:KAll s t v){o:Int} (h1:∀ i,dZ v o=some i->∀ H',Fr [] H H'->Q (.tuple #[rd b,.int .i64 0]) H') (h2:dZ v o=none->∀ H',Fr [] H H'->Q (.tuple #[.agg #[.pointer none],.int .i64 130]) H'):ah PP IG #[.pointer (some ⟨b,0,none⟩),.int .i64 o] Q H:=by
 apply AG
 unfold Qd A0 iV pV cS;dsimp only [shH]
 have hf:Fr [] H (H.push (.cells #[.pointer none] 131)):=Fr.push _ _ _
 have hB:=bA.new H #[.pointer none] 131
 have hK1:=hK.nil hf
 generalize (H.push (.cells #[.pointer none] 131))=H1 at hf hB hK1 ⊢
 refine iZ hK1 ⟨_,rfl,?_⟩
 simp only [Bool.not_true,cond_false]
 rw [mO]
 have hf1:Fr [] H1 (H1.push (.cells #[.pointer (some ⟨b,0,none⟩)] 131)):=Fr.push _ _ _
 have hB1:=bA.new H1 #[.pointer (some ⟨b,0,none⟩)] 131
 refine ⟨aD.2 (by simp),_,hB1.cell 0,DD (hK1.nil hf1) hv fun H2 hf2=>⟨_,rfl,?_⟩⟩
 have hB2:=(hB.fr hf1 (by simp)).fr hf2 (by simp)
 have hF2:=(hf.trans hf1).trans hf2
 have hset:∀ x,Fr [] H (au H2 ⟨H.size,0,none⟩ x):=fun x=>Fr.late hF2 (Nat.le_refl _)
 cases hp:dZ v o with
 | none =>
  simp only [Option.isSome_none,Bool.not_false,cond_true]
  exact ⟨hB2.wr (by simp),_,(hB2.set 0 _).cell 0,h2 hp _ (hset _)⟩
 | some i =>
  simp only [Option.isSome_some,Bool.not_true,cond_false]
  exact ⟨_,(hB1.fr hf2 (by simp)).cell 0,hB2.wr (by simp),_,(hB2.set 0 _).cell 0,h1 i hp _ (hset _)⟩
theorem rW (hK:PK H b F s t) (hv:KAll s t v){o:Int} (h:∀ H',Fr [] H H'->Q (match dZ v o with | some i=>.tuple #[.int .i64 ((i:Int)+1),.int .i64 0] | none=>.tuple #[.int .i64 0,.int .i64 130]) H'):ah PP Fj #[.pointer (some ⟨b,0,none⟩),.int .i64 o] Q H:=by
 apply Bh
 unfold M5 A0 iV pV cS;dsimp only [shH]
 refine xS hK hv (fun i hp H1 hf=>?_) fun hp H1 hf=>?_
 ·refine ⟨_,_,rfl,aD.2 (by simp),?_⟩
  rw [hp] at h
  simp only [show ((0:Int) != 0)=false from rfl,cond_false]
  rw [mO]
  have hf1:Fr [] H1 (H1.push (.cells #[.pointer (some ⟨b,0,none⟩)] 131)):=Fr.push _ _ _
  obtain ⟨hi,he⟩:=cd hp
  refine ⟨_,(bA.new H1 _ _).cell 0,xO (hK.nil (hf.trans hf1)) fun H2 hf2=>⟨_,rfl,?_⟩⟩
  have hn:qX s.h o 6=(i:Int)+1:=by rw [←he];exact hv.ks.num hi
  rw [hn];exact h _ ((hf.trans hf1).trans hf2)
 ·refine ⟨_,_,rfl,aD.2 (by simp),?_⟩
  rw [hp] at h
  simp only [show ((130:Int) != 0)=true from rfl,cond_true]
  rw [mO]
  exact h _ hf.more
theorem yc (hK:PK H b F s t) (hv:KAll s t v){o:Int} (h:∀ H',Fr [] H H'->Q (match dZ v o with | some i=>.tuple #[.int .i64 (eJ v i),.int .i64 0] | none=>.tuple #[.int .i64 0,.int .i64 130]) H'):ah PP HM #[.pointer (some ⟨b,0,none⟩),.int .i64 o] Q H:=by
 apply CC
 unfold Na A0 iV pV cS;dsimp only [shH]
 refine xS hK hv (fun i hp H1 hf=>?_) fun hp H1 hf=>?_
 ·refine ⟨_,_,rfl,aD.2 (by simp),?_⟩
  rw [hp] at h
  simp only [show ((0:Int) != 0)=false from rfl,cond_false]
  rw [mO]
  have hf1:Fr [] H1 (H1.push (.cells #[.pointer (some ⟨b,0,none⟩)] 131)):=Fr.push _ _ _
  obtain ⟨hi,he⟩:=cd hp
  refine ⟨_,(bA.new H1 _ _).cell 0,vh (hK.nil (hf.trans hf1)) fun H2 hf2=>⟨_,rfl,?_⟩⟩
  have hn:eY s.h o 1=(v.cls[i]).up:=by rw [←he];exact hv.ks.up hi
  have:=h _ ((hf.trans hf1).trans hf2)
  simp only [eJ,List.getElem?_eq_getElem hi] at this
  rw [hn];exact this
 ·refine ⟨_,_,rfl,aD.2 (by simp),?_⟩
  rw [hp] at h
  simp only [show ((130:Int) != 0)=true from rfl,cond_true]
  rw [mO]
  exact h _ hf.more
theorem sI (hK:PK H b F s t) (hv:KS s v) (h:∀ H',Fr [] H H'->Q (.int .i64 (v.cls.length:Int)) H'):ah PP Em #[.pointer (some ⟨b,0,none⟩)] Q H:=by
 apply EC
 unfold QQ A0 iV pV cS;dsimp only [shH]
 refine iZ hK ⟨_,rfl,?_⟩
 simp only [Bool.not_true,cond_false]
 rw [mO]
 have hf1:Fr [] H (H.push (.cells #[.pointer (some ⟨b,0,none⟩)] 131)):=Fr.push _ _ _
 have hB:=bA.new H #[.pointer (some ⟨b,0,none⟩)] 131
 refine ⟨aD.2 (by simp),_,hB.cell 0,_,hB.cell 0,iR (hK.nil hf1) fun H2 hf2=>⟨_,rfl,⟨⟨(hB.fr hf2 (by simp)).cell 0,trivial⟩,trivial⟩,?_⟩⟩
 rw [hv.root0]
 refine jd (hK.nil (hf1.trans hf2)) fun H3 hf3=>⟨_,rfl,trivial,?_⟩
 rw [hv.size0];exact h _ ((hf1.trans hf2).trans hf3)
theorem A7 (hK:PK H b F s t) (hv:KAll s t v) (h:∀ H',Fr [] H H'->Q (.int .i64 (v.cls.length:Int)) H'):ah PP Em #[.pointer (some ⟨b,0,none⟩)] Q H:=sI hK hv.ks h
theorem vz (hK:PK H b F s t) (hv:KAll s t v){name:ByteArray} (h:∀ H',Fr [] H H'->Q (.tuple #[.int .i64 (dP v t name).1,.int .i64 (dP v t name).2]) H'):ah PP Pw #[.pointer (some ⟨b,0,none⟩),.string name] Q H:=by
 have hm1:=hv.ks.shape.many1
 apply KO
 unfold QJ A0 iV wW pV sV cS;dsimp only [shH]
 refine iZ hK ⟨_,rfl,?_⟩
 simp only [Bool.not_true,cond_false]
 rw [mO]
 have hf1:Fr [] H (H.push (.cells #[.pointer (some ⟨b,0,none⟩)] 131)):=Fr.push _ _ _
 have hB:=bA.new H #[.pointer (some ⟨b,0,none⟩)] 131
 refine ⟨aD.2 (by simp),_,hB.cell 0,iR (hK.nil hf1) fun H2 hf2=>⟨_,rfl,?_⟩⟩
 rw [hv.ks.root0]
 have hF2:=hf1.trans hf2
 have hB2:=hB.fr hf2 (by simp)
 refine ⟨_,hB2.cell 0,jd (hK.nil hF2) fun H3 hf3=>⟨_,rfl,?_⟩⟩
 rw [hv.ks.size0]
 have hF3:=hF2.trans hf3
 have hB3:=hB2.fr hf3 (by simp)
 refine ⟨fun w H'=>∃ i:Nat,w=[.int .i64 i]∧i<=v.cls.length∧Fr [] H3 H'∧∀ j (hj:j<v.cls.length),j<i->tx t (v.cls[j]).name≠name,fun w _=>match w with
  | [.int _ i]=>(v.cls.length-i).toNat
  | _=>0,⟨0,rfl,Nat.zero_le _,Fr.refl _ _,fun j _ hj=>by omega⟩,?_⟩
 rintro w H4 ⟨i,rfl,hi,hf4,hno⟩ _
 have hF4:=hF3.trans hf4
 have hB4:=hB3.fr hf4 (by simp)
 refine ⟨_,rfl,?_⟩
 rw [ae]
 refine aA (fun hlt=>?_) fun hlt=>?_
 ·have hlt':i<v.cls.length:=by omega
  refine ⟨_,hB4.cell 0,pJ (hK.nil hF4) fun H5 hf5=>⟨_,rfl,_,(hB4.fr hf5 (by simp)).cell 0,?_⟩⟩
  rw [(hv.ks.clsAt hlt').2]
  refine tU (hK.nil (hF4.trans hf5)) fun H6 hf6=>⟨_,rfl,?_⟩
  rw [hv.name hlt',cL,ae]
  refine aA (fun he=>?_) fun he=>?_
  ·have hfd:dP v t name=((v.cls[i]).oop,0):=by
    unfold dP
    have:v.cls.findIdx? (fun c=>decide (tx t c.name=name))=some i:=by
     rw [List.findIdx?_eq_some_iff_getElem]
     exact ⟨hlt',by simpa using he,fun j hj=>by simpa using hno j (by omega) hj⟩
    rw [this]
    simp [hlt']
   rw [hfd] at h
   exact h _ ((hF4.trans hf5).trans hf6)
  ·have e:IntKind.wrap .i64 ((i:Int)+1)=((i+1:Nat):Int):=by rw [am (by omega) (by omega)];omega
   rw [e]
   refine ⟨⟨i+1,rfl,by omega,(hf4.trans hf5).trans hf6,fun j hj hji=>?_⟩,by simp;omega⟩
   rcases Nat.lt_or_ge j i with h1 | h1
   ·exact hno j hj h1
   ·have:j=i:=by omega
    subst this;exact he
 ·have hfd:dP v t name=(0,130):=by
   unfold dP
   have:v.cls.findIdx? (fun c=>decide (tx t c.name=name))=none:=by
    rw [List.findIdx?_eq_none_iff]
    intro c hc
    obtain ⟨j,hj,rfl⟩:=hv.ks.view.idx hc
    simpa using hno j hj (by omega)
   rw [this]
  rw [hfd] at h
  exact h _ hF4
end
section
variable {H:aj}{b:Nat}{F:ay}{s:SP}{t:TB}{v:KV}{Q:QT}
theorem m6 (hK:PK H b F s t){o:Int} (h:∀ a l c G H',bv 1 H' a l c (aq (kwords s.h o)) G->Fr [] H H'->(∀ x∈G,H.size<=x)->Q (.slice a l c) H'):ah PP NR #[rd b,.int .i64 o] Q H:=by
 have hs1:aF PP 108=some (1,8,some (.int .i64 0)):=by kernel_rfl
 have hn0:=hZ (r:=s.h) o
 have hn1:=mY hK.wfs.h o
 apply EL
 unfold RN A0 iV wW pV lV cS
 have hf:Fr [] H (H.push (.cells #[.pointer (some ⟨b,0,none⟩)] 131)):=Fr.push _ _ _
 refine ⟨_,(bA.new _ _ _).cell 0,jd (hK.nil hf) fun H0 hf0=>⟨_,rfl,?_⟩⟩
 have hB0:=(bA.new H #[.pointer (some ⟨b,0,none⟩)] 131).fr hf0 (by simp)
 refine ⟨fun w H'=>∃(i:Nat) (a:Option Addr) (l' c:Nat) (G:ay),w=[.slice a l' c,.int .i64 i]∧(i:Int)<=ksize s.h o∧bv 1 H' a l' c (aq ((kwords s.h o).take i)) G∧Fr [] H0 H'∧(∀ x∈G,H0.size<=x),fun w _=>match w with
  | [_,.int _ i]=>(ksize s.h o-i).toNat
  | _=>0,⟨0,none,0,0,[],rfl,hn0,by simpa [aq] using bv.nil 1 H0,Fr.refl _ _,by simp⟩,?_⟩
 rintro w H1 ⟨i,a1,l1,c1,G,rfl,hi,ho,hf1,hG⟩ _
 have hlen:(kwords s.h o).length=(ksize s.h o).toNat:=by simp [kwords]
 have hl1:l1=i:=by have:=ho.len;simp only [aq,List.length_map,List.length_take] at this;omega
 have hF1:Fr [] H H1:=(hf.trans hf0).trans hf1
 refine ⟨_,_,_,_,rfl,?_⟩
 rw [ae]
 refine aA (fun hlt=>?_) fun hlt=>?_
 ·have htk:(kwords s.h o).take (i+1)=(kwords s.h o).take i++[kslot s.h o i]:=by
   rw [List.take_add_one,List.getElem?_eq_getElem (by omega)];simp [kwords]
  have e:IntKind.wrap .i64 ((i:Int)+1)=((i+1:Nat):Int):=by rw [am (by omega) (by omega)];omega
  refine ⟨_,(hB0.fr hf1 (by simp)).cell 0,oZ (hK.nil hF1) fun H2 hf2=>⟨_,rfl,?_⟩⟩
  refine bg hs1 rfl (by kernel_rfl) (ho.fr hf2 (by simp)) rfl (by simp [cC]) (by omega) (by decide) (by decide) fun a' c' G2 H3 g1 g2 g3=>⟨_,_,_,rfl,?_⟩
  have hfr:=Up.fresh (hf1.trans hf2) g2 hG
  rw [e]
  refine ⟨⟨i+1,a',l1+1,c',G2,rfl,by omega,?_,hfr.1,hfr.2⟩,by simp;omega⟩
  rw [htk,bt];exact g1
 ·rw [List.take_of_length_le (by omega)] at ho
  exact h _ _ _ _ H1 ho hF1 fun x hx=>Nat.le_trans (hf.trans hf0).1 (hG x hx)
theorem qk (hK:PK H b F s t) (hv:KAll s t v) (h:∀ a l c G H',bv 1 H' a l c (aO (cE v t)) G->Fr [] H H'->(∀ x∈G,H.size<=x)->Q (.slice a l c) H'):ah PP Mq #[.pointer (some ⟨b,0,none⟩)] Q H:=by
 have hs1:aF PP 37=some (1,16,some (.string (⟨#[]⟩:ByteArray))):=by kernel_rfl
 have hg:=hv.ks.shape.globs
 apply GE
 unfold Rh A0 iV wW pV sV lV cS;dsimp only [shH]
 refine iZ hK ⟨_,rfl,?_⟩
 simp only [Bool.not_true,cond_false]
 rw [mO]
 have hf1:Fr [] H (H.push (.cells #[.pointer (some ⟨b,0,none⟩)] 131)):=Fr.push _ _ _
 have hB:=bA.new H #[.pointer (some ⟨b,0,none⟩)] 131
 refine ⟨aD.2 (by simp),_,hB.cell 0,iR (hK.nil hf1) fun H2 hf2=>⟨_,rfl,?_⟩⟩
 rw [hv.ks.root1]
 have hF2:=hf1.trans hf2
 have hB2:=hB.fr hf2 (by simp)
 refine ⟨_,hB2.cell 0,jd (hK.nil hF2) fun H0 hf0=>⟨_,rfl,?_⟩⟩
 rw [hv.ks.size1]
 have hF0:=hF2.trans hf0
 have hB0:=hB2.fr hf0 (by simp)
 have ed:IntKind.wrap .i64 (Int.tdiv (2*(v.glob.length:Int)) 2)=v.glob.length:=by
  rw [show Int.tdiv (2*(v.glob.length:Int)) 2=v.glob.length by rw [Int.tdiv_eq_ediv_of_nonneg (by omega)];omega]
  exact am (by omega) (by omega)
 have hlen:(cE v t).length=v.glob.length:=by simp [cE]
 refine ⟨fun w H'=>∃(i:Nat) (a:Option Addr) (l' c:Nat) (G:ay),w=[.slice a l' c,.int .i64 i]∧i<=v.glob.length∧bv 1 H' a l' c (aO ((cE v t).take i)) G∧Fr [] H0 H'∧(∀ x∈G,H0.size<=x),fun w _=>match w with
  | [_,.int _ i]=>(v.glob.length-i).toNat
  | _=>0,⟨0,none,0,0,[],rfl,Nat.zero_le _,by simpa [aO] using bv.nil 1 H0,Fr.refl _ _,by simp⟩,?_⟩
 rintro w H1 ⟨i,a1,l1,c1,G,rfl,hi,ho,hf3,hG⟩ _
 have hl1:l1=i:=by have:=ho.len;simp only [aO,List.length_map,List.length_take] at this;omega
 have hF1:Fr [] H H1:=hF0.trans hf3
 refine ⟨_,_,_,_,rfl,?_⟩
 rw [ed,ae]
 refine aA (fun hlt=>?_) fun hlt=>?_
 ·have hlt':i<v.glob.length:=by omega
  have htk:(cE v t).take (i+1)=(cE v t).take i++[tx t v.glob[i].1]:=by
   rw [List.take_add_one,List.getElem?_eq_getElem (by omega)];simp [cE]
  have e:IntKind.wrap .i64 ((i:Int)+1)=((i+1:Nat):Int):=by rw [am (by omega) (by omega)];omega
  have e2:IntKind.wrap .i64 (2*(i:Int))=((2*i:Nat):Int):=by rw [am (by omega) (by omega)];omega
  rw [e2]
  refine ⟨_,(hB0.fr hf3 (by simp)).cell 0,tU (hK.nil hF1) fun H2 hf4=>⟨_,rfl,?_⟩⟩
  rw [hv.gname hlt']
  refine bg hs1 rfl (by kernel_rfl) (ho.fr hf4 (by simp)) rfl (by simp [cC]) (by omega) (by decide) (by decide) fun a' c' G2 H3 g1 g2 g3=>⟨_,_,_,rfl,?_⟩
  have hfr:=Up.fresh (hf3.trans hf4) g2 hG
  rw [e]
  refine ⟨⟨i+1,a',l1+1,c',G2,rfl,by omega,?_,hfr.1,hfr.2⟩,by simp;omega⟩
  rw [htk,ce];exact g1
 ·rw [List.take_of_length_le (by omega)] at ho
  exact h _ _ _ _ H1 ho hF1 fun x hx=>Nat.le_trans hF0.1 (hG x hx)
theorem Cz (hK:PK H b F s t) (hv:KAll s t v){n:Int} (h:∀ H',Fr [] H H'->Q (.tuple #[.int .i64 (jy v n).1,.int .i64 (jy v n).2]) H'):ah PP Nk #[.pointer (some ⟨b,0,none⟩),.int .i64 n] Q H:=by
 have hg:=hv.ks.shape.globs
 apply Ih
 unfold Q8 A0 iV wW pV cS;dsimp only [shH]
 unfold jy at h
 refine iZ hK ⟨_,rfl,?_⟩
 simp only [Bool.not_true,cond_false]
 rw [mO]
 have hf1:Fr [] H (H.push (.cells #[.pointer (some ⟨b,0,none⟩)] 131)):=Fr.push _ _ _
 have hB:=bA.new H #[.pointer (some ⟨b,0,none⟩)] 131
 refine ⟨aD.2 (by simp),_,hB.cell 0,iR (hK.nil hf1) fun H2 hf2=>⟨_,rfl,?_⟩⟩
 rw [hv.ks.root1,ae]
 have hF2:=hf1.trans hf2
 refine aA (fun h1=>?_) fun h1=>?_
 ·rw [dif_neg (by omega)] at h;exact h _ hF2
 have hB2:=hB.fr hf2 (by simp)
 refine ⟨_,hB2.cell 0,jd (hK.nil hF2) fun H3 hf3=>⟨_,rfl,?_⟩⟩
 have ed:IntKind.wrap .i64 (Int.tdiv (2*(v.glob.length:Int)) 2)=v.glob.length:=by
  rw [show Int.tdiv (2*(v.glob.length:Int)) 2=v.glob.length by rw [Int.tdiv_eq_ediv_of_nonneg (by omega)];omega]
  exact am (by omega) (by omega)
 rw [hv.ks.size1,ed,ae]
 refine aA (fun h2=>?_) fun h2=>?_
 ·rw [dif_neg (by omega)] at h;exact h _ (hF2.trans hf3)
 rw [dif_pos (by omega)] at h
 have e:IntKind.wrap .i64 (IntKind.wrap .i64 (2*n)+1)=((2*n.toNat+1:Nat):Int):=by rw [am (n:=2*n) (by omega) (by omega),am (by omega) (by omega)];omega
 rw [e]
 refine ⟨_,(hB2.fr hf3 (by simp)).cell 0,oZ (hK.nil (hF2.trans hf3)) fun H4 hf4=>⟨_,rfl,?_⟩⟩
 rw [(hv.ks.globAt (by omega)).2]
 exact h _ ((hF2.trans hf3).trans hf4)
theorem uz (hK:PK H b F s t) (hv:KAll s t v){n w:Int} (h:∀ H' F',PK H' b F' (eV s v n w).2 t->Up F H F' H'->Q (.int .i64 (eV s v n w).1) H'):ah PP Nu #[.pointer (some ⟨b,0,none⟩),.int .i64 n,.int .i64 w] Q H:=by
 have hg:=hv.ks.shape.globs
 apply Es
 unfold RF iV wW pV cS
 unfold eV at h
 refine Cz hK hv fun H1 hf1=>⟨_,_,rfl,?_⟩
 unfold jy
 by_cases hn:0<=n∧n<v.glob.length
 ·rw [dif_pos hn]
  rw [if_neg (by omega)] at h
  simp only [show ((0:Int) != 0)=false from rfl,cond_false]
  have hK1:=hK.nil hf1
  refine lS hK1.kinds ⟨_,rfl,?_⟩
  rw [bj,ae]
  refine aA (fun hw=>?_) fun hw=>?_
  ·rw [if_pos (by unfold dG;omega)] at h
   exact h _ _ hK1 ⟨hf1.of_nil,fun x hx=>.inl hx⟩
  rw [if_neg (by unfold dG;omega)] at h
  obtain ⟨sb,F1,hc,hS,hsub,hbF,hup,_⟩:=hK1.sp
  refine ⟨_,rfl,_,hc,cU hS fun hb F2 hR hsub2 hup2=>⟨_,rfl,iR hK1 fun H3 hf3=>⟨_,rfl,?_⟩⟩⟩
  rw [hv.ks.root1]
  have e:IntKind.wrap .i64 (IntKind.wrap .i64 (2*n)+1)=2*n+1:=by rw [am (n:=2*n) (by omega) (by omega),am (by omega) (by omega)]
  rw [e]
  refine jS (hR.fr hf3 (bi.nil_right _) (by simp)) (fun o ho=>?_) fun H4 hR4 hf4=>⟨_,rfl,?_⟩
  ·obtain ⟨x,h1,h2,_⟩:=hv.ks.view.globs
   rw [h1] at ho;cases ho;exact h2
  ·have hf34:Fr F2 H1 H4:=hf3.of_nil.trans hf4
   have hS4:=hup2 H4 _ hR4 hf34
   obtain ⟨F',hK4,hu⟩:=hup H4 F1 _ hS4 ⟨hf34.mono hsub2,fun x hx=>.inl hx⟩
   exact h _ _ hK4 ⟨hf1.of_nil.trans hu.1,fun x hx=>(hu.2 x hx).imp id fun h=>Nat.le_trans hf1.1 h⟩
 ·rw [dif_neg hn]
  rw [if_pos (by omega)] at h
  simp only [show ((1:Int) != 0)=true from rfl,cond_true]
  exact h _ _ (hK.nil hf1) ⟨hf1.of_nil,fun x hx=>.inl hx⟩
end
section
variable {H:aj}{b:Nat}{F:ay}{s:SP}{t:TB}{v:KV}{Q:QT}
theorem ud (hv:KAll s t v){i:Nat} (hi:i<v.cls.length):iT s.h t (v.cls[i]).ownA=(v.cls[i]).own.map (tx t):=by
 unfold iT
 rw [hv.ks.ownL hi,Int.toNat_natCast]
 apply List.ext_getElem (by simp)
 intro j h1 h2
 simp only [List.getElem_map,List.getElem_range]
 exact hv.ownT hi (by simpa using h2)
theorem zf (hv:KAll s t v):∀ (i:Nat){H:aj}{Q:QT} (hK:PK H b F s t) (hi:i<v.cls.length) (h:∀ a l c G H',bv 1 H' a l c (aO ((bQ v i).map (tx t))) G->Fr [] H H'->(∀ x∈G,H.size<=x)->Q (.slice a l c) H'),ah PP zI #[rd b,.int .i64 (v.cls[i]).oop] Q H:=by
 intro i
 induction i using Nat.strongRecOn with
 | ind i ih =>
  intro H Q hK hi h
  have hs1:aF PP 37=some (1,16,some (.string (⟨#[]⟩:ByteArray))):=by kernel_rfl
  have hm1:=hv.ks.shape.many1
  have hb:=iH hv.ks hi
  have hfl:=iW hv.ks i hi
  apply uT
  unfold Fa A0 iV pV lV cS
  rw [bj,ae,if_neg (by omega)]
  have hf:Fr [] H (H.push (.cells #[.pointer (some ⟨b,0,none⟩)] 131)):=Fr.push _ _ _
  have hB:=bA.new H #[.pointer (some ⟨b,0,none⟩)] 131
  refine ⟨_,hB.cell 0,_,hB.cell 0,_,hB.cell 0,_,hB.cell 0,vh (hK.nil hf) fun H1 hf1=>⟨_,rfl,?_⟩⟩
  have hB1:=hB.fr hf1 (by simp)
  have hF1:=hf.trans hf1
  refine ⟨⟨⟨hB1.cell 0,trivial⟩,⟨hB1.cell 0,trivial⟩,⟨hB1.cell 0,trivial⟩,trivial⟩,?_⟩
  have es:(if eY s.h (v.cls[i]).oop 1=1 then 0 else eY s.h (v.cls[i]).oop 1)=eJ v i:=by
   rw [hv.ks.up hi];unfold eJ;rw [List.getElem?_eq_getElem hi]
  rw [es]
  have fin:∀ (l:List Nat) (hl:bQ v i=l++(v.cls[i]).own) (a:Option Addr) (n c:Nat) (G:ay) (H2:aj),bv 1 H2 a n c (aO (l.map (tx t))) G->Fr [] H1 H2->(∀ x∈G,H1.size<=x) ->
    ∃ a10 l10 c10,Value.slice a n c=.slice a10 l10 c10∧((ac H2 ⟨H.size,0,none⟩=some (.pointer (some ⟨b,0,none⟩))∧True)∧((ac H2 ⟨H.size,0,none⟩=some (.pointer (some ⟨b,0,none⟩))∧True)∧True))∧ah PP Ef #[rd b,.int .i64 (v.cls[i]).oop,.int .i64 2] (fun v11 H3=>∃ n12:Int,v11=.int .i64 n12∧((ac H3 ⟨H.size,0,none⟩=some (.pointer (some ⟨b,0,none⟩))∧True)∧True)∧ah PP xR #[rd b,.int .i64 n12] (fun v13 H4=>∃ a14:Option Addr,∃ l14:Nat,∃ c14:Nat,v13=.slice a14 l14 c14∧True∧bk PP (Builtin.append_ #[37,37] 37 #[.slice a10 l10 c10,.slice a14 l14 c14]) (fun v15 H5=>∃ a16:Option Addr,∃ l16:Nat,∃ c16:Nat,v15=.slice a16 l16 c16∧True∧Q (.slice a16 l16 c16) H5) H4) H3) H2:=by
   intro l hl a n c G H2 ho hf2 hG
   have hB2:=hB1.fr hf2 (by simp)
   refine ⟨_,_,_,rfl,⟨⟨hB2.cell 0,trivial⟩,⟨hB2.cell 0,trivial⟩,trivial⟩,pJ (hK.nil (hF1.trans hf2)) fun H3 hf3=>⟨_,rfl,⟨⟨(hB2.fr hf3 (by simp)).cell 0,trivial⟩,trivial⟩,?_⟩⟩
   rw [hv.ks.ownO hi]
   refine Df (hK.nil ((hF1.trans hf2).trans hf3)) fun a3 l3 c3 G3 H4 ho3 hf4 hG3=>⟨_,_,_,rfl,trivial,?_⟩
   rw [ud hv hi] at ho3
   have hlen:n+l3<=8192*(i+1):=by
    have h1:=ho.len
    have h2:=ho3.len
    rw [hl,List.length_append] at hfl
    simp only [aO,List.length_map] at h1 h2
    omega
   refine bY hs1 rfl (by kernel_rfl) (ho.fr (hf3.trans hf4) (by simp)) ho3.rd wE (by omega) (by decide) (by decide) fun a' c' G4 H5 g1 g2 g3=>⟨_,_,_,rfl,trivial,?_⟩
   have hfr:=Up.fresh ((hf2.trans hf3).trans hf4) g2 hG
   refine h _ _ _ G4 H5 ?_ (hF1.trans hfr.1) fun x hx=>Nat.le_trans hF1.1 (hfr.2 x hx)
   rw [hl,List.map_append,ce];exact g1
  rcases hv.ks.upI hi with ⟨h0,e0,_⟩ | ⟨j,hj,hlt,e0,_,e⟩
  ·rw [e0]
   show ah PP zI #[rd b,.int .i64 0] _ H1
   apply uT
   unfold Fa A0 iV pV lV cS
   simp only [show ((0:Int) == 0)=true from rfl,cond_true]
   subst h0
   exact fin [] (by rw [hv.ks.fields0 hi];rfl) none 0 0 [] _ (by simpa [aO] using bv.nil 1 _) (Fr.push _ _ _) (by simp)
  ·rw [e0]
   exact ih j hlt (hK.nil hF1) hj fun a n c G H2 ho hf2 hG=>fin (bQ v j) (hv.ks.fieldsS hi hlt e) a n c G H2 ho hf2 hG
end
theorem oS {s:ByteArray}{i:Nat} (h:i<s.size):s[i]?=some s[i]∧(s[i]).toNat=gB s i:=by
 have:s[i]?=some s[i]:=by simp [h]
 exact ⟨this,by rw [vG this]⟩
section
variable {H:aj}{b:Nat}{F:ay}{s:SP}{t:TB}{v:KV}{Q:QT}
theorem qP {x:ByteArray}{lo up:Nat} (h:∀ H',Fr [] H H'->Q (.bool (decide (gp lo up x))) H'):ah PP Ny #[.string x,.int .u8 lo,.int .u8 up] Q H:=by
 apply Ip
 unfold Rc iV wW sV lV
 have no:¬ gp lo up x->∀ H',Fr [] H H'->Q (.bool false) H':=fun hn H' hf=>by have:=h H' hf;rw [decide_eq_false hn] at this;exact this
 rw [cL,ae]
 refine aA (fun h1=>no (fun hn=>?_) _ (Fr.refl _ _)) fun h1=>?_
 ·have:=hn.1;rw [h1] at this;exact absurd this (by decide)
 have hpos:0<x.size:=by
  rcases Nat.eq_zero_or_pos x.size with h0 | h0
  ·exfalso;apply h1
   obtain ⟨d⟩:=x
   have:d=#[]:=Array.eq_empty_of_size_eq_zero h0
   rw [this]
  ·exact h0
 rw [ae]
 refine aA (fun h2=>no (fun hn=>by have:=hn.2.1;omega) _ (Fr.refl _ _)) fun h2=>?_
 obtain ⟨g1,g2⟩:=oS hpos
 refine ⟨_,⟨Int.le_refl 0,g1⟩,?_⟩
 rw [g2,ae]
 refine aA (fun h3=>no (fun hn=>by have:=hn.2.2.1;omega) _ (Fr.refl _ _)) fun h3=>⟨_,⟨Int.le_refl 0,g1⟩,?_⟩
 rw [g2,ae]
 refine aA (fun h4=>no (fun hn=>by have:=hn.2.2.2.1;omega) _ (Fr.refl _ _)) fun h4=>?_
 refine wS (e:=5) (by kernel_rfl) (by kernel_rfl) (by kernel_rfl) fun cap H0 hf0 hcell=>⟨_,_,_,rfl,?_⟩
 refine ⟨fun w H'=>H'=H0∧∃ i:Nat,w=[.int .i64 i]∧i<=x.size∧∀ j,j<i->cY (gB x j),fun w _=>match w with
  | [.int _ i]=>(x.size-i).toNat
  | _=>0,⟨rfl,0,rfl,Nat.zero_le _,fun j hj=>by omega⟩,?_⟩
 rintro w H1 ⟨rfl,i,rfl,hi,hall⟩ _
 refine ⟨_,rfl,?_⟩
 rw [ae]
 refine aA (fun hlt=>?_) fun hlt=>?_
 ·have hlt':i<x.size:=by omega
  have e:IntKind.wrap .i64 ((i:Int)+1)=((i+1:Nat):Int):=by rw [am (by omega) (by omega)];omega
  have hc:=hcell i hlt'
  have hgb:((x[i]?.getD 0).toNat:Int)=(gB x i:Int):=rfl
  rw [hgb] at hc
  refine ⟨⟨by omega,hlt⟩,_,rfl,_,by rw [Int.toNat_natCast,Nat.mul_one,ao,Nat.zero_add];exact hc,?_⟩
  have go:cY (gB x i)->(True∧∃ i_1:Nat,[Value.int .i64 (IntKind.wrap .i64 ((i:Int)+1))]=[.int .i64 i_1]∧i_1<=x.size∧∀ j,j<i_1->cY (gB x j))∧((x.size:Int)-(IntKind.wrap .i64 ((i:Int)+1))).toNat<((x.size:Int)-(i:Int)).toNat:=fun ha=>by
   rw [e]
   refine ⟨⟨trivial,i+1,rfl,by omega,fun j hj=>?_⟩,by omega⟩
   rcases Nat.lt_or_ge j i with h5 | h5
   ·exact hall j h5
   ·have:j=i:=by omega
    rw [this];exact ha
  have bad:¬ cY (gB x i)->Q (.bool false) H1:=fun ha=>no (fun hn=>ha (hn.2.2.2.2 i hlt')) _ hf0
  simp only [ae]
  refine aA (fun c1=>aA (fun c2=>aA (fun c3=>bad (by unfold cY;omega)) fun c3=>aA (fun c4=>bad (by unfold cY;omega)) fun c4=>go (by unfold cY;omega)) fun c2=>aA (fun c3=>aA (fun c4=>bad (by unfold cY;omega)) fun c4=>aA (fun c5=>bad (by unfold cY;omega)) fun c5=>go (by unfold cY;omega)) fun c3=>go (by unfold cY;omega)) fun c1=>aA (fun c2=>aA (fun c3=>aA (fun c4=>bad (by unfold cY;omega)) fun c4=>aA (fun c5=>bad (by unfold cY;omega)) fun c5=>go (by unfold cY;omega)) fun c3=>aA (fun c4=>aA (fun c5=>bad (by unfold cY;omega)) fun c5=>aA (fun c6=>bad (by unfold cY;omega)) fun c6=>go (by unfold cY;omega)) fun c4=>go (by unfold cY;omega)) fun c2=>go (by unfold cY;omega)
 ·have:i=x.size:=by omega
  subst this
  have:=h H1 hf0
  have hok:gp lo up x:=⟨hpos,by omega,by omega,by omega,hall⟩
  rw [decide_eq_true hok] at this
  exact this
theorem BB {x:ByteArray} (h:∀ H',Fr [] H H'->Q (.bool (decide (gA x))) H'):ah PP IX #[.string x] Q H:=by
 apply AN
 unfold Li sV cS
 have no:¬ gA x->Q (.bool false) H:=fun hn=>by have:=h H (Fr.refl _ _);rw [decide_eq_false hn] at this;exact this
 simp only [cL,ae]
 refine aA (fun h1=>no fun hn=>hn.1 (.inl h1)) fun h1=>aA (fun h2=>no fun hn=>hn.1 (.inr (.inl h2))) fun h2=>aA (fun h3=>no fun hn=>hn.1 (.inr (.inr (.inl h3)))) fun h3=>aA (fun h4=>no fun hn=>hn.1 (.inr (.inr (.inr (.inl h4))))) fun h4=>aA (fun h5=>no fun hn=>hn.1 (.inr (.inr (.inr (.inr h5))))) fun h5=>?_
 refine qP (lo:=97) (up:=122) fun H' hf=>⟨_,rfl,?_⟩
 have:=h H' hf
 have e:decide (gA x)=decide (gp 97 122 x):=by
  rw [decide_eq_decide]
  unfold gA zD
  constructor
  ·exact fun h=>h.2
  ·exact fun hn=>⟨fun h=>by rcases h with h | h | h | h | h <;> contradiction,hn⟩
 rw [e] at this;exact this
theorem ko {a:Option Addr}{l c:Nat}{xs:List ByteArray}{x:ByteArray} (hk:Rd 1 H a l (aO xs)) (hlk:l<=1000000000000000) (h:Q (.bool (decide (x∈xs))) H):ah PP EY #[.slice a l c,.string x] Q H:=by
 have hl:l=xs.length:=by have:=hk.1;simpa [aO] using this.symm
 apply AX
 unfold ML iV sV lV
 apply z8
 unfold PI iV wW sV
 refine ⟨fun w H'=>H'=H∧∃ i:Nat,w=[.int .i64 i]∧i<=l∧∀ j (hj:j<xs.length),j<i->xs[j]≠x,fun w _=>match w with
  | [.int _ i]=>(l-i).toNat
  | _=>0,⟨rfl,0,rfl,Nat.zero_le _,fun j _ hj=>by omega⟩,?_⟩
 rintro w H1 ⟨rfl,i,rfl,hi,hall⟩ _
 refine ⟨_,rfl,?_⟩
 rw [ae]
 refine aA (fun hlt=>?_) fun hlt=>?_
 ·obtain ⟨p,hlt2,rfl,hcell⟩:=hk.str (i:=(i:Int)) (by omega) hlt
  simp only [Int.toNat_natCast] at hcell hlt2
  have e:IntKind.wrap .i64 ((i:Int)+1)=((i+1:Nat):Int):=by rw [am (by omega) (by omega)];omega
  refine ⟨⟨by omega,hlt⟩,_,rfl,_,by rw [Int.toNat_natCast,Nat.mul_one];exact hcell,?_⟩
  rw [cL,ae]
  refine aA (fun he=>⟨_,rfl,?_⟩) fun he=>?_
  ·rw [decide_eq_true (show x∈xs by rw [he];exact List.getElem_mem _)] at h
   rw [decide_eq_true (show (i:Int) ≥ 0 by omega)];exact h
  ·rw [e]
   refine ⟨⟨rfl,i+1,rfl,by omega,fun j hj hji=>?_⟩,by simp;omega⟩
   rcases Nat.lt_or_ge j i with h5 | h5
   ·exact hall j hj h5
   ·have:j=i:=by omega
    subst this;exact fun e=>he e.symm
 ·refine ⟨_,rfl,?_⟩
  have:x∉xs:=fun hm=>by
   obtain ⟨j,hj,he⟩:=List.getElem_of_mem hm
   exact hall j hj (by omega) he
  rw [decide_eq_false this] at h
  exact h
theorem vw (hK:PK H b F s t) (hv:KAll s t v){name:ByteArray} (h:∀ H',Fr [] H H'->Q (.bool (decide (gO v t name))) H'):ah PP PT #[.pointer (some ⟨b,0,none⟩),.string name] Q H:=by
 have hg:=hv.ks.shape.globs
 apply Eu
 unfold QO iV pV sV lV cS
 refine vz hK hv fun H1 hf1=>⟨_,_,rfl,?_⟩
 rw [bj,ae]
 refine aA (fun h1=>?_) fun h1=>?_
 ·have:=h H1 hf1
  rw [decide_eq_true (show gO v t name from .inl h1)] at this
  exact this
 ·refine qk (hK.nil hf1) hv fun a l c G H2 ho hf2 hG=>⟨_,_,_,rfl,ko ho.rd ?_ ⟨_,rfl,?_⟩⟩
  ·have:=ho.len
   simp only [aO,cE,List.length_map] at this
   omega
  ·have:=h H2 (hf1.trans hf2)
   have e:decide (gO v t name)=decide (name∈cE v t):=by
    rw [decide_eq_decide];unfold gO
    exact ⟨fun h=>h.resolve_left h1,.inr⟩
   rw [e] at this;exact this
theorem tA (hK:PK H b F s t) (hv:KAll s t v){name sup:ByteArray}{a:Option Addr}{l c:Nat}{own:List ByteArray} (hk:Rd 1 H a l (aO own)) (hlc:l<=c) (hlk:l<=1000000000000000)
  (h:∀ H',Fr [] H H'->Q (.tuple #[.int .i64 (i9 v t name sup own).1,.int .i64 (i9 v t name sup own).2]) H'):ah PP Pp #[.pointer (some ⟨b,0,none⟩),.string name,.string sup,.slice a l c] Q H:=by
 have hm1:=hv.ks.shape.many1
 have hl:l=own.length:=by have:=hk.1;simpa [aO] using this.symm
 apply FF
 unfold QI A0 iV wW pV sV lV cS;dsimp only [shH]
 unfold i9 at h
 refine qP (lo:=65) (up:=90) fun H1 hf1=>⟨_,rfl,?_⟩
 rw [←decide_not,ae]
 refine aA (fun h1=>?_) fun h1=>?_
 ·rw [if_pos h1] at h;exact h H1 hf1
 rw [if_neg h1] at h
 refine vw (hK.nil hf1) hv fun H2 hf2=>⟨_,rfl,?_⟩
 have hF2:=hf1.trans hf2
 rw [ae]
 refine aA (fun h2=>?_) fun h2=>?_
 ·rw [if_pos h2] at h;exact h H2 hF2
 rw [if_neg h2] at h
 refine vz (hK.nil hF2) hv fun H3 hf3=>⟨_,_,rfl,?_⟩
 have hF3:=hF2.trans hf3
 rw [bf,ae]
 refine aA (fun h3=>?_) fun h3=>?_
 ·rw [if_pos h3] at h;exact h H3 hF3
 rw [if_neg h3] at h
 rcases d8 v t sup with ⟨e,_⟩ | ⟨j,hj,e,_⟩
 ·rw [e] at h3;simp at h3
 have hfl:=iW hv.ks j hj
 rw [e] at h ⊢
 simp only [hv.ks.idx hj] at h
 rw [mO]
 have hf4:Fr [] H3 (H3.push (.cells #[.pointer (some ⟨b,0,none⟩)] 131)):=Fr.push _ _ _
 have hB:=bA.new H3 #[.pointer (some ⟨b,0,none⟩)] 131
 have hF4:=hF3.trans hf4
 generalize (H3.push (.cells #[.pointer (some ⟨b,0,none⟩)] 131))=H4 at hf4 hB hF4 ⊢
 have hW:Wr (H3.push (.cells #[.pointer none] 131)) ⟨H3.size,0,none⟩:=aD.2 (by simp)
 refine ⟨hW,fun w H'=>w=[]∧Fr [] H4 H'∧¬ (1<=j∧j<14),⟨_,hB.cell 0,xO (hK.nil hF4) fun H5 hf5=>⟨_,rfl,?_⟩⟩,?_⟩
 ·rw [hv.ks.num hj,ae]
  refine aA (fun h4=>?_) fun h4=>⟨rfl,hf5,by omega⟩
  rw [ae]
  refine aA (fun h5=>?_) fun h5=>⟨rfl,hf5,by omega⟩
  rw [if_pos (by omega)] at h
  exact h H5 (hF4.trans hf5)
 rintro w H5 ⟨rfl,hf5,h4⟩ _
 rw [if_neg h4] at h
 have hF5:=hF4.trans hf5
 refine ⟨rfl,_,(hB.fr hf5 (by simp)).cell 0,zf hv j (hK.nil hF5) hj fun a6 l6 c6 G H6 ho6 hf6 hG=>⟨_,_,_,rfl,?_⟩⟩
 have hF6:=hF5.trans hf6
 have hl6:l6=(bQ v j).length:=by have:=ho6.len;simpa [aO] using this.symm
 refine ⟨fun w H'=>∃ i:Nat,w=[.int .i64 i]∧i<=l∧Fr [] H6 H'∧mN ((bQ v j).map (tx t)) (own.take i) (own.drop i)=mN ((bQ v j).map (tx t)) [] own,fun w _=>match w with
  | [.int _ i]=>(l-i).toNat
  | _=>0,⟨0,rfl,Nat.zero_le _,Fr.refl _ _,by simp⟩,?_⟩
 rintro w H7 ⟨i,rfl,hi,hf7,hown⟩ _
 have hF7:=hF6.trans hf7
 refine ⟨_,rfl,?_⟩
 rw [ae]
 refine aA (fun hlt=>?_) fun hlt=>?_
 ·have hlt':i<own.length:=by omega
  obtain ⟨p,hlt2,rfl,hcell⟩:=(hk.fr' hF7 (by simp)).str (i:=(i:Int)) (by omega) hlt
  simp only [Int.toNat_natCast] at hcell hlt2
  have e1:IntKind.wrap .i64 ((i:Int)+1)=((i+1:Nat):Int):=by rw [am (by omega) (by omega)];omega
  have ed:own.drop i=own[i] :: own.drop (i+1):=List.drop_eq_getElem_cons hlt'
  have et:own.take (i+1)=own.take i++[own[i]]:=by rw [List.take_add_one];simp [hlt']
  rw [ed] at hown
  rw [mN] at hown
  refine ⟨⟨by omega,hlt⟩,_,rfl,_,by rw [Int.toNat_natCast,Nat.mul_one];exact hcell,BB fun H8 hf8=>⟨_,rfl,?_⟩⟩
  rw [←decide_not,ae]
  refine aA (fun h5=>?_) fun h5=>?_
  ·rw [if_pos h5] at hown
   rw [if_pos (by rw [←hown];decide),←hown] at h
   exact h H8 (hF7.trans hf8)
  rw [if_neg h5] at hown
  have hF8:=hF7.trans hf8
  refine ⟨⟨by omega,by omega⟩,ko (xs:=own.take i) ?_ (by simp;omega) ⟨_,rfl,?_⟩⟩
  ·have:=hk.fr' hF8 (by simp)
   refine ⟨by simp [aO];omega,(fun hn=>by cases hn),fun q hq k hk'=>?_⟩
   rw [Int.toNat_natCast] at hk'
   have h6:=this.2.2 q hq k (by omega)
   rw [h6]
   simp only [aO,List.getElem?_map]
   rw [List.getElem?_take_of_lt (by omega)]
  rw [ae]
  refine aA (fun h6=>?_) fun h6=>?_
  ·rw [if_pos h6] at hown
   rw [if_pos (by rw [←hown];decide),←hown] at h
   exact h H8 hF8
  rw [if_neg h6] at hown
  refine ko ((ho6.fr hf7 (by simp)).fr hf8 (by simp)).rd (by omega) ⟨_,rfl,?_⟩
  rw [ae]
  refine aA (fun h7=>?_) fun h7=>?_
  ·rw [if_pos h7] at hown
   rw [if_pos (by rw [←hown];decide),←hown] at h
   exact h H8 hF8
  rw [if_neg h7] at hown
  rw [e1]
  exact ⟨⟨i+1,rfl,by omega,hf7.trans hf8,by rw [et];exact hown⟩,by simp;omega⟩
 ·have hil:i=own.length:=by omega
  rw [hil,List.drop_length] at hown
  have h0:mN ((bQ v j).map (tx t)) [] own=0:=by rw [←hown];rfl
  rw [if_neg (by rw [h0];decide)] at h
  have ew:IntKind.wrap .i64 ((l6:Int)+(l:Int))=(l6:Int)+l:=am (by omega) (by omega)
  rw [ew,ae]
  refine aA (fun h5=>?_) fun h5=>?_
  ·rw [if_pos (by omega)] at h;exact h H7 hF7
  rw [if_neg (by omega)] at h
  refine A7 (hK.nil hF7) hv fun H8 hf8=>⟨_,rfl,?_⟩
  rw [ae]
  refine aA (fun h6=>?_) fun h6=>?_
  ·rw [if_pos (by omega)] at h;exact h H8 (hF7.trans hf8)
  rw [if_neg (by omega)] at h
  exact h H8 (hF7.trans hf8)
end
structure PM (H:aj) (mb b:Nat) (F:ay) (s:SP) (t:TB) (cnt mk kp:Int):Prop where
 k:PK H b F s t
 m:bA H mb #[.pointer (some ⟨b,0,none⟩),.int .i64 cnt,.int .i64 mk,.int .i64 kp]
 out:mb∉F
theorem Up.out {F F':ay}{H H':aj} (h:Up F H F' H'){x:Nat} (hx:x∉F) (hl:x<H.size):x∉F':=fun hm=>by
 rcases h.2 x hm with h1 | h1
 ·exact hx h1
 ·omega
theorem PM.up {H H':aj}{mb b:Nat}{F F':ay}{s s':SP}{t t':TB}{cnt mk kp:Int} (h:PM H mb b F s t cnt mk kp) (hk:PK H' b F' s' t') (hu:Up F H F' H'):PM H' mb b F' s' t' cnt mk kp :=
 ⟨hk,h.m.fr hu.1 h.out,Up.out hu h.out h.m.lt⟩
theorem PM.nil {H H':aj}{mb b:Nat}{F:ay}{s:SP}{t:TB}{cnt mk kp:Int} (h:PM H mb b F s t cnt mk kp) (hf:Fr [] H H'):PM H' mb b F s t cnt mk kp:=⟨h.k.nil hf,h.m.fr hf (by simp),h.out⟩
theorem Up.of_nil {F:ay}{H H':aj} (h:Fr [] H H'):Up F H F H':=⟨Kw.Fr.of_nil h,fun _ h=>.inl h⟩
theorem mQ {r:RH} (k i w j:Int){y:RO} (h:aH (r.put k i w).2.objs j=some y):∃ x,aH r.objs j=some x∧y.fmt=x.fmt:=by
 unfold RH.put at h
 split at h
 ·exact ⟨y,h,rfl⟩
 split at h
 ·exact ⟨y,h,rfl⟩
 split at h
 ·exact ⟨y,h,rfl⟩
 ·simp only at h
  rw [gH (f:=iS i w) (fun o=>rfl)] at h
  cases hx:aH r.objs j with
  | none=>rw [hx] at h;cases h
  | some x =>
   rw [hx] at h
   simp only [Option.map_some,Option.some.injEq] at h
   refine ⟨x,rfl,?_⟩
   rw [←h]
   split <;> rfl
section
variable {H:aj}{mb b:Nat}{F:ay}{s:SP}{t:TB}{v:KV}{cnt mk kp:Int}{Q:QT}
theorem lK (hM:PM H mb b F s t cnt mk kp){x:ByteArray} (h:∀ H' F',PM H' mb b F' s (t.add x).2 cnt mk kp->Up F H F' H'->Q (.tuple #[.int .i64 (if (t.add x).1.2=0 then 4*(t.add x).1.1+2 else 0),.int .i64 (t.add x).1.2]) H'):ah PP Mj #[.pointer (some ⟨mb,0,none⟩),.string x] Q H:=by
 apply Gy
 unfold Rf iV pV sV cS
 obtain ⟨tb,F2,hc,hT,hsub,hnb,hup,_⟩:=hM.k.tb
 refine ⟨_,rfl,_,hM.m.cell 0,_,rfl,_,hc,mT hT fun H1 F1 hT1 hu1=>⟨_,_,rfl,?_⟩⟩
 obtain ⟨F',hK',hu'⟩:=hup H1 F1 _ hT1 hu1
 have hM':=hM.up hK' hu'
 rw [bf,ae]
 refine aA (fun h1=>?_) fun h1=>?_
 ·have:=h _ _ hM' hu'
  rw [if_neg h1] at this;exact this
 ·have hz:(t.add x).1.2=0:=Classical.byContradiction h1
  obtain ⟨n,e1,e2,_⟩:=gU x hz
  have hw:=hK'.wft
  have h2:=(cA e2).2
  have h3:=hw.m1
  have h4:=hw.len
  rw [e1]
  refine vK ⟨by omega,by omega⟩ ⟨_,_,rfl,?_⟩
  have:=h _ _ hM' hu'
  rw [if_pos hz,e1,hz] at this;exact this
theorem vl (hM:PM H mb b F s t cnt mk kp){cls:Int} (hcls:1<=cls∧cls<=65536){a:Option Addr}{l c:Nat}{ws:List Int} (hk:Rd 1 H a l (aq ws)) (hd:∀ p,a=some p->p.block∉F) (hlk:l<=1000000000)
  (h:∀ H' F',PM H' mb b F' (s.make cls ws).2 t cnt mk kp->Up F H F' H'->Q (.tuple #[.int .i64 (s.make cls ws).1.1,.int .i64 (s.make cls ws).1.2]) H'):ah PP Gm #[.pointer (some ⟨mb,0,none⟩),.int .i64 cls,.slice a l c] Q H:=by
 have hl:l=ws.length:=by have:=hk.1;simpa [aq] using this.symm
 apply BC
 unfold Nw A0 iV wW pV lV cS
 unfold SP.make at h
 obtain ⟨sb,F1,hc,hS,hsub,hnb,_,hup⟩:=hM.k.sp
 refine ⟨_,rfl,_,hM.m.cell 0,_,rfl,_,hc,dh hcls ⟨_,rfl,⟨⟨hc,trivial⟩,⟨hM.m.cell 0,trivial⟩,trivial⟩,?_⟩⟩
 rw [hl]
 refine lZ hS fun H1 hS1 hf1=>⟨_,_,rfl,trivial,?_⟩
 have hfF:=hf1.mono hsub
 have hu':Up F H F H1:=⟨hfF,fun _ h=>.inl h⟩
 have hM':=hM.up (hup H1 _ hS1 hf1) hu'
 have hd':=hk.fr' hfF hd
 rw [bf,ae]
 refine aA (fun h1=>?_) fun h1=>?_
 ·rw [if_pos h1] at h;exact h _ _ hM' hu'
 rw [if_neg h1] at h
 have hz:(s.alloc (4*cls) ws.length 0).1.2=0:=Classical.byContradiction h1
 obtain ⟨o,e1,o1,o2,_,_,harr,_⟩:=ir hM.k.wfs hz
 rw [if_pos hz]
 rw [e1] at h ⊢
 have e2:4*o / 4=o:=by omega
 rw [e2] at h
 generalize (s.alloc (4*cls) ws.length 0).2=s1 at *
 have hk3:cz (4*o)=3:=by have:=bG (4*o);omega
 refine mu hM'.k.kinds ?_
 unfold qD
 rw [if_pos hk3]
 simp only [e2]
 refine ⟨_,_,rfl,?_⟩
 refine ⟨fun w H'=>∃(i:Nat) (r:RH),w=[.int .i64 i]∧i<=ws.length∧PM H' mb b F { s1 with h:=r } t cnt mk kp∧Fr F H1 H'∧r.lay o i (ws.drop i)=s1.h.lay o 0 ws∧∀ x,aH r.objs o=some x->x.fmt=0,fun w _=>match w with
  | [.int _ i]=>(ws.length-i).toNat
  | _=>0,⟨0,s1.h,rfl,Nat.zero_le _,hM',Fr.refl _ _,rfl,fun x hx=>by obtain ⟨y,h2,h3,_⟩:=harr;rw [h2] at hx;cases hx;exact h3⟩,?_⟩
 rintro w H4 ⟨i,r,rfl,hi,hM4,hf4,hlay,hfmt⟩ _
 refine ⟨_,rfl,?_⟩
 rw [ae]
 refine aA (fun hlt=>?_) fun hlt=>?_
 ·obtain ⟨p,rfl,hcell,hlt2⟩:=(hd'.fr' hf4 hd).int (i:=(i:Int)) (by omega) (by omega)
  rw [Int.toNat_natCast] at hcell hlt2
  have hx:ws.getD i 0=ws[i]:=by simp [hlt2]
  rw [hx] at hcell
  have ed:ws.drop i=ws[i] :: ws.drop (i+1):=List.drop_eq_getElem_cons hlt2
  have e:IntKind.wrap .i64 ((i:Int)+1)=((i+1:Nat):Int):=by rw [am (by omega) (by omega)];omega
  obtain ⟨sb4,F4,hc4,hS4,hsub4,_,_,hup4⟩:=hM4.k.sp
  refine ⟨⟨by omega,hlt⟩,_,rfl,_,by rw [Int.toNat_natCast,Nat.mul_one];exact hcell,_,rfl,_,hM4.m.cell 0,_,rfl,_,hc4,cU hS4 fun hb F5 hR hsub5 hup5=>⟨_,rfl,jS hR hfmt fun H6 hR6 hf6=>⟨_,rfl,?_⟩⟩⟩
  have hS6:=hup5 H6 _ hR6 hf6
  have hK6:=hup4 H6 _ hS6 (hf6.mono hsub5)
  have hf6':Fr F H4 H6:=(hf6.mono hsub5).mono hsub4
  have hM6:=hM4.up hK6 ⟨hf6',fun _ h=>.inl h⟩
  rw [e]
  refine ⟨⟨i+1,(r.put o i ws[i]).2,rfl,by omega,hM6,hf4.trans hf6',?_,fun x hx=>?_⟩,by simp;omega⟩
  ·rw [←hlay,ed]
   simp only [RH.lay]
   congr 1
   all_goals omega
  ·obtain ⟨y,h2,h3⟩:=mQ o i ws[i] o hx
   rw [h3];exact hfmt y h2
 ·have hil:i=ws.length:=by omega
  subst hil
  rw [List.drop_length] at hlay
  simp only [RH.lay] at hlay
  rw [hlay] at hM4
  obtain ⟨sb4,F4,hc4,hS4,hsub4,_,hup4,_⟩:=hM4.k.sp
  refine ⟨_,rfl,_,hM4.m.cell 0,_,rfl,_,hc4,?_⟩
  have fp:Fr [] H4 (H4.push (.cells #[.int .i64 (4*o)] 36)):=Fr.push _ _ _
  have hM5:=hM4.nil fp
  obtain ⟨sb5,F5,hc5,hS5,hsub5,_,hup5,_⟩:=hM5.k.sp
  have hsb:sb5=sb4:=by
   have:ac (H4.push (.cells #[.int .i64 (4*o)] 36)) ⟨b,0,none⟩=ac H4 ⟨b,0,none⟩:=dm (hM4.k.lt b hM4.k.bmem)
   rw [this,hc4] at hc5
   simpa using hc5.symm
  subst hsb
  refine lu hS5 (ws:=[4*o]) ?_ (by omega) fun H7 F7 hS7 hu7=>⟨_,rfl,?_⟩
  ·refine ⟨rfl,(fun h=>by cases h),fun p hp k hk=>?_⟩
   cases hp
   have:k=0:=by omega
   subst this
   rw [ao]
   exact (bA.new H4 _ _).cell 0
  ·obtain ⟨F',hK7,hu7'⟩:=hup5 H7 F7 _ hS7 hu7
   have hM7:=hM5.up hK7 hu7'
   exact h H7 F' hM7 ((hu'.trans ⟨hf4,fun _ h=>.inl h⟩).trans ((Up.of_nil fp).trans hu7'))
theorem tg (hM:PM H mb b F s t cnt mk kp){a:Option Addr}{l c:Nat}{ws:List Int} (hk:Rd 1 H a l (aq ws)) (hd:∀ p,a=some p->p.block∉F) (hlk:l<=1000000000)
  (h:∀ H' F',PM H' mb b F' (s.array ws).2 t cnt mk kp->Up F H F' H'->Q (.tuple #[.int .i64 (s.array ws).1.1,.int .i64 (s.array ws).1.2]) H'):ah PP Eb #[.pointer (some ⟨mb,0,none⟩),.slice a l c] Q H:=by
 have hl:l=ws.length:=by have:=hk.1;simpa [aq] using this.symm
 apply IE
 unfold Ri iV pV lV cS
 unfold SP.array at h
 rw [bj,ae]
 refine aA (fun h0=>?_) fun h0=>?_
 ·have:ws=[]:=List.eq_nil_of_length_eq_zero (by omega)
  rw [if_pos this] at h
  exact dh (by decide) ⟨_,rfl,h H F hM (Up.refl _ _)⟩
 ·have:ws≠[]:=fun e=>h0 (by rw [hl,e];rfl)
  rw [if_neg this] at h
  exact vl hM (by decide) hk hd hlk fun H' F' hM' hu=>⟨_,_,rfl,h H' F' hM' hu⟩
end
def mM (H:aj) (a:Option Addr) (F:ay):Prop:=∀ p,a=some p->p.block<H.size∧p.block∉F
theorem mM.up {H H':aj}{a:Option Addr}{F F':ay} (h:mM H a F) (hu:Up F H F' H'):mM H' a F':=fun p hp=>⟨Nat.lt_of_lt_of_le (h p hp).1 hu.1.1,Up.out hu (h p hp).2 (h p hp).1⟩
theorem mM.rd {H H':aj}{a:Option Addr}{F F':ay}{l:Nat}{ys:List Value} (h:mM H a F) (hu:Up F H F' H') (hk:Rd 1 H a l ys):Rd 1 H' a l ys:=hk.fr' hu.1 fun p hp=>(h p hp).2
def fQ (H:aj) (a:Option Addr) (l:Nat) (F:ay):Prop:=l=0∨mM H a F
theorem fQ.up {H H':aj}{a:Option Addr}{l:Nat}{F F':ay} (h:fQ H a l F) (hu:Up F H F' H'):fQ H' a l F':=h.imp id fun h=>h.up hu
theorem fQ.rd {H H':aj}{a:Option Addr}{F F':ay}{l:Nat}{ys:List Value} (h:fQ H a l F) (hu:Up F H F' H') (hk:Rd 1 H a l ys):Rd 1 H' a l ys:=by
 rcases h with h | h
 ·subst h
  exact ⟨hk.1,hk.2.1,fun p _ i hi=>by simp at hi⟩
 ·exact h.rd hu hk
theorem bv.out {H:aj}{a:Option Addr}{l c:Nat}{xs:List Value}{F G:ay} (h:bv 1 H a l c xs G) (hd:bi G F):mM H a F:=fun p hp=>by
 have hlt:=h.lt
 rcases h.2.2 with ⟨h1,_⟩ | ⟨b',cs,h1,rfl,_⟩
 ·rw [h1] at hp;cases hp
 ·rw [h1] at hp;cases hp
  exact ⟨hlt _ (by simp),hd _ (by simp)⟩
theorem bz {F:ay}{H H':aj}{b o:Nat} (hf:Fr F H H') (hb:b∉F) (hl:b<H.size):ac H' ⟨b,o,none⟩=ac H ⟨b,o,none⟩:=by
 unfold ac;rw [hf.2 b hl hb]
theorem fK {H:aj}{cs:List Int}{t:TypeId}:Rd 1 (H.push (.cells (aq cs).toArray t)) (some ⟨H.size,0,none⟩) cs.length (aq cs):=by
 refine ⟨by simp [aq],(fun h=>by cases h),fun p hp k hk=>?_⟩
 cases hp
 rw [ao,Nat.zero_add,(bA.new H _ _).cell]
 simp
section
variable {H:aj}{mb b:Nat}{F:ay}{s:SP}{t:TB}{v:KV}{cnt mk kp:Int}{Q:QT}
theorem vp (hK:PK H b F s t) (h:∀ H' mb,PM H' mb b F s t t.texts.length s.h.mark s.stack.length->Fr [] H H'->Q (.pointer (some ⟨mb,0,none⟩)) H'):ah PP LQ #[.pointer (some ⟨b,0,none⟩)] Q H:=by
 apply FO
 unfold Q5 A0 iV pV lV cS
 obtain ⟨tb,F2,hc2,hT,_⟩:=hK.tb
 obtain ⟨sb,F1,hc,hS,_⟩:=hK.sp
 refine ⟨_,rfl,_,hc2,_,rfl,_,hc,_,rfl,_,hc,wj hT ⟨_,rfl,⟨⟨hc,trivial⟩,⟨hc,trivial⟩,trivial⟩,cU hS fun hb F3 hR _ _=>⟨_,rfl,⟨⟨hc,trivial⟩,trivial⟩,pR hR ⟨_,rfl,⟨⟨hc,trivial⟩,trivial⟩,?_⟩⟩⟩⟩
 refine jt hS fun a c H1 _ hf=>⟨_,_,_,rfl,trivial,trivial,?_⟩
 have hf2:=hf.more (o:=.cells #[.pointer (some ⟨b,0,none⟩),.int .i64 (t.texts.length:Int),.int .i64 s.h.mark,.int .i64 (s.stack.length:Int)] 146)
 refine h _ H1.size ⟨hK.nil hf2,bA.new _ _ _,fun hm=>?_⟩ hf2
 have:=(hK.nil hf).lt _ hm
 omega
theorem D4 (hM:PM H mb b F s t cnt mk kp) (hkp:0<=kp∧kp<=1000000){e:Int} (h:∀ H',PK H' b F (lA s t mk cnt kp e).1 (lA s t mk cnt kp e).2->Fr F H H'->Q (.int .i64 e) H'):ah PP Ej #[.pointer (some ⟨mb,0,none⟩),.int .i64 e] Q H:=by
 have hmany:=hM.k.wfs.many
 apply La
 unfold RC iV wW pV lV cS
 unfold lA at h
 obtain ⟨sb,F1,hc,hS,hsub,hbF1,_,hup⟩:=hM.k.sp
 refine ⟨_,rfl,_,hM.m.cell 0,_,rfl,_,hc,_,rfl,_,hM.m.cell 3,jt hS fun a c H1 _ hf=>⟨_,_,_,rfl,⟨⟨(hM.m.fr hf (by simp)).cell 3,trivial⟩,trivial⟩,?_⟩⟩
 have ew:IntKind.wrap .i64 ((s.stack.length:Int)-kp)=(s.stack.length:Int)-kp:=am (by omega) (by omega)
 rw [ew]
 refine oW (hS.nilfr hf) ⟨by omega,by omega⟩ fun H2 hS2 hf2=>⟨_,rfl,trivial,?_⟩
 have hf12:Fr F1 H H2:=hf.of_nil.trans hf2
 have hfF:Fr F H H2:=hf12.mono hsub
 have hM2:=hM.up (hup H2 _ hS2 hf12) ⟨hfF,fun _ h=>.inl h⟩
 rw [bj,ae]
 refine aA (fun h1=>?_) fun h1=>?_
 ·rw [if_pos h1] at h;exact h H2 hM2.k hfF
 rw [if_neg h1] at h
 obtain ⟨tb,F3,hc3,hT,hsub3,hbF3,_,hup3⟩:=hM2.k.tb
 refine ⟨_,rfl,_,hM2.m.cell 0,_,rfl,_,hc3,_,rfl,_,hM2.m.cell 1,y8 hT fun H3 hT3 hf3=>⟨_,rfl,trivial,?_⟩⟩
 have hf3':Fr F H2 H3:=hf3.mono hsub3
 have hM3:=hM2.up (hup3 H3 _ hT3 hf3) ⟨hf3',fun _ h=>.inl h⟩
 rw [bf,ae]
 refine aA (fun h2=>?_) fun h2=>?_
 ·rw [if_neg h2] at h
  obtain ⟨sb4,F4,hc4,hS4,hsub4,_,_,hup4⟩:=hM3.k.sp
  have hsb:sb4=sb:=by
   have hbl:=hM.k.lt b hM.k.bmem
   have e1:ac H3 ⟨b,0,none⟩=some (.pointer (some ⟨sb,0,none⟩)):=by
    rw [bz hf3 hbF3 (Nat.lt_of_lt_of_le hbl hf12.1),bz hf12 hbF1 hbl,hc]
   rw [hc4] at e1;simpa using e1
  subst hsb
  refine ⟨_,rfl,_,hM3.m.cell 2,cU hS4 fun hb F5 hR hsub5 hup5=>⟨_,rfl,⟨⟨hM3.m.cell 2,trivial⟩,trivial⟩,x6 hR fun H5 hR5 hf5=>⟨_,rfl,trivial,?_⟩⟩⟩
  have hS5:=hup5 H5 _ hR5 hf5
  have hK5:=hup4 H5 _ hS5 (hf5.mono hsub5)
  have:=h H5 ?_ ((hfF.trans hf3').trans ((hf5.mono hsub5).mono hsub4))
  ·exact this
  ·have ed:(s.drop ((s.stack.length:Int)-kp)).2.h=s.h:=by unfold SP.drop;split <;> rfl
   simp only [ed] at hK5
   exact hK5
 ·have h24:e=24:=Classical.byContradiction h2
  rw [if_pos h24] at h
  refine h H3 ?_ (hfF.trans hf3')
  have ed:(s.drop ((s.stack.length:Int)-kp)).2.h=s.h:=by unfold SP.drop;split <;> rfl
  have hK3:=hM3.k
  generalize (s.drop ((s.stack.length:Int)-kp)).2=s' at *
  cases s'
  simp only at ed
  subst ed
  exact hK3
theorem KS.words {s:SP}{v:KV} (h:KS s v):kwords s.h v.clsA=v.clsW:=h.view.all.kwords
theorem jF {H0:aj} (hM:PM H0 mb b F s t cnt mk kp) (hf:Fr [] H0 H){a a2:Option Addr}{l c c2 l2:Nat}{G:ay}{ws xs:List Int}{Q:QT} (ho:bv 1 H a l c (aq ws) G) (hG:∀ x∈G,H0.size<=x) (hws:ws.length<=8192) (h2:Rd 1 H a2 l2 (aq xs)) (hxs:l2<=8192)
  (h:∀ H' F',PM H' mb b F' (s.array (ws++xs)).2 t cnt mk kp->Up F H0 F' H'->Q (.tuple #[.int .i64 (s.array (ws++xs)).1.1,.int .i64 (s.array (ws++xs)).1.2]) H') :
  bk PP (Builtin.append_ #[108,108] 108 #[.slice a l c,.slice a2 l2 c2]) (fun v H'=>∃ a3:Option Addr,∃ l3:Nat,∃ c3:Nat,v=.slice a3 l3 c3∧True∧ah PP Eb #[.pointer (some ⟨mb,0,none⟩),.slice a3 l3 c3] Q H') H:=by
 have hs1:aF PP 108=some (1,8,some (.int .i64 0)):=by kernel_rfl
 have hl:l=ws.length:=by have:=ho.len;simpa [aq] using this.symm
 have hlt:=hM.k.lt
 refine bY hs1 rfl (by kernel_rfl) ho h2 cM (by omega) (by decide) (by decide) fun a' c' G' H' g1 g2 g3=>⟨_,_,_,rfl,trivial,?_⟩
 obtain ⟨hf',hG'⟩:=Up.fresh hf g2 hG
 have ho':mM H' a' F:=bv.out g1 fun x hx hm=>by have:=hG' x hx;have:=hlt x hm;omega
 rw [←bt] at g1
 exact tg (hM.nil hf') g1.rd (fun p hp=>(ho' p hp).2) (by omega) fun H2 F' hM2 hu=>h H2 F' hM2 ((Up.of_nil hf').trans hu)
theorem uq (hM:PM H mb b F s t cnt mk kp) (hk:KS s v){c:Int} (hc:1<=c∧c<=65536) (hst:s.stack.length<65000)
  (h:∀ H' F',PM H' mb b F' (fj s t v.clsW (4*c)).2.1 t cnt mk kp->Up F H F' H'->Q (.tuple #[.int .i64 (fj s t v.clsW (4*c)).1.1,.int .i64 (fj s t v.clsW (4*c)).1.2]) H') :
  ∃ J37:List Value->aj->Prop,(∃ q38,(some ⟨mb,0,none⟩:Option Addr)=some q38∧∃ p39:Option Addr,ac H q38=some (.pointer p39)∧∃ q40,(some ⟨mb,0,none⟩:Option Addr)=some q40∧∃ p41:Option Addr,ac H q40=some (.pointer p41)∧(ah PP 74 #[.agg #[.pointer p41],.int .i64 0] (fun v42 H12=>∃ n43:Int,v42=.int .i64 n43∧((ac H12 q38=some (.pointer p39)∧True)∧True)∧(ah PP 95 #[.agg #[.pointer p39],.int .i64 n43] (fun v44 H13=>∃ a45:Option Addr,∃ l45:Nat,∃ c45:Nat,v44=.slice a45 l45 c45∧True∧True∧bk PP (Builtin.append_ #[108,108] 108 #[.slice a45 l45 c45,.slice (some (⟨H13.size,0,none⟩:Addr)) 1 1]) (fun v46 H14=>∃ a47:Option Addr,∃ l47:Nat,∃ c47:Nat,v46=.slice a47 l47 c47∧True∧ah PP 94 #[.pointer (some ⟨mb,0,none⟩:Option Addr),.slice a47 l47 c47] (fun v48 H15=>∃ n49:Int,∃ n50:Int,v48=.tuple #[.int .i64 n49,.int .i64 n50]∧True∧J37 [.int .i64 n50,.int .i64 n49] H15) H14) (H13.push (.cells #[.int .i64 (4*c)] 36))) H12)∧(((ac (H12.push (.cells #[.int .i64 (4*c)] 36)) q38=some (.pointer p39)∧True)∧True)∧ah PP 95 #[.agg #[.pointer p39],.int .i64 n43] (fun v51 H16=>∃ a52:Option Addr,∃ l52:Nat,∃ c52:Nat,v51=.slice a52 l52 c52∧True∧bk PP (Builtin.append_ #[108,108] 108 #[.slice a52 l52 c52,.slice (some (⟨H12.size,0,none⟩:Addr)) 1 1]) (fun v53 H17=>∃ a54:Option Addr,∃ l54:Nat,∃ c54:Nat,v53=.slice a54 l54 c54∧True∧ah PP 94 #[.pointer (some ⟨mb,0,none⟩:Option Addr),.slice a54 l54 c54] (fun v55 H18=>∃ n56:Int,∃ n57:Int,v55=.tuple #[.int .i64 n56,.int .i64 n57]∧True∧J37 [.int .i64 n57,.int .i64 n56] H18) H17) H16) (H12.push (.cells #[.int .i64 (4*c)] 36)))) H)∧(((ac (H.push (.cells #[.int .i64 (4*c)] 36)) q40=some (.pointer p41)∧True)∧((ac (H.push (.cells #[.int .i64 (4*c)] 36)) q38=some (.pointer p39)∧True)∧True))∧ah PP 74 #[.agg #[.pointer p41],.int .i64 0] (fun v58 H19=>∃ n59:Int,v58=.int .i64 n59∧((ac H19 q38=some (.pointer p39)∧True)∧True)∧ah PP 95 #[.agg #[.pointer p39],.int .i64 n59] (fun v60 H20=>∃ a61:Option Addr,∃ l61:Nat,∃ c61:Nat,v60=.slice a61 l61 c61∧True∧bk PP (Builtin.append_ #[108,108] 108 #[.slice a61 l61 c61,.slice (some (⟨H.size,0,none⟩:Addr)) 1 1]) (fun v62 H21=>∃ a63:Option Addr,∃ l63:Nat,∃ c63:Nat,v62=.slice a63 l63 c63∧True∧ah PP 94 #[.pointer (some ⟨mb,0,none⟩:Option Addr),.slice a63 l63 c63] (fun v64 H22=>∃ n65:Int,∃ n66:Int,v64=.tuple #[.int .i64 n65,.int .i64 n66]∧True∧J37 [.int .i64 n66,.int .i64 n65] H22) H21) H20) H19) (H.push (.cells #[.int .i64 (4*c)] 36))))∧∀ w67 H23,J37 w67 H23->∀ _g:Nat->Value,∃ n68:Int,∃ n69:Int,w67=[.int .i64 n68,.int .i64 n69]∧cond (n68 != 0) (Q (.tuple #[.int .i64 0,.int .i64 n68]) H23) (∃ q70,(some ⟨mb,0,none⟩:Option Addr)=some q70∧∃ p71:Option Addr,ac H23 q70=some (.pointer p71)∧∃ q72,p71=some q72∧∃ p73:Option Addr,ac H23 q72=some (.pointer p73)∧ah PP 96 #[.pointer p73,.int .i64 0,.int .i64 n69] (fun v74 H24=>∃ n75:Int,v74=.int .i64 n75∧ah PP 183 #[.int .i64 (4*c)] (fun v76 H25=>∃ n77:Int,∃ n78:Int,v76=.tuple #[.int .i64 n77,.int .i64 n78]∧Q (.tuple #[.int .i64 n77,.int .i64 n78]) H25) H24) H23):=by
 have hm1:=hk.shape.many1
 have hcw:v.clsW.length<=8192:=by simp [KV.clsW];omega
 have hws:∀ w∈v.clsW++[4*c],dG w:=fun w hw=>by
  rcases List.mem_append.1 hw with hw | hw
  ·exact kr hk w hw
  ·simp only [List.mem_singleton] at hw;rw [hw];exact cq hc.1 hc.2
 obtain ⟨h1,h2,⟨m,h3,h3'⟩,h4⟩:=dg hk (by omega) hws
 refine ⟨fun w H'=>∃ F',w=[.int .i64 (s.array (v.clsW++[4*c])).1.2,.int .i64 (s.array (v.clsW++[4*c])).1.1]∧PM H' mb b F' (s.array (v.clsW++[4*c])).2 t cnt mk kp∧Up F H F' H',?_,?_⟩
 ·have hB:=hM.m
  have mc:∀ {H':aj},Fr [] H H'->ac H' ⟨mb,0,none⟩=some (.pointer (some ⟨b,0,none⟩)):=fun hf=>(hB.fr hf (by simp)).cell 0
  have one:∀ {H':aj},Rd 1 (H'.push (.cells #[.int .i64 (4*c)] 36)) (some ⟨H'.size,0,none⟩) 1 (aq [4*c]):=fun {H'}=>fK (H:=H') (cs:=[4*c])
  refine ⟨_,rfl,_,hB.cell 0,_,rfl,_,hB.cell 0,?_,?_⟩
  ·refine iR hM.k fun H12 f12=>⟨_,rfl,⟨⟨mc f12,trivial⟩,trivial⟩,?_,?_⟩
   ·rw [hk.root0]
    refine m6 (hM.k.nil f12) fun a l cc G H13 ho f13 hG=>⟨_,_,_,rfl,trivial,trivial,?_⟩
    rw [KS.words hk] at ho
    have fp:=(Fr.push [] H13 (.cells #[.int .i64 (4*c)] 36))
    refine jF hM ((f12.trans f13).trans fp) (ho.fr fp (by simp)) (fun x hx=>Nat.le_trans f12.1 (hG x hx)) hcw one (by decide) fun H' F' hM' hu=>⟨_,_,rfl,trivial,F',rfl,hM',hu⟩
   ·have fp:=(Fr.push [] H12 (.cells #[.int .i64 (4*c)] 36))
    refine ⟨⟨⟨mc (f12.trans fp),trivial⟩,trivial⟩,?_⟩
    rw [hk.root0]
    refine m6 (hM.k.nil (f12.trans fp)) fun a l cc G H13 ho f13 hG=>⟨_,_,_,rfl,trivial,?_⟩
    rw [KS.words hk] at ho
    refine jF hM ((f12.trans fp).trans f13) ho (fun x hx=>Nat.le_trans (f12.trans fp).1 (hG x hx)) hcw (one.fr' f13 (by simp)) (by decide) fun H' F' hM' hu=>⟨_,_,rfl,trivial,F',rfl,hM',hu⟩
  ·have fp:=(Fr.push [] H (.cells #[.int .i64 (4*c)] 36))
   refine ⟨⟨⟨mc fp,trivial⟩,⟨mc fp,trivial⟩,trivial⟩,?_⟩
   refine iR (hM.k.nil fp) fun H12 f12=>⟨_,rfl,⟨⟨mc (fp.trans f12),trivial⟩,trivial⟩,?_⟩
   rw [hk.root0]
   refine m6 (hM.k.nil (fp.trans f12)) fun a l cc G H13 ho f13 hG=>⟨_,_,_,rfl,trivial,?_⟩
   rw [KS.words hk] at ho
   refine jF hM ((fp.trans f12).trans f13) ho (fun x hx=>Nat.le_trans (fp.trans f12).1 (hG x hx)) hcw (one.fr' (f12.trans f13) (by simp)) (by decide) fun H' F' hM' hu=>⟨_,_,rfl,trivial,F',rfl,hM',hu⟩
 ·rintro w H23 ⟨F',rfl,hM',hu⟩ _
  unfold fj at h
  refine ⟨_,_,rfl,?_⟩
  rw [bf,ae]
  refine aA (fun he=>?_) fun he=>?_
  ·rw [if_pos he] at h;exact h _ _ hM' hu
  rw [if_neg he] at h
  obtain ⟨sb,F1,hcs,hS,hsub,_,_,hup⟩:=hM'.k.sp
  refine ⟨_,rfl,_,hM'.m.cell 0,_,rfl,_,hcs,mr hS (fun o ho=>?_) fun H4 hS4 hf4=>⟨_,rfl,?_⟩⟩
  ·obtain ⟨x,hx1,hx2,_⟩:=h1.view.root
   rw [h1.king] at ho
   rw [hx1] at ho;cases ho;exact hx2
  have hK4:=hup H4 _ hS4 hf4
  have hu4:Up F' H23 F' H4:=⟨hf4.mono hsub,fun _ h=>.inl h⟩
  have hM4:=hM'.up hK4 hu4
  refine mu hM4.k.kinds ?_
  unfold qD
  rw [if_pos (show cz (4*c)=3 by have:=bG (4*c);omega)]
  exact ⟨_,_,rfl,h _ _ hM4 (hu.trans hu4)⟩
theorem uL (hM:PM H mb b F s t cnt mk kp) (hk:KS s v){n up l:Int} (hn:dG n) (hup:1<=up∧up<=65536) (hl:dG l) (hst:s.stack.length<64000){n27 n31:Int} (e27:n27=72) (e31:n31=1)
  {n29:Int} (e29:n29=4*up){n33:Int} (e33:n33=2*((v.cls.length:Int)+1)+1)
  (h:∀ H' F',PM H' mb b F' (ji s t v.clsW n up l).2.1 t cnt mk kp->Up F H F' H'->Q (.tuple #[.int .i64 (ji s t v.clsW n up l).1.1,.int .i64 (ji s t v.clsW n up l).1.2]) H') :
  ah PP 206 #[.pointer (some ⟨mb,0,none⟩:Option Addr),.int .i64 12,.slice (some (⟨H.size,0,none⟩:Addr)) 7 7] (fun v34 H11=>∃ n35:Int,∃ n36:Int,v34=.tuple #[.int .i64 n35,.int .i64 n36]∧cond (n36 != 0) (Q (.tuple #[.int .i64 0,.int .i64 n36]) H11) (∃ J37:List Value->aj->Prop,(∃ q38,(some ⟨mb,0,none⟩:Option Addr)=some q38∧∃ p39:Option Addr,ac H11 q38=some (.pointer p39)∧∃ q40,(some ⟨mb,0,none⟩:Option Addr)=some q40∧∃ p41:Option Addr,ac H11 q40=some (.pointer p41)∧(ah PP 74 #[.agg #[.pointer p41],.int .i64 0] (fun v42 H12=>∃ n43:Int,v42=.int .i64 n43∧((ac H12 q38=some (.pointer p39)∧True)∧True)∧(ah PP 95 #[.agg #[.pointer p39],.int .i64 n43] (fun v44 H13=>∃ a45:Option Addr,∃ l45:Nat,∃ c45:Nat,v44=.slice a45 l45 c45∧True∧True∧bk PP (Builtin.append_ #[108,108] 108 #[.slice a45 l45 c45,.slice (some (⟨H13.size,0,none⟩:Addr)) 1 1]) (fun v46 H14=>∃ a47:Option Addr,∃ l47:Nat,∃ c47:Nat,v46=.slice a47 l47 c47∧True∧ah PP 94 #[.pointer (some ⟨mb,0,none⟩:Option Addr),.slice a47 l47 c47] (fun v48 H15=>∃ n49:Int,∃ n50:Int,v48=.tuple #[.int .i64 n49,.int .i64 n50]∧True∧J37 [.int .i64 n50,.int .i64 n49] H15) H14) (H13.push (.cells #[.int .i64 n35] 36))) H12)∧(((ac (H12.push (.cells #[.int .i64 n35] 36)) q38=some (.pointer p39)∧True)∧True)∧ah PP 95 #[.agg #[.pointer p39],.int .i64 n43] (fun v51 H16=>∃ a52:Option Addr,∃ l52:Nat,∃ c52:Nat,v51=.slice a52 l52 c52∧True∧bk PP (Builtin.append_ #[108,108] 108 #[.slice a52 l52 c52,.slice (some (⟨H12.size,0,none⟩:Addr)) 1 1]) (fun v53 H17=>∃ a54:Option Addr,∃ l54:Nat,∃ c54:Nat,v53=.slice a54 l54 c54∧True∧ah PP 94 #[.pointer (some ⟨mb,0,none⟩:Option Addr),.slice a54 l54 c54] (fun v55 H18=>∃ n56:Int,∃ n57:Int,v55=.tuple #[.int .i64 n56,.int .i64 n57]∧True∧J37 [.int .i64 n57,.int .i64 n56] H18) H17) H16) (H12.push (.cells #[.int .i64 n35] 36)))) H11)∧(((ac (H11.push (.cells #[.int .i64 n35] 36)) q40=some (.pointer p41)∧True)∧((ac (H11.push (.cells #[.int .i64 n35] 36)) q38=some (.pointer p39)∧True)∧True))∧ah PP 74 #[.agg #[.pointer p41],.int .i64 0] (fun v58 H19=>∃ n59:Int,v58=.int .i64 n59∧((ac H19 q38=some (.pointer p39)∧True)∧True)∧ah PP 95 #[.agg #[.pointer p39],.int .i64 n59] (fun v60 H20=>∃ a61:Option Addr,∃ l61:Nat,∃ c61:Nat,v60=.slice a61 l61 c61∧True∧bk PP (Builtin.append_ #[108,108] 108 #[.slice a61 l61 c61,.slice (some (⟨H11.size,0,none⟩:Addr)) 1 1]) (fun v62 H21=>∃ a63:Option Addr,∃ l63:Nat,∃ c63:Nat,v62=.slice a63 l63 c63∧True∧ah PP 94 #[.pointer (some ⟨mb,0,none⟩:Option Addr),.slice a63 l63 c63] (fun v64 H22=>∃ n5:Int,∃ n6:Int,v64=.tuple #[.int .i64 n5,.int .i64 n6]∧True∧J37 [.int .i64 n6,.int .i64 n5] H22) H21) H20) H19) (H11.push (.cells #[.int .i64 n35] 36))))∧∀ w67 H23,J37 w67 H23->∀ _g:Nat->Value,∃ n8:Int,∃ n9:Int,w67=[.int .i64 n8,.int .i64 n9]∧cond (n8 != 0) (Q (.tuple #[.int .i64 0,.int .i64 n8]) H23) (∃ q70,(some ⟨mb,0,none⟩:Option Addr)=some q70∧∃ p71:Option Addr,ac H23 q70=some (.pointer p71)∧∃ q72,p71=some q72∧∃ p73:Option Addr,ac H23 q72=some (.pointer p73)∧ah PP 96 #[.pointer p73,.int .i64 0,.int .i64 n9] (fun v74 H24=>∃ n75:Int,v74=.int .i64 n75∧ah PP 183 #[.int .i64 n35] (fun v76 H25=>∃ n77:Int,∃ n78:Int,v76=.tuple #[.int .i64 n77,.int .i64 n78]∧Q (.tuple #[.int .i64 n77,.int .i64 n78]) H25) H24) H23))) (H.push (.cells #[.int .i64 n,.int .i64 n29,.int .i64 l,.int .i64 n27,.int .i64 n27,.int .i64 n31,.int .i64 n33] 36)):=by
 have hm1:=hk.shape.many1
 have hcw:v.clsW.length=v.cls.length:=by simp [KV.clsW]
 subst e27 e31 e29 e33
 have hws:=fu (n:=n) (up:=up) (l:=l) (k:=v.clsW.length) hn (cq hup.1 hup.2) hl (by omega)
 obtain ⟨b1,b2,b3,b4⟩:=kJ hk (by omega) (cls:=12) (by decide) hws
 have fp:=(Fr.push [] H (.cells (aq (bU n up l v.clsW.length)).toArray 36))
 have hlt:=hM.k.lt
 rw [←hcw]
 unfold ji at h
 refine vl (s:=s) (ws:=bU n up l v.clsW.length) (hM.nil fp) (by decide) fK (fun p hp hm=>?_) (by decide) fun H' F' hM' hu=>⟨_,_,rfl,?_⟩
 ·cases hp
  exact absurd (hlt _ hm) (Nat.lt_irrefl _)
 rw [bf,ae]
 have hu':=(Up.of_nil fp).trans hu
 refine aA (fun he=>?_) fun he=>?_
 ·rw [if_pos he] at h
  have:=h _ _ hM' hu'
  have hz:=(b3 he).2
  exact this
 rw [if_neg he] at h
 have hz:(s.make 12 (bU n up l v.clsW.length)).1.2=0:=Classical.byContradiction he
 obtain ⟨c,ec,est,c1,c2,_⟩:=b4 hz
 rw [ec] at h ⊢
 exact uq hM' b1 ⟨c1,c2⟩ (by rw [est,List.length_append];simp;omega) fun H2 F2 hM2 hu2=>h H2 F2 hM2 (hu'.trans hu2)
theorem Du (s:SP) (t:TB) (cw:List Int) (n up l:Int):(ji s t cw n up l).2.2=t:=by
 unfold ji
 split
 ·rfl
 ·unfold fj;split <;> rfl
theorem wg (hM:PM H mb b F s t cnt mk kp) (hk:KS s v){name:ByteArray}{up:Int} (hup:1<=up∧up<=65536) (hst:s.stack.length<60000){a:Option Addr}{l c:Nat}{own:List ByteArray} (hr:Rd 1 H a l (aO own)) (hout:fQ H a l F) (hlk:l<=100000000)
  (h:∀ H' F',PM H' mb b F' (gN s t v.clsW name up own).2.1 (gN s t v.clsW name up own).2.2 cnt mk kp->Up F H F' H'->Q (.tuple #[.int .i64 (gN s t v.clsW name up own).1.1,.int .i64 (gN s t v.clsW name up own).1.2]) H') :
  ah PP Nf #[.pointer (some ⟨mb,0,none⟩),.string name,.int .i64 up,.slice a l c] Q H:=by
 have hs1:aF PP 108=some (1,8,some (.int .i64 0)):=by kernel_rfl
 have hm1:=hk.shape.many1
 have hl:l=own.length:=by have:=hr.1;simpa [aO] using this.symm
 apply Ib
 unfold Q6 A0 iV wW pV sV lV cS
 unfold gN at h
 refine lK hM fun H1 F1 hM1 hu1=>⟨_,_,rfl,?_⟩
 rw [bf,ae]
 refine aA (fun h1=>?_) fun h1=>?_
 ·rw [if_pos h1] at h;exact h H1 F1 hM1 hu1
 rw [if_neg h1] at h
 have hz1:(t.add name).1.2=0:=Classical.byContradiction h1
 rw [if_pos hz1]
 obtain ⟨nn,en,en2,_⟩:=gU name hz1
 rw [en] at h ⊢
 generalize (t.add name).2=t1 at *
 have hout1:=hout.up hu1
 have hr1:=hout.rd hu1 hr
 refine ⟨fun w H'=>∃(i:Nat) (t':TB) (acc:List Int) (a':Option Addr) (l' c':Nat) (G F':ay),w=[.slice a' l' c',.int .i64 i]∧i<=own.length∧PM H' mb b F' s t' cnt mk kp∧Up F1 H1 F' H'∧t'.addAll acc (own.drop i)=t1.addAll [] own∧bv 1 H' a' l' c' (aq acc) G∧(∀ x∈G,H1.size<=x∧x∉F')∧acc.length=i,fun w _=>match w with
  | [_,.int _ i]=>(own.length-i).toNat
  | _=>0,⟨0,t1,[],none,0,0,[],F1,rfl,Nat.zero_le _,hM1,Up.refl _ _,rfl,by simpa [aq] using bv.nil 1 H1,by simp,rfl⟩,?_⟩
 rintro w H2 ⟨i,t2,acc,a2,l2,c2,G,F2,rfl,hi,hM2,hu2,hadd,ho,hG,hacc⟩ _
 have hl2:l2=i:=by have:=ho.len;simp only [aq,List.length_map] at this;omega
 have hgm:=hM1.m.lt
 have hgk:=hM1.k.kinds.lt
 refine ⟨_,_,_,_,rfl,?_⟩
 rw [ae]
 refine aA (fun hlt=>?_) fun hlt=>?_
 ·obtain ⟨p,hlt2,rfl,hcell⟩:=(hout1.rd hu2 hr1).str (i:=(i:Int)) (by omega) hlt
  simp only [Int.toNat_natCast] at hcell hlt2
  have e1:IntKind.wrap .i64 ((i:Int)+1)=((i+1:Nat):Int):=by rw [am (by omega) (by omega)];omega
  have ed:own.drop i=own[i] :: own.drop (i+1):=List.drop_eq_getElem_cons hlt2
  rw [ed,TB.addAll] at hadd
  refine ⟨⟨by omega,hlt⟩,_,rfl,_,by rw [Int.toNat_natCast,Nat.mul_one];exact hcell,lK hM2 fun H3 F3 hM3 hu3=>⟨_,_,rfl,?_⟩⟩
  rw [bf,ae]
  refine aA (fun h3=>?_) fun h3=>?_
  ·rw [if_pos h3] at hadd
   rw [if_pos (by rw [←hadd];exact h3),←hadd] at h
   exact h H3 F3 hM3 ((hu1.trans hu2).trans hu3)
  rw [if_neg h3] at hadd
  have hz3:(t2.add own[i]).1.2=0:=Classical.byContradiction h3
  rw [if_pos hz3]
  have hoG:∀ x∈G,x<H2.size:=ho.lt
  have ho3:bv 1 H3 a2 l2 c2 (aq acc) G:=ho.fr hu3.1 fun x hx=>(hG x hx).2
  refine bg hs1 rfl (by kernel_rfl) ho3 rfl (by simp [cC]) (by omega) (by decide) (by decide) fun a' c' G2 H4 g1 g2 g3=>⟨_,_,_,rfl,?_⟩
  rw [e1]
  have hG3:∀ x∈G,H1.size<=x∧x∉F3:=fun x hx=>⟨(hG x hx).1,Up.out hu3 (hG x hx).2 (hoG x hx)⟩
  have hF3lt:=hM3.k.lt
  have hM4:PM H4 mb b F3 s (t2.add own[i]).2 cnt mk kp:=⟨hM3.k.fr g2.1 (fun x hx hm=>(hG3 x hm).2 hx) (fun hm=>by have:=(hG3 _ hm).1;omega),hM3.m.fr g2.1 (fun hm=>by have:=(hG3 _ hm).1;omega),hM3.out⟩
  have hu4:Up F1 H1 F3 H4:=by
   have h12:=hu2.trans hu3
   refine ⟨⟨Nat.le_trans h12.1.1 g2.1.1,fun x hx hn=>?_⟩,h12.2⟩
   rw [g2.1.2 x (Nat.lt_of_lt_of_le hx h12.1.1) (fun hm=>by have:=(hG3 x hm).1;omega),h12.1.2 x hx hn]
  refine ⟨⟨i+1,_,_,a',l2+1,c',G2,F3,rfl,by omega,hM4,hu4,hadd,?_,fun x hx=>?_,by simp [hacc]⟩,by simp;omega⟩
  ·rw [bt];exact g1
  ·rcases g2.2 x hx with h5 | h5
   ·exact hG3 x h5
   ·exact ⟨Nat.le_trans (hu2.trans hu3).1.1 h5,fun hm=>by have:=hF3lt x hm;omega⟩
 ·have hil:i=own.length:=by omega
  rw [hil,List.drop_length,TB.addAll] at hadd
  rw [if_neg (by rw [←hadd];simp),←hadd] at h
  simp only at h
  unfold nZ at h
  have hu12:=hu1.trans hu2
  have hall:=lM (t:=t1) [] own (by rw [←hadd])
  rw [←hadd] at hall
  simp only at hall
  obtain ⟨ns,ens,ens2⟩:=hall
  rw [List.nil_append] at ens
  have hwt2:=hM2.k.wft
  have hns:∀ n∈ns,n<t2.texts.length:=fun n hn=>by
   have:t2.texts[n]?∈own.map some:=by rw [←ens2];exact List.mem_map.2 ⟨n,hn,rfl⟩
   obtain ⟨s,_,hs⟩:=List.mem_map.1 this
   exact (cA hs.symm).2
  have hnn:nn<t2.texts.length:=by
   have h5:=(cA en2).2
   have h6:=(iD t1 [] own).2
   rw [←hadd] at h6
   obtain ⟨m,e⟩:=h6
   rw [e,List.length_append];omega
  have hws:∀ w∈acc,dG w:=fun w hw=>by
   rw [ens] at hw
   obtain ⟨x,hx,rfl⟩:=List.mem_map.1 hw
   exact d6 hwt2 (hns x hx)
  obtain ⟨a1,a2',⟨m1,a3,a3'⟩,a4⟩:=dg hk (by omega) hws
  refine tg hM2 ho.rd (fun p hp=>?_) (by omega) fun H3 F3 hM3 hu3=>⟨_,_,rfl,?_⟩
  ·rcases ho.2.2 with ⟨h5,_⟩ | ⟨b',cs,h5,h6,_⟩
   ·rw [h5] at hp;cases hp
   ·rw [h5] at hp;cases hp
    exact (hG b' (by rw [h6];simp)).2
  have hu13:=hu12.trans hu3
  rw [bf,ae]
  refine aA (fun h5=>?_) fun h5=>?_
  ·rw [if_pos h5] at h;exact h H3 F3 hM3 hu13
  rw [if_neg h5] at h
  have hz5:(s.array acc).1.2=0:=Classical.byContradiction h5
  obtain ⟨lo,elo,lo1,lo2,_⟩:=a4 hz5
  refine ⟨_,rfl,_,hM3.m.cell 0,sI hM3.k a1 fun H4 f4=>⟨_,rfl,dh (by decide) ⟨_,rfl,dh hup ⟨_,rfl,jJ (by decide) ⟨_,rfl,?_⟩⟩⟩⟩⟩
  have ew:IntKind.wrap .i64 ((v.cls.length:Int)+1)=(v.cls.length:Int)+1:=am (by omega) (by omega)
  rw [ew]
  refine jJ ⟨by omega,by omega⟩ ⟨_,rfl,?_⟩
  have hu4:Up F3 H3 F3 H4:=Up.of_nil f4
  refine uL (hM3.nil f4) a1 (d6 hwt2 hnn) hup (by rw [elo];exact cq lo1 lo2) (by rw [a3,List.length_append];omega) rfl rfl rfl rfl fun H5 F5 hM5 hu5=>?_
  have et:(ji (s.array acc).2 t2 v.clsW (4*(nn:Int)+2) up (s.array acc).1.1).2.2=t2:=Du _ _ _ _ _ _
  exact h H5 F5 (by rw [et];exact hM5) ((hu13.trans hu4).trans hu5)
end
section
variable {H:aj}{b:Nat}{F:ay}{s:SP}{t:TB}{v:KV}{Q:QT}
theorem qr (hK:PK H b F s t) (hv:KAll s t v){name sup:ByteArray}{a:Option Addr}{l c:Nat}{own:List ByteArray} (hr:Rd 1 H a l (aO own)) (hout:fQ H a l F) (hlc:l<=c) (hlk:l<=1000000000000000)
  (h:∀ H' F',PK H' b F' (bF s v t name sup own).2.1 (bF s v t name sup own).2.2->Up F H F' H'->Q (.tuple #[.int .i64 (bF s v t name sup own).1.1,.int .i64 (bF s v t name sup own).1.2]) H') :
  ah PP Mv #[.pointer (some ⟨b,0,none⟩),.string name,.string sup,.slice a l c] Q H:=by
 apply GK
 unfold QS iV pV sV lV cS
 unfold bF at h
 refine iZ hK ⟨_,rfl,?_⟩
 simp only [Bool.not_true,cond_false]
 refine tA hK hv hr hlc (by omega) fun H1 hf1=>⟨_,_,rfl,?_⟩
 rw [bf,ae]
 refine aA (fun h1=>?_) fun h1=>?_
 ·rw [if_pos h1] at h;exact h H1 F (hK.nil hf1) (Up.of_nil hf1)
 rw [if_neg h1] at h
 obtain ⟨j,hj,ej,hlt,hno,_,_⟩:=mU hv (Classical.byContradiction h1)
 rw [ej] at h ⊢
 have hb:=iH hv.ks hj
 have hst:s.stack.length<60000:=by rw [hv.stack];decide
 refine vp (hK.nil hf1) fun H2 mb hM2 hf2=>⟨_,rfl,?_⟩
 have hf12:=hf1.trans hf2
 have hu2:Up F H F H2:=Up.of_nil hf12
 have hl32:=sQ (Classical.byContradiction h1)
 refine wg hM2 hv.ks hb hst (hout.rd hu2 hr) (hout.up hu2) (by have:=hr.1;simp only [aO,List.length_map] at this;omega) fun H3 F3 hM3 hu3=>⟨_,_,rfl,?_⟩
 refine D4 hM3 ⟨by omega,by omega⟩ fun H4 hK4 hf4=>⟨_,rfl,?_⟩
 have hu4:Up F H F3 H4:=(hu2.trans hu3).trans ⟨hf4,fun _ h=>.inl h⟩
 have:=h H4 F3 hK4 hu4
 unfold cO at this
 rw [bf,ae]
 refine aA (fun h2=>?_) fun h2=>?_
 ·rw [if_neg h2] at this;exact this
 ·have hz:=Classical.byContradiction h2
  rw [if_pos hz] at this
  have e0:(gN s t v.clsW name (v.cls[j]).oop own).1.2=0:=hz
  rw [e0] at this
  exact this
theorem KS.gwords {s:SP}{v:KV} (h:KS s v):kwords s.h v.globA=bw v.glob:=h.view.globs.kwords
theorem xd (hK:PK H b F s t) (hv:KAll s t v){name:ByteArray}
  (h:∀ H' F',PK H' b F' (bE s v t name).2.1 (bE s v t name).2.2->Up F H F' H'->Q (.int .i64 (bE s v t name).1) H') :
  ah PP NY #[.pointer (some ⟨b,0,none⟩),.string name] Q H:=by
 have hg:=hv.ks.shape.globs
 apply IY
 unfold Rl A0 iV pV sV lV cS
 unfold bE kI at h
 refine iZ hK ⟨_,rfl,?_⟩
 simp only [Bool.not_true,cond_false]
 refine qP (lo:=65) (up:=90) fun H1 hf1=>⟨_,rfl,?_⟩
 rw [←decide_not,ae]
 refine aA (fun h1=>?_) fun h1=>?_
 ·rw [if_pos h1,if_pos (by decide)] at h;exact h H1 F (hK.nil hf1) (Up.of_nil hf1)
 rw [if_neg h1] at h
 refine vw (hK.nil hf1) hv fun H2 hf2=>⟨_,rfl,?_⟩
 have hF2:=hf1.trans hf2
 rw [ae]
 refine aA (fun h2=>?_) fun h2=>?_
 ·rw [if_pos h2,if_pos (by decide)] at h;exact h H2 F (hK.nil hF2) (Up.of_nil hF2)
 rw [if_neg h2] at h
 refine qk (hK.nil hF2) hv fun a l c G H3 ho hf3 hG=>⟨_,_,_,rfl,?_⟩
 have hF3:=hF2.trans hf3
 have hl:l=v.glob.length:=by have:=ho.len;simpa [aO,cE] using this.symm
 rw [ae]
 refine aA (fun h3=>?_) fun h3=>?_
 ·rw [if_pos (show 256<=v.glob.length by omega),if_pos (by decide)] at h;exact h H3 F (hK.nil hF3) (Up.of_nil hF3)
 rw [if_neg (show ¬ 256<=v.glob.length by omega),if_neg (by decide)] at h
 refine vp (hK.nil hF3) fun H4 mb hM4 hf4=>⟨_,rfl,?_⟩
 have hF4:=hF3.trans hf4
 have hu4:Up F H F H4:=Up.of_nil hF4
 unfold dB at h
 have hst:s.stack.length<60000:=by rw [hv.stack];decide
 have hkp:(0:Int)<=s.stack.length∧(s.stack.length:Int)<=1000000:=⟨by omega,by omega⟩
 have fin:∀ (R:Int × SP × TB) (H5:aj) (F5:ay),fA s t (bw v.glob) name=R->PM H5 mb b F5 R.2.1 R.2.2 t.texts.length s.h.mark s.stack.length->Up F H F5 H5->ah PP Ej #[.pointer (some ⟨mb,0,none⟩),.int .i64 R.1] (fun v37 H13=>∃ n38:Int,v37=.int .i64 n38∧Q (.int .i64 n38) H13) H5:=by
  intro R H5 F5 eR hM5 hu5
  rw [eR] at h
  exact D4 hM5 hkp fun H6 hK6 hf6=>⟨_,rfl,h H6 F5 hK6 (hu5.trans ⟨hf6,fun _ h=>.inl h⟩)⟩
 refine lK hM4 fun H5 F5 hM5 hu5=>⟨_,_,rfl,?_⟩
 have hu45:=hu4.trans hu5
 rw [bj,ae]
 refine aA (fun h5=>?_) fun h5=>?_
 rotate_left
 ·have eR:fA s t (bw v.glob) name=((t.add name).1.2,s,(t.add name).2):=by unfold fA;rw [if_pos h5]
  have:=fin _ H5 F5 eR hM5 hu45
  exact this
 rw [if_pos h5]
 obtain ⟨nn,en,en2,_⟩:=gU name h5
 have eR:fA s t (bw v.glob) name=i0 s (t.add name).2 (bw v.glob) (4*(t.add name).1.1+2):=by unfold fA;rw [if_neg (by simpa using h5)]
 rw [en] at eR ⊢
 generalize (t.add name).2=t1 at *
 unfold i0 at eR
 have hwt1:=hM5.k.wft
 have hnn:=(cA en2).2
 have hws:∀ w∈bw v.glob++[4*(nn:Int)+2,4],dG w:=fun w hw=>by
  rcases List.mem_append.1 hw with hw | hw
  ·exact jk hv.ks w hw
  ·simp only [List.mem_cons,List.not_mem_nil,or_false] at hw
   rcases hw with rfl | rfl
   ·exact d6 hwt1 hnn
   ·decide
 obtain ⟨k1,_⟩:=dg hv.ks (by omega) hws
 have mc:∀ {H':aj},Fr [] H5 H'->ac H' ⟨mb,0,none⟩=some (.pointer (some ⟨b,0,none⟩)):=fun hf=>(hM5.m.fr hf (by simp)).cell 0
 refine ⟨_,rfl,_,hM5.m.cell 0,_,rfl,_,hM5.m.cell 0,iR hM5.k fun H6 f6=>⟨_,rfl,⟨⟨mc f6,trivial⟩,trivial⟩,?_⟩⟩
 rw [hv.ks.root1]
 refine m6 (hM5.k.nil f6) fun a7 l7 c7 G7 H7 ho7 f7 hG7=>⟨_,_,_,rfl,trivial,dh (by decide) ⟨_,rfl,trivial,trivial,?_⟩⟩
 rw [KS.gwords hv.ks] at ho7
 have fp:=(Fr.push [] H7 (.cells #[.int .i64 (4*(nn:Int)+2),.int .i64 4] 36))
 have hr2:Rd 1 (H7.push (.cells #[.int .i64 (4*(nn:Int)+2),.int .i64 4] 36)) (some ⟨H7.size,0,none⟩) 2 (aq [4*(nn:Int)+2,4]):=fK (cs:=[4*(nn:Int)+2,4])
 rw [show ((4:Int)*1)=4 from rfl]
 generalize (H7.push (.cells #[.int .i64 (4*(nn:Int)+2),.int .i64 4] 36))=Hp at fp hr2 ⊢
 have hgl:=fY v.glob
 refine jF (xs:=[4*(nn:Int)+2,4]) hM5 ((f6.trans f7).trans fp) (ho7.fr fp (by simp)) (fun x hx=>Nat.le_trans f6.1 (hG7 x hx)) (by omega) hr2 (by decide) fun H8 F8 hM8 hu8=>⟨_,_,rfl,trivial,?_⟩
 have hu58:=hu45.trans hu8
 rw [bj,ae]
 refine aA (fun h6=>?_) fun h6=>?_
 ·rw [if_neg (by simpa using h6)] at eR
  obtain ⟨sb,F1,hcs,hS,hsub,_,_,hup⟩:=hM8.k.sp
  refine ⟨_,rfl,_,hM8.m.cell 0,_,rfl,_,hcs,mr hS (fun o ho=>?_) fun H9 hS9 hf9=>⟨_,rfl,?_⟩⟩
  ·obtain ⟨x,hx1,hx2,_⟩:=k1.view.root
   rw [k1.king] at ho
   rw [hx1] at ho;cases ho;exact hx2
  have hu9:Up F8 H8 F8 H9:=⟨hf9.mono hsub,fun _ h=>.inl h⟩
  have:=fin _ H9 F8 eR (hM8.up (hup H9 _ hS9 hf9) hu9) (hu58.trans hu9)
  rw [h6];exact this
 ·rw [if_pos h6] at eR
  have:=fin _ H8 F8 eR hM8 hu58
  exact this
theorem eL (hK:PK H b F s t) (h:∀ sb F1,ac H ⟨b,0,none⟩=some (.pointer (some ⟨sb,0,none⟩))->gn H sb F1 s->(∀ x∈F1,x∈F)->(∀ H' F1' s',gn H' sb F1' s'->Up F1 H F1' H'->∃ F',PK H' b F' s' t∧Up F H F' H')->(∀ H' s',gn H' sb F1 s'->Fr F1 H H'->PK H' b F s' t)->Q (.pointer (some ⟨sb,0,none⟩)) H):ah PP Ed #[.pointer (some ⟨b,0,none⟩)] Q H:=by
 obtain ⟨sb,F1,hc,hS,hsub,_,hup,hup2⟩:=hK.sp
 apply xW
 unfold QE pV
 exact ⟨_,rfl,_,hc,h sb F1 hc hS hsub hup hup2⟩
theorem iQ (hK:PK H b F s t) (h:∀ tb F1,ac H ⟨b,1,none⟩=some (.pointer (some ⟨tb,0,none⟩))->mS H tb F1 t->Q (.pointer (some ⟨tb,0,none⟩)) H):ah PP MV #[.pointer (some ⟨b,0,none⟩)] Q H:=by
 obtain ⟨tb,F1,hc,hT,_⟩:=hK.tb
 apply Hy
 unfold QZ pV
 exact ⟨_,rfl,_,hc,h tb F1 hc hT⟩
end
section
variable {H:aj}{b:Nat}{F:ay}{s:SP}{t:TB}{v:KV}{Q:QT}
theorem lW (hK:RK H b F s t) (hv:KAll s t v) (h:∀ a l c G H',bv 1 H' a l c (aO (cE v t)) G->Fr [] H H'->(∀ x∈G,H.size<=x)->Q (.slice a l c) H'):ah PP ME #[.pointer (some ⟨b,0,none⟩)] Q H:=by
 have hs1:aF PP 37=some (1,16,some (.string (⟨#[]⟩:ByteArray))):=by kernel_rfl
 have hg:=hv.ks.shape.globs
 obtain ⟨e0,b0,b1⟩:=KS.s1 hv.ks
 have h3:=hv.names.wf.m1
 have h4:=hv.names.wf.len
 apply GZ
 unfold Rn A0 iV wW pV sV lV cS
 refine qK hK hv.ks e0 b0 b1 ⟨_,rfl,ga hK fun aw lw cw Gw H0 how hfw hGw=>⟨_,_,_,rfl,?_⟩⟩
 rw [show kwords s.h v.globA=bw v.glob from hv.ks.view.globs.kwords] at how
 have hgl:=fY v.glob
 have hlw:lw=2*v.glob.length:=by have:=how.len;simp only [aq,List.length_map,hgl] at this;omega
 have hlen:(cE v t).length=v.glob.length:=by simp [cE]
 refine ⟨fun w H'=>∃(i:Nat) (a:Option Addr) (l' c:Nat) (G:ay),w=[.slice a l' c,.int .i64 (2*i:Nat)]∧i<=v.glob.length∧bv 1 H' a l' c (aO ((cE v t).take i)) G∧Fr [] H0 H'∧(∀ x∈G,H0.size<=x),fun w _=>match w with
  | [_,.int _ i]=>(2*v.glob.length-i).toNat
  | _=>0,⟨0,none,0,0,[],rfl,Nat.zero_le _,by simpa [aO] using bv.nil 1 H0,Fr.refl _ _,by simp⟩,?_⟩
 rintro w H1 ⟨i,a1,l1,c1,G,rfl,hi,ho,hf1,hG⟩ _
 have hl1:l1=i:=by have:=ho.len;simp only [aO,List.length_map,List.length_take] at this;omega
 refine ⟨_,_,_,_,rfl,?_⟩
 have ew:IntKind.wrap .i64 (((2*i:Nat):Int)+1)=((2*i:Nat):Int)+1:=am (by omega) (by omega)
 rw [ew,ae]
 refine aA (fun hlt=>?_) fun hlt=>?_
 ·have hlt':i<v.glob.length:=by omega
  obtain ⟨p,rfl,hcell,hlt2⟩:=(how.rd.fr' hf1 (by simp)).int (i:=((2*i:Nat):Int)) (by omega) (by omega)
  rw [Int.toNat_natCast] at hcell hlt2
  have hx:(bw v.glob).getD (2*i) 0=bD v.glob[i].1:=by
   rw [List.getD_eq_getElem?_getD,(qe hlt').1];rfl
  rw [hx] at hcell
  have hn:=hv.names.glob _ (List.getElem_mem hlt')
  have htk:(cE v t).take (i+1)=(cE v t).take i++[tx t v.glob[i].1]:=by
   rw [List.take_add_one,List.getElem?_eq_getElem (by omega)];simp [cE]
  have e:IntKind.wrap .i64 (((2*i:Nat):Int)+2)=((2*(i+1):Nat):Int):=by rw [am (by omega) (by omega)];omega
  refine ⟨⟨by omega,by omega⟩,_,rfl,_,by rw [Int.toNat_natCast,Nat.mul_one];exact hcell,qL (hK.nil (hfw.trans hf1)) (cW (by unfold bD;omega) (by unfold bD;omega)) ⟨_,rfl,?_⟩⟩
  rw [iY hv.names.wf hn]
  refine bg hs1 rfl (by kernel_rfl) ho rfl (by simp [cC]) (by omega) (by decide) (by decide) fun a' c' G2 H3 g1 g2 g3=>⟨_,_,_,rfl,?_⟩
  have hfr:=Up.fresh hf1 g2 hG
  rw [e]
  refine ⟨⟨i+1,a',l1+1,c',G2,rfl,by omega,?_,hfr.1,hfr.2⟩,by simp;omega⟩
  rw [htk,ce];exact g1
 ·rw [List.take_of_length_le (by omega)] at ho
  exact h _ _ _ _ H1 ho (hfw.trans hf1) fun x hx=>Nat.le_trans hfw.1 (hG x hx)
theorem CL (hK:RK H b F s t) (hv:KAll s t v){n:Int} (h:∀ H',Fr [] H H'->Q (.tuple #[.int .i64 (jy v n).1,.int .i64 (jy v n).2]) H'):ah PP EM #[.pointer (some ⟨b,0,none⟩),.int .i64 n] Q H:=by
 have hg:=hv.ks.shape.globs
 obtain ⟨e0,b0,b1⟩:=KS.s1 hv.ks
 apply BU
 unfold Mx iV wW pV lV cS
 unfold jy at h
 rw [ae]
 refine aA (fun h1=>?_) fun h1=>?_
 ·rw [dif_neg (by omega)] at h;exact h _ (Fr.refl _ _)
 refine lW hK hv fun a l c G H1 ho hf hG=>⟨_,_,_,rfl,?_⟩
 have hl:l=v.glob.length:=by have:=ho.len;simpa [aO,cE] using this.symm
 rw [ae]
 refine aA (fun h2=>?_) fun h2=>?_
 ·rw [dif_neg (by omega)] at h;exact h _ hf
 rw [dif_pos (by omega)] at h
 have e:IntKind.wrap .i64 (IntKind.wrap .i64 (2*n)+1)=((2*n.toNat+1:Nat):Int):=by rw [am (n:=2*n) (by omega) (by omega),am (by omega) (by omega)];omega
 refine qK (hK.nil hf) hv.ks e0 b0 b1 ⟨_,rfl,?_⟩
 rw [e]
 refine fW (hK.nil hf) ⟨_,rfl,?_⟩
 rw [(hv.ks.globAt (by omega)).2]
 exact h _ hf
theorem ui (hK:RK H b F s t) (hv:KAll s t v){n w:Int} (h:∀ H' F',RK H' b F' (eV s v n w).2 t->Up F H F' H'->Q (.int .i64 (eV s v n w).1) H'):ah PP EF #[.pointer (some ⟨b,0,none⟩),.int .i64 n,.int .i64 w] Q H:=by
 have hg:=hv.ks.shape.globs
 obtain ⟨e0,b0,b1⟩:=KS.s1 hv.ks
 apply AE
 unfold Qc iV wW pV cS
 unfold eV at h
 refine CL hK hv fun H1 hf1=>⟨_,_,rfl,?_⟩
 unfold jy
 by_cases hn:0<=n∧n<v.glob.length
 ·rw [dif_pos hn]
  rw [if_neg (by omega)] at h
  simp only [show ((0:Int) != 0)=false from rfl,cond_false]
  have hK1:=hK.nil hf1
  refine AH ⟨_,rfl,?_⟩
  rw [←decide_not,ae]
  refine aA (fun hw=>?_) fun hw=>?_
  ·rw [if_pos hw] at h
   exact h _ _ hK1 (Up.of_nil hf1)
  rw [if_neg hw] at h
  obtain ⟨sb,hb,F1,hc,c0,hR,hsub,_,hup⟩:=hK1.hp
  refine ⟨_,rfl,_,hc,_,rfl,_,c0,fW hK1 ⟨_,rfl,⟨⟨c0,trivial⟩,⟨hc,trivial⟩,trivial⟩,?_⟩⟩
  rw [e0]
  refine ch (cW (by omega) (by omega)) ⟨_,rfl,⟨⟨c0,trivial⟩,⟨hc,trivial⟩,trivial⟩,?_⟩
  have e:IntKind.wrap .i64 (IntKind.wrap .i64 (2*n)+1)=2*n+1:=by rw [am (n:=2*n) (by omega) (by omega),am (by omega) (by omega)]
  rw [bZ b0,e]
  refine ku hR fun H4 hR4 hf4=>⟨_,rfl,trivial,?_⟩
  obtain ⟨F',hK4,hu⟩:=hup H4 F1 _ hR4 ⟨hf4,fun x hx=>.inl hx⟩
  exact h _ _ hK4 ((Up.of_nil hf1).trans hu)
 ·rw [dif_neg hn]
  rw [if_pos (by omega)] at h
  simp only [show ((1:Int) != 0)=true from rfl,cond_true]
  exact h _ _ (hK.nil hf1) (Up.of_nil hf1)
theorem vN (hK:RK H b F s t) (hv:KAll s t v){name:ByteArray} (h:∀ H',Fr [] H H'->Q (.bool (decide (gO v t name))) H'):ah PP Ff #[.pointer (some ⟨b,0,none⟩),.string name] Q H:=by
 have hg:=hv.ks.shape.globs
 apply Ct
 unfold M1 iV wW pV sV lV cS
 refine xF hK hv fun H1 hf1=>⟨_,_,rfl,lW (hK.nil hf1) hv fun a l c G H2 ho hf2 hG=>⟨_,_,_,rfl,?_⟩⟩
 have hF2:=hf1.trans hf2
 have hl:l=(cE v t).length:=by have:=ho.len;simpa [aO] using this.symm
 have hl2:(cE v t).length=v.glob.length:=by simp [cE]
 refine ⟨fun w H'=>H'=H2∧∃ i:Nat,w=[.int .i64 i]∧i<=l∧∀ j (hj:j<(cE v t).length),j<i->(cE v t)[j]≠name,fun w _=>match w with
  | [.int _ i]=>(l-i).toNat
  | _=>0,⟨rfl,0,rfl,Nat.zero_le _,fun j _ hj=>by omega⟩,?_⟩
 rintro w H3 ⟨rfl,i,rfl,hi,hall⟩ _
 refine ⟨_,rfl,?_⟩
 rw [ae]
 refine aA (fun hlt=>?_) fun hlt=>?_
 ·obtain ⟨p,hlt2,rfl,hcell⟩:=ho.rd.str (i:=(i:Int)) (by omega) hlt
  simp only [Int.toNat_natCast] at hcell hlt2
  have e:IntKind.wrap .i64 ((i:Int)+1)=((i+1:Nat):Int):=by rw [am (by omega) (by omega)];omega
  refine ⟨⟨by omega,hlt⟩,_,rfl,_,by rw [Int.toNat_natCast,Nat.mul_one];exact hcell,?_⟩
  rw [cL,ae]
  refine aA (fun he=>?_) fun he=>?_
  ·have:=h _ hF2
   rw [decide_eq_true (show gO v t name from .inr (he ▸ List.getElem_mem hlt2))] at this
   exact this
  ·rw [e]
   refine ⟨⟨rfl,i+1,rfl,by omega,fun j hj hji=>?_⟩,by simp;omega⟩
   rcases Nat.lt_or_ge j i with h5 | h5
   ·exact hall j hj h5
   ·have:j=i:=by omega
    subst this;exact he
 ·have hno:name∉cE v t:=fun hm=>by
   obtain ⟨j,hj,he⟩:=List.getElem_of_mem hm
   exact hall j hj (by omega) he
  have:=h _ hF2
  have e:decide (gO v t name)=((dP v t name).2 == 0):=by
   rw [bj,decide_eq_decide];unfold gO
   exact ⟨fun h=>h.resolve_right hno,.inl⟩
  rw [e] at this;exact this
theorem CU (hK:RK H b F s t) (hv:KAll s t v){i:Nat} (hi:i<v.cls.length) (h:∀ a l c G H',bv 1 H' a l c (aO ((v.cls[i]).own.map (tx t))) G->Fr [] H H'->(∀ x∈G,H.size<=x)->Q (.slice a l c) H'):ah PP IP #[.pointer (some ⟨b,0,none⟩),.int .i64 (v.cls[i]).ownA] Q H:=by
 have hs1:aF PP 37=some (1,16,some (.string (⟨#[]⟩:ByteArray))):=by kernel_rfl
 have h3:=hv.names.wf.m1
 have h4:=hv.names.wf.len
 have hown:=hv.ks.view.own hi
 have hol:(v.cls[i]).own.length<=8192:=by have:=(hown.bnd hv.ks.wf.h).2.2.1;simpa using this
 apply Dz
 unfold Qi A0 iV wW pV sV lV cS
 refine ga hK fun aw lw cw Gw H0 how hfw hGw=>⟨_,_,_,rfl,?_⟩
 rw [hown.kwords] at how
 have hlw:lw=(v.cls[i]).own.length:=by have:=how.len;simpa [aq] using this.symm
 refine ⟨fun w H'=>∃(k:Nat) (a:Option Addr) (l' c:Nat) (G:ay),w=[.slice a l' c,.int .i64 k]∧k<=(v.cls[i]).own.length∧bv 1 H' a l' c (aO (((v.cls[i]).own.map (tx t)).take k)) G∧Fr [] H0 H'∧(∀ x∈G,H0.size<=x),fun w _=>match w with
  | [_,.int _ k]=>((v.cls[i]).own.length-k).toNat
  | _=>0,⟨0,none,0,0,[],rfl,Nat.zero_le _,by simpa [aO] using bv.nil 1 H0,Fr.refl _ _,by simp⟩,?_⟩
 rintro w H1 ⟨k,a1,l1,c1,G,rfl,hk,ho,hf1,hG⟩ _
 have hl1:l1=k:=by have:=ho.len;simp only [aO,List.length_map,List.length_take] at this;omega
 refine ⟨_,_,_,_,rfl,?_⟩
 rw [ae]
 refine aA (fun hlt=>?_) fun hlt=>?_
 ·have hlt':k<(v.cls[i]).own.length:=by omega
  obtain ⟨p,rfl,hcell,hlt2⟩:=(how.rd.fr' hf1 (by simp)).int (i:=(k:Int)) (by omega) hlt
  rw [Int.toNat_natCast] at hcell hlt2
  have hx:((v.cls[i]).own.map bD).getD k 0=bD (v.cls[i]).own[k]:=by simp [hlt']
  rw [hx] at hcell
  have hn:=hv.names.own _ (List.getElem_mem hi) _ (List.getElem_mem hlt')
  have htk:((v.cls[i]).own.map (tx t)).take (k+1)=((v.cls[i]).own.map (tx t)).take k++[tx t (v.cls[i]).own[k]]:=by
   rw [List.take_add_one,List.getElem?_eq_getElem (by simpa using hlt')];simp
  have e:IntKind.wrap .i64 ((k:Int)+1)=((k+1:Nat):Int):=by rw [am (by omega) (by omega)];omega
  refine ⟨⟨by omega,hlt⟩,_,rfl,_,by rw [Int.toNat_natCast,Nat.mul_one];exact hcell,qL (hK.nil (hfw.trans hf1)) (cW (by unfold bD;omega) (by unfold bD;omega)) ⟨_,rfl,?_⟩⟩
  rw [iY hv.names.wf hn]
  refine bg hs1 rfl (by kernel_rfl) ho rfl (by simp [cC]) (by omega) (by decide) (by decide) fun a' c' G2 H3 g1 g2 g3=>⟨_,_,_,rfl,?_⟩
  have hfr:=Up.fresh hf1 g2 hG
  rw [e]
  refine ⟨⟨k+1,a',l1+1,c',G2,rfl,by omega,?_,hfr.1,hfr.2⟩,by simp;omega⟩
  rw [htk,ce];exact g1
 ·rw [List.take_of_length_le (by simp;omega)] at ho
  exact h _ _ _ _ H1 ho (hfw.trans hf1) fun x hx=>Nat.le_trans hfw.1 (hG x hx)
end
abbrev we (R0 LC:Addr) (Q:QT) (H6:aj):Prop :=
 ∃ s36:ByteArray,ac H6 LC=some (.string s36)∧∃ s37:ByteArray,ac H6 (LC.add 1)=some (.string s37)∧∃ a38:Option Addr,∃ l38:Nat,∃ c38:Nat,ac H6 (LC.add 2)=some (.slice a38 l38 c38)∧∃ n39:Int,ac H6 (LC.add 3)=some (.int .i64 n39) ∧
 Wr H6 R0∧Wr (au H6 R0 (.string s36)) (R0.add 1)∧Wr (au (au H6 R0 (.string s36)) (R0.add 1) (.string s37)) (R0.add 2)∧Wr (au (au (au H6 R0 (.string s36)) (R0.add 1) (.string s37)) (R0.add 2) (.slice a38 l38 c38)) (R0.add 3) ∧
 ∃ s40:ByteArray,ac (au (au (au (au H6 R0 (.string s36)) (R0.add 1) (.string s37)) (R0.add 2) (.slice a38 l38 c38)) (R0.add 3) (.int .i64 n39)) R0=some (.string s40) ∧
 ∃ s41:ByteArray,ac (au (au (au (au H6 R0 (.string s36)) (R0.add 1) (.string s37)) (R0.add 2) (.slice a38 l38 c38)) (R0.add 3) (.int .i64 n39)) (R0.add 1)=some (.string s41) ∧
 ∃ a42:Option Addr,∃ l42:Nat,∃ c42:Nat,ac (au (au (au (au H6 R0 (.string s36)) (R0.add 1) (.string s37)) (R0.add 2) (.slice a38 l38 c38)) (R0.add 3) (.int .i64 n39)) (R0.add 2)=some (.slice a42 l42 c42) ∧
 ∃ n43:Int,ac (au (au (au (au H6 R0 (.string s36)) (R0.add 1) (.string s37)) (R0.add 2) (.slice a38 l38 c38)) (R0.add 3) (.int .i64 n39)) (R0.add 3)=some (.int .i64 n43) ∧
 Q (.agg #[.string s40,.string s41,.slice a42 l42 c42,.int .i64 n43]) (au (au (au (au H6 R0 (.string s36)) (R0.add 1) (.string s37)) (R0.add 2) (.slice a38 l38 c38)) (R0.add 3) (.int .i64 n39))
section
variable {H:aj}{b:Nat}{F:ay}{s:SP}{t:TB}{v:KV}{Q:QT}
theorem oq {r0 lc:Nat}{nm sup:ByteArray}{a:Option Addr}{l c:Nat}{ly:Int}{cs:Array Value} (hLC:bA H lc #[.string nm,.string sup,.slice a l c,.int .i64 ly]) (hR0:bA H r0 cs) (hsz:cs.size=4)
  (h:∀ H',Fr [r0] H H'->Q (.agg #[.string nm,.string sup,.slice a l c,.int .i64 ly]) H'):we ⟨r0,0,none⟩ ⟨lc,0,none⟩ Q H:=by
 obtain ⟨x0,x1,x2,x3,rfl⟩:∃ x0 x1 x2 x3,cs=#[x0,x1,x2,x3]:=by
  obtain ⟨l⟩:=cs
  match l,hsz with
  | [x0,x1,x2,x3],_=>exact ⟨_,_,_,_,rfl⟩
 obtain ⟨w0,w1,w2,w3,hB,hf⟩:=zL hR0 (o:=0) (by omega) (.string nm) (.string sup) (.slice a l c) (.int .i64 ly)
 exact ⟨_,hLC.cell 0,_,hLC.cell 1,_,_,_,hLC.cell 2,_,hLC.cell 3,w0,w1,w2,w3,_,hB.cell 0,_,hB.cell 1,_,_,_,hB.cell 2,_,hB.cell 3,h _ hf⟩
theorem Il {n:Int} (h0:-1000000000000<=n) (h1:n<=1000000000000) (h:Q (.int .i64 n) H):ah PP Ir #[.int .i64 (2*n+1)] Q H:=by
 apply Dg
 unfold NI iV wW
 have e1:IntKind.wrap .i64 (2*n+1-1)=2*n:=by rw [am (by omega) (by omega)];omega
 have e2:Int.tdiv (2*n) 2=n:=by rw [Int.mul_comm];exact Int.mul_tdiv_cancel _ (by decide)
 have e3:IntKind.wrap .i64 n=n:=am (by omega) (by omega)
 rw [e1,e2,e3]
 exact h
theorem B0 (hK:RK H b F s t) (hv:KAll s t v){i:Nat} (hi:i<v.cls.length) (h:∀ a l c G H',bv 1 H' a l c (aO (cj v t i).own) G->Fr [] H H'->(∀ x∈G,H.size<=x)->Q (.agg #[.string (cj v t i).name,.string (cj v t i).sup,.slice a l c,.int .i64 (cj v t i).lay]) H') :
  ah PP Er #[.pointer (some ⟨b,0,none⟩),.int .i64 (v.cls[i]).oop] Q H:=by
 apply Ap
 unfold PY A0 iV pV sV lV cS;dsimp only [shH]
 have hob:=(hv.ks.view.own hi).bnd hv.ks.wf.h
 have hlay:=hv.ks.shape.lay _ (List.getElem_mem hi)
 have hf0:Fr [] H (H.push (.cells #[.string (⟨#[]⟩:ByteArray),.string (⟨#[]⟩:ByteArray),.slice none 0 0,.int .i64 0] 121)):=Fr.push _ _ _
 have hR0:=bA.new H #[.string (⟨#[]⟩:ByteArray),.string (⟨#[]⟩:ByteArray),.slice none 0 0,.int .i64 0] 121
 have hK0:=hK.nil hf0
 generalize (H.push (.cells #[.string (⟨#[]⟩:ByteArray),.string (⟨#[]⟩:ByteArray),.slice none 0 0,.int .i64 0] 121))=H0 at hf0 hR0 hK0 ⊢
 have hI:cj v t i=⟨tx t (v.cls[i]).name,(cj v t i).sup,(v.cls[i]).own.map (tx t),(v.cls[i]).lay⟩:=by
  unfold cj;rw [List.getElem?_eq_getElem hi]
 have en:(cj v t i).name=tx t (v.cls[i]).name:=by rw [hI]
 have eo:(cj v t i).own=(v.cls[i]).own.map (tx t):=by rw [hI]
 have el:(cj v t i).lay=(v.cls[i]).lay:=by rw [hI]
 rw [en,eo,el] at h
 refine uv hK0 hv hi ⟨_,rfl,fW hK0 ⟨_,rfl,?_⟩⟩
 rw [hv.ks.c2 hi]
 refine ch (cW (by omega) (by omega)) ⟨_,rfl,?_⟩
 rw [bZ hob.1]
 refine CU hK0 hv hi fun a l c G H1 ho hf1 hG=>⟨_,_,_,rfl,fW (hK0.nil hf1) ⟨_,rfl,?_⟩⟩
 rw [hv.ks.c5 hi]
 refine Il (by omega) (by omega) ⟨_,rfl,?_⟩
 have hf2:Fr [] H1 (H1.push (.cells #[.string (⟨#[]⟩:ByteArray),.string (⟨#[]⟩:ByteArray),.slice none 0 0,.int .i64 0] 121)):=Fr.push _ _ _
 have hL:=bA.new H1 #[.string (⟨#[]⟩:ByteArray),.string (⟨#[]⟩:ByteArray),.slice none 0 0,.int .i64 0] 121
 have hl0:H.size<H1.size:=Nat.lt_of_lt_of_le hR0.lt hf1.1
 generalize hH2:(H1.push (.cells #[.string (⟨#[]⟩:ByteArray),.string (⟨#[]⟩:ByteArray),.slice none 0 0,.int .i64 0] 121))=H2 at hf2 hL ⊢
 obtain ⟨w0,w1,w2,w3,hB,hf3⟩:=zL hL (o:=0) (by simp) (.string (tx t (v.cls[i]).name)) (.string ⟨#[]⟩) (.slice a l c) (.int .i64 (v.cls[i]).lay)
 refine ⟨w0,w1,w2,w3,?_⟩
 have hF2:=(hf0.trans hf1).trans hf2
 have hF3:=(Up.fresh hF2 (F:=[H1.size]) (F':=[H1.size]) ⟨hf3,fun _ h=>.inl h⟩ (by simp;omega)).1
 have hG':∀ x∈G,H.size<x∧x<H1.size:=fun x hx=>⟨Nat.lt_of_lt_of_le hR0.lt (hG x hx),ho.lt x hx⟩
 have hR3:=((hR0.fr hf1 (by simp)).fr hf2 (by simp)).fr hf3 (by simp;omega)
 have hB':bA _ H1.size #[.string (tx t (v.cls[i]).name),.string ⟨#[]⟩,.slice a l c,.int .i64 (v.cls[i]).lay]:=hB
 have ho3:bv 1 (au (au (au (au H2 ⟨H1.size,0,none⟩ (.string (tx t (v.cls[i]).name))) ⟨H1.size,0+1,none⟩ (.string ⟨#[]⟩)) ⟨H1.size,0+2,none⟩ (.slice a l c)) ⟨H1.size,0+3,none⟩ (.int .i64 (v.cls[i]).lay)) a l c (aO ((v.cls[i]).own.map (tx t))) G :=
  (ho.fr hf2 (by simp)).fr hf3 fun x hx hm=>by simp only [List.mem_singleton] at hm;have:=(hG' x hx).2;omega
 have fin:∀ H' (_:Fr [H1.size,H.size] (au (au (au (au H2 ⟨H1.size,0,none⟩ (.string (tx t (v.cls[i]).name))) ⟨H1.size,0+1,none⟩ (.string ⟨#[]⟩)) ⟨H1.size,0+2,none⟩ (.slice a l c)) ⟨H1.size,0+3,none⟩ (.int .i64 (v.cls[i]).lay)) H'),Q (.agg #[.string (tx t (v.cls[i]).name),.string (cj v t i).sup,.slice a l c,.int .i64 (v.cls[i]).lay]) H':=by
  intro H' hf'
  refine h a l c G H' (ho3.fr hf' fun x hx hm=>?_) ?_ fun x hx=>Nat.le_of_lt (hG' x hx).1
  ·have:=hG' x hx
   simp only [List.mem_cons,List.not_mem_nil,or_false] at hm
   omega
  ·exact (Up.fresh hF3 (F:=[H1.size,H.size]) (F':=[H1.size,H.size]) ⟨hf',fun _ h=>.inl h⟩ (by simp;omega)).1
 have hK3:=hK.nil hF3
 show ah PP yp _ _ (au (au (au (au H2 ⟨H1.size,0,none⟩ (.string (tx t (v.cls[i]).name))) ⟨H1.size,0+1,none⟩ (.string ⟨#[]⟩)) ⟨H1.size,0+2,none⟩ (.slice a l c)) ⟨H1.size,0+3,none⟩ (.int .i64 (v.cls[i]).lay))
 generalize (au (au (au (au H2 ⟨H1.size,0,none⟩ (.string (tx t (v.cls[i]).name))) ⟨H1.size,0+1,none⟩ (.string ⟨#[]⟩)) ⟨H1.size,0+2,none⟩ (.slice a l c)) ⟨H1.size,0+3,none⟩ (.int .i64 (v.cls[i]).lay))=H3 at *
 refine PU hK3 hv.ks hi ⟨_,rfl,?_⟩
 have hsup:(cj v t i).sup=match upIdx v i with
  | some j=>match v.cls[j]? with
   | some d=>tx t d.name
   | none=>⟨#[]⟩
  | none=>⟨#[]⟩:=by unfold cj;rw [List.getElem?_eq_getElem hi] <;> rfl
 rw [bf,ae]
 rcases hv.ks.upI hi with ⟨_,e0,e1⟩ | ⟨j,hj,hlt,e0,_,e1⟩
 ·rw [e1] at hsup
  simp only at hsup
  rw [e0,if_neg (by decide)]
  rw [hsup] at fin
  exact oq hB' hR3 (by simp) fun H' hf'=>fin H' (hf'.mono (by simp))
 ·rw [e1] at hsup
  simp only [List.getElem?_eq_getElem hj] at hsup
  have hb:=(iH hv.ks hj).1
  rw [e0,if_pos (by omega)]
  refine uv hK3 hv hj ⟨_,rfl,hB'.wr (o:=1) (by simp),?_⟩
  rw [←hsup]
  have hfl:Fr [H1.size] H3 (au H3 ⟨H1.size,1,none⟩ (.string (cj v t i).sup)):=Fr.set (by simp)
  exact oq (hB'.set 1 (.string (cj v t i).sup)) (hR3.fr hfl (by simp;omega)) (by simp) fun H' hf'=>fin H' ((hfl.mono (by simp)).trans (hf'.mono (by simp)))
end
def fC (n:Nat):Prop:=(97<=n∧n<=122)∨(65<=n∧n<=90)
instance (n:Nat):Decidable (fC n):=inferInstanceAs (Decidable (_∨_))
def qM (s:ByteArray):Prop:=1<=s.size∧s.size<=32∧fC (gB s 0)∧∀ i,i<s.size->cY (gB s i)
noncomputable instance (s:ByteArray):Decidable (qM s):=Classical.propDecidable _
section
variable {H:aj}{Q:QT}
theorem tk {n:Nat} (h:Q (.bool (decide (fC n))) H):ah PP Gp #[.int .u8 n] Q H:=by
 apply BE
 unfold NA
 have fin:∀ x:Bool,x=decide (fC n)->Q (.bool x) H:=fun x hx=>hx ▸ h
 simp only [ae]
 refine aA (fun h1=>aA (fun h2=>fin _ ?_) fun h2=>aA (fun h3=>fin _ ?_) fun h3=>fin _ ?_) fun h1=>aA (fun h3=>fin _ ?_) fun h3=>fin _ ?_
 all_goals
  rw [Bool.eq_iff_iff]
  simp only [decide_eq_true_iff,true_iff,false_iff,Bool.false_eq_true]
  unfold fC
  omega
theorem vv {x:ByteArray} (h:Q (.bool (decide (qM x))) H):ah PP FJ #[.string x] Q H:=by
 apply Bm
 unfold Nb iV wW cS
 have no:¬ qM x->Q (.bool false) H:=fun hn=>by rw [decide_eq_false hn] at h;exact h
 rw [ae]
 refine aA (fun h1=>no fun hn=>by have:=hn.1;omega) fun h1=>?_
 rw [ae]
 refine aA (fun h2=>no fun hn=>by have:=hn.2.1;omega) fun h2=>?_
 have hpos:0<x.size:=by omega
 obtain ⟨g1,g2⟩:=oS hpos
 refine ⟨_,⟨Int.le_refl 0,g1⟩,?_⟩
 rw [g2]
 refine tk ⟨_,rfl,?_⟩
 rw [←decide_not,ae]
 refine aA (fun h3=>no fun hn=>h3 hn.2.2.1) fun h3=>?_
 refine ⟨fun w H'=>H'=H∧∃ i:Nat,w=[.int .i64 i]∧i<=x.size∧∀ j,j<i->cY (gB x j),fun w _=>match w with
  | [.int _ i]=>(x.size-i).toNat
  | _=>0,⟨rfl,0,rfl,Nat.zero_le _,fun j hj=>by omega⟩,?_⟩
 rintro w H1 ⟨rfl,i,rfl,hi,hall⟩ _
 refine ⟨_,rfl,?_⟩
 rw [ae]
 refine aA (fun hlt=>?_) fun hlt=>?_
 ·have hlt':i<x.size:=by omega
  have e:IntKind.wrap .i64 ((i:Int)+1)=((i+1:Nat):Int):=by rw [am (by omega) (by omega)];omega
  obtain ⟨k1,k2⟩:=oS hlt'
  have go:cY (gB x i)->(True∧∃ i_1:Nat,[Value.int .i64 (IntKind.wrap .i64 ((i:Int)+1))]=[.int .i64 i_1]∧i_1<=x.size∧∀ j,j<i_1->cY (gB x j))∧((x.size:Int)-(IntKind.wrap .i64 ((i:Int)+1))).toNat<((x.size:Int)-(i:Int)).toNat:=fun ha=>by
   rw [e]
   refine ⟨⟨trivial,i+1,rfl,by omega,fun j hj=>?_⟩,by omega⟩
   rcases Nat.lt_or_ge j i with h5 | h5
   ·exact hall j h5
   ·have:j=i:=by omega
    rw [this];exact ha
  have bad:¬ cY (gB x i)->Q (.bool false) H1:=fun ha=>no fun hn=>ha (hn.2.2.2 i hlt')
  have k1':x[Int.toNat (i:Int)]?=some x[i]:=by rw [Int.toNat_natCast];exact k1
  refine ⟨_,⟨by omega,k1'⟩,?_⟩
  rw [k2]
  refine tk ⟨_,rfl,?_⟩
  rw [←decide_not,ae]
  have hgo:fC (gB x i)->cY (gB x i):=fun h=>by unfold fC at h;unfold cY;omega
  refine aA (fun h4=>?_) fun h4=>?_
  ·refine ⟨_,⟨by omega,k1'⟩,?_⟩
   rw [k2,ae]
   refine aA (fun h5=>bad (by unfold fC at h4;unfold cY;omega)) fun h5=>⟨_,⟨by omega,k1'⟩,?_⟩
   rw [k2,ae]
   refine aA (fun h6=>bad (by unfold fC at h4;unfold cY;omega)) fun h6=>?_
   have:=go (by unfold cY;omega)
   simpa using this
  ·have:=go (hgo (Classical.byContradiction h4))
   simpa using this
 ·have:i=x.size:=by omega
  subst this
  have hok:qM x:=⟨hpos,by omega,Classical.byContradiction h3,hall⟩
  rw [decide_eq_true hok] at h
  exact h
theorem mH {x:ByteArray} (h:Q (.bool (decide (gp 65 90 x))) H):ah PP HU #[.string x] Q H:=by
 apply zX
 unfold PE sV
 refine vv ⟨_,rfl,?_⟩
 rw [ae]
 have fin:∀ y:Bool,y=decide (gp 65 90 x)->Q (.bool y) H:=fun y hy=>hy ▸ h
 refine aA (fun hp=>?_) fun hp=>?_
 ·obtain ⟨g1,g2⟩:=oS (show 0<x.size from hp.1)
  refine ⟨_,⟨Int.le_refl 0,g1⟩,?_⟩
  rw [g2]
  refine fin _ ?_
  rw [decide_eq_decide]
  have hl:=hp.2.2.1
  unfold fC at hl
  constructor
  ·exact fun h5=>⟨hp.1,hp.2.1,by omega,by omega,hp.2.2.2⟩
  ·rintro ⟨_,_,h6,h7,_⟩;omega
 ·refine fin _ ?_
  have hno:¬ gp 65 90 x:=fun hn=>hp ⟨hn.1,hn.2.1,.inr ⟨hn.2.2.1,hn.2.2.2.1⟩,hn.2.2.2.2⟩
  rw [decide_eq_false hno]
theorem tr {x:ByteArray} (h:Q (.bool (decide (gA x))) H):ah PP K8 #[.string x] Q H:=by
 apply Ah
 unfold Mb sV
 refine vv ⟨_,rfl,?_⟩
 rw [ae]
 have no:¬ gA x->Q (.bool false) H:=fun hn=>by rw [decide_eq_false hn] at h;exact h
 refine aA (fun hp=>?_) fun hp=>no fun hn=>hp ⟨hn.2.1,hn.2.2.1,.inl ⟨hn.2.2.2.1,hn.2.2.2.2.1⟩,hn.2.2.2.2.2⟩
 obtain ⟨g1,g2⟩:=oS (show 0<x.size from hp.1)
 refine ⟨_,⟨Int.le_refl 0,g1⟩,?_⟩
 rw [g2]
 simp only [cL,←decide_not,ae]
 refine aA (fun h0=>?_) fun h0=>no fun hn=>by have:=hn.2.2.2.1;omega
 refine aA (fun h1=>?_) fun h1=>no fun hn=>h1 fun e=>hn.1 (.inl e)
 refine aA (fun h2=>?_) fun h2=>no fun hn=>h2 fun e=>hn.1 (.inr (.inl e))
 refine aA (fun h3=>?_) fun h3=>no fun hn=>h3 fun e=>hn.1 (.inr (.inr (.inl e)))
 refine aA (fun h4=>?_) fun h4=>no fun hn=>h4 fun e=>hn.1 (.inr (.inr (.inr (.inl e))))
 have hl:=hp.2.2.1
 unfold fC at hl
 have e:decide (gA x)=decide (¬ x=(⟨#[102,97,108,115,101]⟩:ByteArray)):=by
  rw [decide_eq_decide]
  constructor
  ·exact fun hn e=>hn.1 (.inr (.inr (.inr (.inr e))))
  ·refine fun h5=>⟨fun hr=>?_,hp.1,hp.2.1,by omega,by omega,hp.2.2.2⟩
   rcases hr with e | e | e | e | e <;> contradiction
 rw [e] at h;exact h
end
def fg:rE CI:=fun H ys x F=>∃ a l c,ys=[.string x.name,.string x.sup,.slice a l c,.int .i64 x.lay]∧bv 1 H a l c (aO x.own) F
theorem fg.fr:Dt fg:=fun H H' ys x F ⟨a,l,c,e,h⟩ he=>⟨a,l,c,e,h.keep he⟩
theorem fg.lt:Eh fg:=fun H ys x F ⟨a,l,c,e,h⟩=>h.lt
def eq (v:KV) (t:TB):List CI:=(List.range v.cls.length).map (cj v t)
section
variable {H:aj}{b:Nat}{F:ay}{s:SP}{t:TB}{v:KV}{Q:QT}
theorem Dv (hK:RK H b F s t) (hv:KAll s t v) (h:∀ a l c G H',dv 4 fg H' a l c (eq v t) G->Fr [] H H'->(∀ x∈G,H.size<=x)->Q (.slice a l c) H'):ah PP Gx #[.pointer (some ⟨b,0,none⟩)] Q H:=by
 have hs1:aF PP 40=some (4,64,some (.agg #[.string (⟨#[]⟩:ByteArray),.string (⟨#[]⟩:ByteArray),.slice none 0 0,.int .i64 0])):=by kernel_rfl
 have hm1:=hv.ks.shape.many1
 apply BK
 unfold Mo A0 iV wW pV sV lV cS
 refine pN hK hv.ks fun al ll cl Gl H0 hol hfl hGl=>⟨_,_,_,rfl,?_⟩
 have hll:ll=v.cls.length:=by have:=hol.len;simpa [aq,gh] using this.symm
 have hlen:(eq v t).length=v.cls.length:=by simp [eq]
 refine ⟨fun w H'=>∃(i:Nat) (a:Option Addr) (l' c:Nat) (G:ay),w=[.slice a l' c,.int .i64 i]∧i<=v.cls.length∧dv 4 fg H' a l' c ((eq v t).take i) G∧Fr [] H0 H'∧(∀ x∈G,H0.size<=x),fun w _=>match w with
  | [_,.int _ i]=>(v.cls.length-i).toNat
  | _=>0,⟨0,none,0,0,[],rfl,Nat.zero_le _,by simpa using dv.nil,Fr.refl _ _,by simp⟩,?_⟩
 rintro w H1 ⟨i,a1,l1,c1,G,rfl,hi,ho,hf1,hG⟩ _
 have hl1:l1=i:=by have:=ho.len;simp only [List.length_take] at this;omega
 refine ⟨_,_,_,_,rfl,?_⟩
 rw [ae]
 refine aA (fun hlt=>?_) fun hlt=>?_
 ·have hlt':i<v.cls.length:=by omega
  obtain ⟨p,rfl,hcell⟩:=jG hol hf1 hlt'
  have htk:(eq v t).take (i+1)=(eq v t).take i++[cj v t i]:=by
   rw [List.take_add_one,List.getElem?_eq_getElem (by omega)];simp [eq]
  have e:IntKind.wrap .i64 ((i:Int)+1)=((i+1:Nat):Int):=by rw [am (by omega) (by omega)];omega
  refine ⟨⟨by omega,hlt⟩,_,rfl,_,by rw [Int.toNat_natCast];exact hcell,B0 (hK.nil (hfl.trans hf1)) hv hlt' fun a l c G2 H2 ho2 hf2 hG2=>⟨_,_,_,_,_,_,rfl,?_⟩⟩
  have hlt1:=ho.lt fg.lt
  refine dv.snoc (x:=cj v t i) (G:=G2) fg.fr fg.lt hs1 rfl (by kernel_rfl) (ho.fr fg.fr fg.lt hf2 (bi.nil_right _)) ⟨a,l,c,rfl,ho2⟩ rfl (fun x hx hx2=>?_) (by simp [cC]) (by omega) (by decide) (by decide) fun a' c' F' H3 g1 g2 g3=>⟨_,_,_,rfl,?_⟩
  ·have:=hlt1 x hx
   have:=hG2 x hx2
   omega
  ·rw [e]
   have hf3:Fr [] H0 H3:=(Up.fresh (hf1.trans hf2) (F:=G) (F':=G) ⟨g2,fun _ h=>.inl h⟩ hG).1
   refine ⟨⟨i+1,a',l1+1,c',F',rfl,by omega,by rw [htk];exact g1,hf3,fun x hx=>?_⟩,by simp;omega⟩
   rcases g3 x hx with h5 | h5 | h5
   ·exact hG x h5
   ·exact Nat.le_trans hf1.1 (hG2 x h5)
   ·exact Nat.le_trans (hf1.trans hf2).1 h5
 ·rw [List.take_of_length_le (by omega)] at ho
  exact h _ _ _ _ H1 ho (hfl.trans hf1) fun x hx=>Nat.le_trans hfl.1 (hG x hx)
theorem kE {a:Option Addr}{l c:Nat}{G:ay} (hL:dv 4 fg H a l c (eq v t) G){i:Nat} (hi:i<v.cls.length):∃ p a2 l2 c2 G2,a=some p∧p.spot=none∧ac H (p.add (i*4))=some (.string (cj v t i).name)∧ac H ((p.add (i*4)).add 1)=some (.string (cj v t i).sup) ∧
  ac H ((p.add (i*4)).add 2)=some (.slice a2 l2 c2)∧bv 1 H a2 l2 c2 (aO (cj v t i).own) G2∧∀ x∈G2,x∈G:=by
 obtain ⟨p,ys,G2,hp,hsp,hoff,hcell,hyl,⟨a2,l2,c2,e,ho⟩,hsub⟩:=hL.get (i:=i) (by simpa [eq] using hi)
 have ei:(eq v t)[i]'(by simpa [eq] using hi)=cj v t i:=by simp [eq]
 rw [ei] at e ho
 subst e
 obtain ⟨pb,po,ps⟩:=p
 simp only at hsp hoff
 subst hsp hoff
 have h0:=hcell 0 (by decide)
 have h1:=hcell 1 (by decide)
 have h2:=hcell 2 (by decide)
 refine ⟨_,a2,l2,c2,G2,hp,rfl,?_,?_,?_,ho,hsub⟩
 ·rw [ao,Nat.zero_add];exact h0
 ·rw [ao,ao,Nat.zero_add];exact h1
 ·rw [ao,ao,Nat.zero_add];exact h2
theorem Lf {a:Option Addr}{l c:Nat}{G:ay} (hL:dv 4 fg H a l c (eq v t) G){n:Nat} (hn:n<=v.cls.length) (hm:v.cls.length<=256){x:ByteArray}
  (h1:∀ j,j<n->(cj v t j).name=x->(∀ k,k<j->(cj v t k).name≠x)->Q (.int .i64 j) H) (h2:(∀ k,k<n->(cj v t k).name≠x)->Q (.int .i64 (-1)) H) :
  ah PP xJ #[.slice a l c,.int .i64 n,.string x] Q H:=by
 have hl:l=v.cls.length:=by have:=hL.len;simpa [eq] using this
 apply AD
 unfold Qa iV wW sV
 refine ⟨fun w H'=>H'=H∧∃ i:Nat,w=[.int .i64 i]∧i<=n∧∀ k,k<i->(cj v t k).name≠x,fun w _=>match w with
  | [.int _ i]=>(n-i).toNat
  | _=>0,⟨rfl,0,rfl,Nat.zero_le _,fun k hk=>by omega⟩,?_⟩
 rintro w H1 ⟨rfl,i,rfl,hi,hno⟩ _
 refine ⟨_,rfl,?_⟩
 rw [ae]
 refine aA (fun hlt=>?_) fun hlt=>?_
 ·obtain ⟨p,a2,l2,c2,G2,rfl,_,c0,_⟩:=kE hL (i:=i) (by omega)
  have e:IntKind.wrap .i64 ((i:Int)+1)=((i+1:Nat):Int):=by rw [am (by omega) (by omega)];omega
  refine ⟨⟨by omega,by omega⟩,_,rfl,_,by rw [Int.toNat_natCast];exact c0,?_⟩
  rw [cL,ae]
  refine aA (fun he=>h1 i (by omega) he hno) fun he=>?_
  rw [e]
  refine ⟨⟨rfl,i+1,rfl,by omega,fun k hk=>?_⟩,by simp;omega⟩
  rcases Nat.lt_or_ge k i with h5 | h5
  ·exact hno k h5
  ·have:k=i:=by omega
   subst this;exact he
 ·have:i=n:=by omega
  subst this
  exact h2 hno
end
def HB (H:aj) (b sb hb:Nat):Prop:=ac H ⟨b,0,none⟩=some (.pointer (some ⟨sb,0,none⟩))∧ac H ⟨sb,0,none⟩=some (.pointer (some ⟨hb,0,none⟩))
theorem bN {H:aj}{b o:Nat}{v:Value} (h:ac H ⟨b,o,none⟩=some v):b<H.size:=by
 unfold ac at h
 rcases Nat.lt_or_ge b H.size with h1 | h1
 ·exact h1
 ·simp only [Array.getElem?_eq_none h1] at h;cases h
theorem HB.nil {H H':aj}{b sb hb:Nat} (h:HB H b sb hb) (hf:Fr [] H H'):HB H' b sb hb:=by
 obtain ⟨h1,h2⟩:=h
 exact ⟨by rw [bz hf (by simp) (bN h1)];exact h1,by rw [bz hf (by simp) (bN h2)];exact h2⟩
section
variable {H:aj}{b sb hb:Nat}{F:ay}{s:SP}{t:TB}{Q:QT}
theorem PK.hp (hK:PK H b F s t) (hB:HB H b sb hb):∃ F1,dp H hb F1 s.h∧(∀ x∈F1,x∈F)∧∀ H' r',dp H' hb F1 r'->Fr F1 H H'->PK H' b F { s with h:=r' } t∧HB H' b sb hb:=by
 obtain ⟨sb',F1,hc,hS,hsub,hbF,_,hup⟩:=hK.sp
 obtain ⟨hc1,hc2⟩:=hB
 rw [hc] at hc1
 have e:sb'=sb:=by simpa using hc1
 subst e
 obtain ⟨hb',F2,hR,c0,_,_,hsub2,hnb,hup2⟩:=hS.upd
 rw [c0] at hc2
 have e:hb'=hb:=by simpa using hc2
 subst e
 have hbl:=hK.lt b hK.bmem
 have hsl:=hS.lt _ hS.bmem
 refine ⟨F2,hR,fun x hx=>hsub x (hsub2 x hx),fun H' r' hR' hf=>⟨hup H' _ (hup2 H' r' hR' hf) (hf.mono hsub2),?_,?_⟩⟩
 ·rw [bz hf (fun hm=>hbF (hsub2 b hm)) hbl];exact hc
 ·rw [bz hf hnb hsl];exact c0
theorem PK.tbB (hK:PK H b F s t) (hB:HB H b sb hb):∃ tb F2,ac H ⟨b,1,none⟩=some (.pointer (some ⟨tb,0,none⟩))∧mS H tb F2 t∧∀ H' F2' t',mS H' tb F2' t'->Up F2 H F2' H'->(∃ F',PK H' b F' s t'∧Up F H F' H')∧HB H' b sb hb:=by
 obtain ⟨sb0,tb,F1,F2,rfl,h1,h2,h3,k1,k2,hBl,hS,hT⟩:=hK
 have hK:PK H b (b :: (F1++F2)) s t:=⟨sb0,tb,F1,F2,rfl,h1,h2,h3,k1,k2,hBl,hS,hT⟩
 obtain ⟨tb',F2',hc',hT',hsub',hbF',hup',_⟩:=hK.tb
 obtain ⟨hc1,hc2⟩:=hB
 have e0:ac H ⟨b,0,none⟩=some (.pointer (some ⟨sb0,0,none⟩)):=hBl.cell 0
 rw [e0] at hc1
 have e:sb0=sb:=by simpa using hc1
 subst e
 have hbl:=hK.lt b hK.bmem
 have hsl:=hS.lt _ hS.bmem
 refine ⟨tb,F2,hBl.cell 1,hT,fun H' F2' t' hT2 hu=>⟨?_,?_,?_⟩⟩
 ·have hlt:=hK.lt
  have hgl:=hK.kinds.lt
  have hgS:=hS.gk
  refine ⟨b :: (F1++F2'),⟨_,tb,F1,F2',rfl,h1,Up.out hu h2 hbl,fun x hx hx2=>?_,k1,Up.out hu k2 hgl,hBl.fr hu.1 h2,hS.fr hu.1 h3 k2,hT2⟩,hu.1.mono fun x hx=>by simp [hx],fun x hx=>?_⟩
  ·rcases hu.2 x hx2 with h4 | h4
   ·exact h3 x hx h4
   ·have:=hlt x (by simp [hx]);omega
  ·rcases List.mem_cons.1 hx with rfl | hx
   ·exact .inl (by simp)
   ·rcases List.mem_append.1 hx with hx | hx
    ·exact .inl (by simp [hx])
    ·exact (hu.2 x hx).imp (fun h4=>by simp [h4]) id
 ·rw [bz hu.1 h2 hbl];exact e0
 ·rw [bz hu.1 (h3 _ hS.bmem) hsl];exact hc2
theorem nf {r:RH} (h:∀ k x,aH r.objs k=some x->x.fmt=0) (k i w:Int):∀ j x,aH (r.put k i w).2.objs j=some x->x.fmt=0:=fun j x hx=>by
 obtain ⟨y,h1,h2⟩:=mQ k i w j hx
 rw [h2];exact h j y h1
theorem Af (o:Int) (l:List Int):∀ (i:Int){r:RH},(∀ k x,aH r.objs k=some x->x.fmt=0)->∀ j x,aH (r.lay o i l).objs j=some x->x.fmt=0:=by
 induction l with
 | nil=>intro i r h;exact h
 | cons w l ih=>intro i r h;exact ih (i+1) (nf h o i w)
theorem qI {r:RH} (h:∀ k x,aH r.objs k=some x->x.fmt=0) (n:Nat):∀ j x,aH (i8 r n).objs j=some x->x.fmt=0:=by
 induction n with
 | zero=>exact h
 | succ n ih=>exact nf (Af _ _ _ ih) _ _ _
theorem Fx (hK:PK H b F s ⟨4096,[]⟩) (hB:HB H b sb hb) (hfmt:∀ k x,aH s.h.objs k=some x->x.fmt=0)
  (h:∀ H' F',PK H' b F' { s with h:=eH s.h } dH->HB H' b sb hb->Up F H F' H'->Q (.tuple #[]) H'):ah PP Pm #[.pointer (some ⟨b,0,none⟩)] Q H:=by
 have h14:bB.length=14:=rfl
 apply KB
 unfold Ru A0 iV wW pV sV lV cS
 obtain ⟨sb0,F1,hc,hS,_⟩:=hK.sp
 have e0:sb0=sb:=by
  have:=hB.1
  rw [hc] at this;simpa using this
 subst e0
 refine ⟨_,rfl,_,hc,?_⟩
 have hps:∀ {Q':Value->aj->Prop},Q' (.pointer (some ⟨hb,0,none⟩)) H->ah PP yh #[.pointer (some ⟨sb0,0,none⟩)] Q' H:=by
  intro Q' hq
  obtain ⟨hb',F1',hR,c0,_⟩:=hS.upd
  obtain ⟨hc1,hc2⟩:=hB
  rw [c0] at hc2
  have e:hb'=hb:=by simpa using hc2
  subst e
  apply yx
  unfold QB pV
  refine fZ hS ⟨_,rfl,?_⟩
  simp only [cond_false]
  exact ⟨_,rfl,_,c0,hq⟩
 refine hps ⟨_,rfl,?_⟩
 apply xL
 unfold QD A0 sV lV
 refine ⟨_,_,_,rfl,?_⟩
 have fp:=(Fr.push [] H (.cells (aO bB).toArray 9))
 have hN:Rd 1 (H.push (.cells (aO bB).toArray 9)) (some ⟨H.size,0,none⟩) 14 (aO bB):=by
  refine ⟨rfl,(fun h=>by cases h),fun p hp k hk=>?_⟩
  cases hp
  rw [ao,Nat.zero_add,(bA.new H _ _).cell]
  simp
 have hNo:mM (H.push (.cells (aO bB).toArray 9)) (some ⟨H.size,0,none⟩) F:=fun p hp=>by
  cases hp
  exact ⟨by simp,fun hm=>absurd (hK.lt _ hm) (Nat.lt_irrefl _)⟩
 have hK1:=hK.nil fp
 have hB1:HB (H.push (.cells (aO bB).toArray 9)) b sb0 hb:=HB.nil hB fp
 show ∃(I8:List Value->aj->Prop) (μ8:List Value->aj->Nat),I8 [.int .i64 0] (H.push (.cells (aO bB).toArray 9))∧_
 generalize (H.push (.cells (aO bB).toArray 9))=H0 at fp hN hNo hK1 hB1 ⊢
 refine ⟨fun w H'=>∃(i:Nat) (F':ay),w=[.int .i64 i]∧i<=14∧PK H' b F' { s with h:=i8 s.h i } ⟨4096,bB.take i⟩∧HB H' b sb0 hb∧Up F H0 F' H',fun w _=>match w with
  | [.int _ i]=>(14-i).toNat
  | _=>0,⟨0,F,rfl,by decide,hK1,hB1,Up.refl _ _⟩,?_⟩
 rintro w H3 ⟨i,F3,rfl,hi,hK3,hB3,hu3⟩ _
 refine ⟨_,rfl,?_⟩
 rw [ae]
 refine aA (fun hlt=>?_) fun hlt=>?_
 ·have hlt':i<bB.length:=by omega
  obtain ⟨p,hlt2,hp,hcell⟩:=(hNo.rd hu3 hN).str (i:=(i:Int)) (by omega) (by omega)
  cases hp
  simp only [Int.toNat_natCast] at hcell hlt2
  have e1:IntKind.wrap .i64 ((i:Int)+1)=((i+1:Nat):Int):=by rw [am (by omega) (by omega)];omega
  have e1':IntKind.wrap .i64 ((i:Int)+1)=(i:Int)+1:=am (by omega) (by omega)
  have e4:IntKind.wrap .i64 (4+(i:Int))=4+(i:Int):=am (by omega) (by omega)
  obtain ⟨tb,F4,hc4,hT4,hup4⟩:=PK.tbB hK3 hB3
  refine ⟨⟨by omega,hlt⟩,_,rfl,_,by rw [Int.toNat_natCast,Nat.mul_one];exact hcell,_,rfl,_,hc4,mT hT4 fun H4 F4' hT4' hu4=>⟨_,_,rfl,?_⟩⟩
  rw [vd hlt'] at hT4' ⊢
  obtain ⟨⟨F5,hK5,hu5⟩,hB5⟩:=hup4 H4 F4' _ hT4' hu4
  refine vK ⟨by simp only;omega,by simp only;omega⟩ ⟨_,_,rfl,dh (by decide) ⟨_,rfl,?_⟩⟩
  refine ⟨fun w H'=>w=[.int .i64 (if i=0 then 4 else 16)]∧H'=H4,?_,?_⟩
  ·rw [bj,ae]
   refine aA (fun h0=>dh (by decide) ⟨_,rfl,?_,rfl⟩) fun h0=>⟨?_,rfl⟩
   ·rw [if_pos (by omega)];rfl
   ·rw [if_neg (by omega)];rfl
  rintro w H4' ⟨rfl,rfl⟩ _
  refine ⟨_,rfl,dh (by decide) ⟨_,rfl,dh (by decide) ⟨_,rfl,dh (by decide) ⟨_,rfl,jJ (by decide) ⟨_,rfl,?_⟩⟩⟩⟩⟩
  rw [e1',e4]
  refine jJ ⟨by omega,by omega⟩ ⟨_,rfl,?_⟩
  have fq:=(Fr.push [] H4' (.cells (aq (eE i)).toArray 36))
  have hW:Rd 1 (H4'.push (.cells (aq (eE i)).toArray 36)) (some ⟨H4'.size,0,none⟩) 7 (aq (eE i)):=fK (cs:=eE i)
  have hWo:mM (H4'.push (.cells (aq (eE i)).toArray 36)) (some ⟨H4'.size,0,none⟩) F5:=fun p hp=>by
   cases hp
   exact ⟨by simp,fun hm=>absurd (hK5.lt _ hm) (Nat.lt_irrefl _)⟩
  have hK6:=hK5.nil fq
  have hB6:HB (H4'.push (.cells (aq (eE i)).toArray 36)) b sb0 hb:=HB.nil hB5 fq
  show ∃(I38:List Value->aj->Prop) (μ38:List Value->aj->Nat),I38 [.int .i64 0] (H4'.push (.cells (aq (eE i)).toArray 36))∧_
  generalize (H4'.push (.cells (aq (eE i)).toArray 36))=H6 at fq hW hWo hK6 hB6 ⊢
  refine ⟨fun w H'=>∃(k:Nat) (r:RH),w=[.int .i64 k]∧k<=7∧PK H' b F5 { s with h:=r } ⟨4096,bB.take (i+1)⟩∧HB H' b sb0 hb∧Fr F5 H6 H'∧r.lay (4+i) k ((eE i).drop k)=(i8 s.h i).lay (4+i) 0 (eE i)∧∀ j x,aH r.objs j=some x->x.fmt=0,fun w _=>match w with
   | [.int _ k]=>(7-k).toNat
   | _=>0,⟨0,i8 s.h i,rfl,by decide,hK6,hB6,Fr.refl _ _,rfl,qI hfmt i⟩,?_⟩
  rintro w H7 ⟨k,r,rfl,hk7,hK7,hB7,hf7,hlay,hr⟩ _
  refine ⟨_,rfl,?_⟩
  rw [ae]
  refine aA (fun hkl=>?_) fun hkl=>?_
  ·have hkl':k<(eE i).length:=by show k<7;omega
   obtain ⟨p,hp,hcell,hlt3⟩:=(hW.fr' hf7 fun p hp=>(hWo p hp).2).int (i:=(k:Int)) (by omega) (by omega)
   cases hp
   rw [Int.toNat_natCast] at hcell hlt3
   have hx:(eE i).getD k 0=(eE i)[k]:=by simp [hkl']
   rw [hx] at hcell
   have ed:(eE i).drop k=(eE i)[k] :: (eE i).drop (k+1):=List.drop_eq_getElem_cons hkl'
   have ek:IntKind.wrap .i64 ((k:Int)+1)=((k+1:Nat):Int):=by rw [am (by omega) (by omega)];omega
   obtain ⟨F8,hR8,hsub8,hup8⟩:=PK.hp hK7 hB7
   refine ⟨⟨by omega,hkl⟩,_,rfl,_,by rw [Int.toNat_natCast,Nat.mul_one];exact hcell,jS hR8 (hr _) fun H9 hR9 hf9=>⟨_,rfl,?_⟩⟩
   obtain ⟨hK9,hB9⟩:=hup8 H9 _ hR9 hf9
   rw [ek]
   refine ⟨⟨k+1,(r.put (4+i) k (eE i)[k]).2,rfl,by omega,hK9,hB9,hf7.trans (hf9.mono hsub8),?_,nf hr _ _ _⟩,by simp;omega⟩
   rw [←hlay,ed]
   rfl
  ·have hk:k=7:=by omega
   subst hk
   have hz:(eE i).drop 7=[]:=rfl
   rw [hz] at hlay
   simp only [RH.lay] at hlay
   subst hlay
   refine dh ⟨by omega,by omega⟩ ⟨_,rfl,?_⟩
   obtain ⟨F8,hR8,hsub8,hup8⟩:=PK.hp hK7 hB7
   refine jS hR8 (hr _) fun H9 hR9 hf9=>⟨_,rfl,?_⟩
   obtain ⟨hK9,hB9⟩:=hup8 H9 _ hR9 hf9
   rw [show (i:Int)+1=((i+1:Nat):Int) by omega]
   refine ⟨⟨i+1,F5,rfl,by omega,hK9,hB9,?_⟩,by simp;omega⟩
   exact (hu3.trans hu5).trans ((Up.of_nil fq).trans ⟨hf7.trans (hf9.mono hsub8),fun _ h=>.inl h⟩)
 ·have hi14:i=14:=by omega
  subst hi14
  have fq:=(Fr.push [] H3 (.cells (aq [20,18,18,18,1,2,3]).toArray 3))
  have hW:Rd 1 (H3.push (.cells (aq [20,18,18,18,1,2,3]).toArray 3)) (some ⟨H3.size,0,none⟩) 7 (aq [20,18,18,18,1,2,3]):=fK (cs:=[20,18,18,18,1,2,3])
  have hWo:mM (H3.push (.cells (aq [20,18,18,18,1,2,3]).toArray 3)) (some ⟨H3.size,0,none⟩) F3:=fun p hp=>by
   cases hp
   exact ⟨by simp,fun hm=>absurd (hK3.lt _ hm) (Nat.lt_irrefl _)⟩
  have hK6:=hK3.nil fq
  have hB6:HB (H3.push (.cells (aq [20,18,18,18,1,2,3]).toArray 3)) b sb0 hb:=HB.nil hB3 fq
  show ∃(I38:List Value->aj->Prop) (μ38:List Value->aj->Nat),I38 [.int .i64 0] (H3.push (.cells (aq [20,18,18,18,1,2,3]).toArray 3))∧_
  generalize (H3.push (.cells (aq [20,18,18,18,1,2,3]).toArray 3))=H6 at fq hW hWo hK6 hB6 ⊢
  refine ⟨fun w H'=>∃(k:Nat) (r:RH),w=[.int .i64 k]∧k<=7∧PK H' b F3 { s with h:=r } dH∧HB H' b sb0 hb∧Fr F3 H6 H'∧r.lay 19 k (qw.drop k)=eH s.h∧∀ j x,aH r.objs j=some x->x.fmt=0,fun w _=>match w with
   | [.int _ k]=>(7-k).toNat
   | _=>0,⟨0,i8 s.h 14,rfl,by decide,by rw [show dH=⟨4096,bB.take 14⟩ from rfl];exact hK6,hB6,Fr.refl _ _,by rw [eH];rfl,qI hfmt 14⟩,?_⟩
  rintro w H7 ⟨k,r,rfl,hk7,hK7,hB7,hf7,hlay,hr⟩ _
  refine ⟨_,rfl,?_⟩
  rw [ae]
  refine aA (fun hkl=>?_) fun hkl=>?_
  ·have hkl':k<7:=by omega
   obtain ⟨p,hp,hcell,hlt3⟩:=(hW.fr' hf7 fun p hp=>(hWo p hp).2).int (i:=(k:Int)) (by omega) (by omega)
   cases hp
   rw [Int.toNat_natCast] at hcell hlt3
   have ek:IntKind.wrap .i64 ((k:Int)+1)=((k+1:Nat):Int):=by rw [am (by omega) (by omega)];omega
   have hx:1<=([20,18,18,18,1,2,3]:List Int).getD k 0∧([20,18,18,18,1,2,3]:List Int).getD k 0<=65536∧qw.drop k=4*([20,18,18,18,1,2,3]:List Int).getD k 0 :: qw.drop (k+1):=by
    rcases k with _ | _ | _ | _ | _ | _ | _ | k
    all_goals first | exact ⟨by decide,by decide,by decide⟩ | omega
   obtain ⟨F8,hR8,hsub8,hup8⟩:=PK.hp hK7 hB7
   refine ⟨⟨by omega,hkl⟩,_,rfl,_,by rw [Int.toNat_natCast,Nat.mul_one];exact hcell,dh ⟨hx.1,hx.2.1⟩ ⟨_,rfl,jS hR8 (hr _) fun H9 hR9 hf9=>⟨_,rfl,?_⟩⟩⟩
   obtain ⟨hK9,hB9⟩:=hup8 H9 _ hR9 hf9
   rw [ek]
   refine ⟨⟨k+1,_,rfl,by omega,hK9,hB9,hf7.trans (hf9.mono hsub8),?_,nf hr _ _ _⟩,by simp;omega⟩
   rw [←hlay,hx.2.2]
   rfl
  ·have hk:k=7:=by omega
   subst hk
   have hz:qw.drop 7=[]:=rfl
   rw [hz] at hlay
   have hlay':r=eH s.h:=hlay
   rw [hlay'] at hK7
   have hu7:Up F3 H3 F3 H7:=(Up.of_nil fq).trans ⟨hf7,fun _ h=>.inl h⟩
   have hu9:Up F H F3 H7:=((Up.of_nil fp).trans hu3).trans hu7
   exact h H7 F3 hK7 hB7 hu9
end
def fB (pl:List (Value × List ByteArray)) (n:Nat):List ByteArray:=((pl.drop n).reverse.map (·.2)).flatten
theorem nJ {pl:List (Value × List ByteArray)}{n:Nat} (h:n<pl.length):fB pl n=fB pl (n+1)++(pl[n]).2:=by
 unfold fB
 rw [List.drop_eq_getElem_cons h]
 simp only [List.reverse_cons,List.map_append,List.map_cons,List.map_nil,List.flatten_append,List.flatten_cons,List.flatten_nil,List.append_nil]
theorem vX (pl:List (Value × List ByteArray)):fB pl pl.length=[]:=by simp [fB]
theorem nQ (pl:List (Value × List ByteArray)) (x:Value × List ByteArray):fB (pl++[x]) 0=x.2++fB pl 0:=by simp [fB]
theorem wo {pl:List (Value × List ByteArray)}:∀ (k n:Nat),n+k=pl.length->∃ r,fB pl 0=fB pl n++r∧True:=by
 intro k n hk
 induction n generalizing k with
 | zero=>exact ⟨[],by simp,trivial⟩
 | succ n ih =>
  obtain ⟨r,e,_⟩:=ih (k+1) (by omega)
  exact ⟨(pl[n]'(by omega)).2++r,by rw [e,nJ (by omega)];simp,trivial⟩
def yr (H:aj) (p:Value × List ByteArray):Prop:=∃ a l c,p.1=.slice a l c∧Rd 1 H a l (aO p.2)
section
variable {H:aj}{b:Nat}{F:ay}{s:SP}{t:TB}{v:KV}{Q:QT}
theorem gQ {i:Nat} (hi:i<v.cls.length):(cj v t i).name=tx t (v.cls[i]).name∧(cj v t i).own=(v.cls[i]).own.map (tx t):=by
 unfold cj;rw [List.getElem?_eq_getElem hi];exact ⟨rfl,rfl⟩
theorem zA (hv:KAll s t v){i j:Nat} (hi:i<v.cls.length) (hj:j<v.cls.length) (h:(cj v t i).name=(cj v t j).name):i=j:=by
 rw [(gQ hi).1,(gQ hj).1] at h
 have:=yL hv.names.wf (hv.names.name _ (List.getElem_mem hi)) (hv.names.name _ (List.getElem_mem hj)) h
 have hn:=hv.names.nodup
 have e1:(v.cls.map (·.name))[i]'(by simpa using hi)=(v.cls.map (·.name))[j]'(by simpa using hj):=by simpa using this
 exact (List.getElem_inj hn).1 e1
theorem Ar (hv:KAll s t v){i:Nat} (hi:i<v.cls.length):(cj v t i).name≠⟨#[]⟩:=by
 rw [(gQ hi).1]
 have:=Dq hv.names.wf (hv.names.name _ (List.getElem_mem hi))
 intro e
 rw [e] at this
 exact absurd this.1 (by decide)
theorem zW (hv:KAll s t v){a:Option Addr}{l c:Nat}{G:ay} (hL:dv 4 fg H a l c (eq v t) G){i:Nat} (hi:i<v.cls.length)
  (h:Q (.int .i64 (match upIdx v i with | some j=>(j:Int) | none=>-1)) H):ah PP xJ #[.slice a l c,.int .i64 i,.string (cj v t i).sup] Q H:=by
 have hm1:=hv.ks.shape.many1
 have hsup:(cj v t i).sup=match upIdx v i with
  | some j=>match v.cls[j]? with
   | some d=>tx t d.name
   | none=>⟨#[]⟩
  | none=>⟨#[]⟩:=by unfold cj;rw [List.getElem?_eq_getElem hi] <;> rfl
 rcases hv.ks.upI hi with ⟨_,e0,e1⟩ | ⟨j,hj,hlt,e0,_,e1⟩
 ·rw [e1] at hsup h
  simp only at hsup h
  refine Lf hL (Nat.le_of_lt hi) hm1 (fun k hk he _=>?_) fun _=>h
  rw [hsup] at he
  exact absurd he (Ar hv (by omega))
 ·rw [e1] at hsup h
  simp only [List.getElem?_eq_getElem hj] at hsup h
  have hsj:(cj v t i).sup=(cj v t j).name:=by rw [hsup,(gQ hj).1]
  refine Lf hL (Nat.le_of_lt hi) hm1 (fun k hk he _=>?_) fun hno=>?_
  ·rw [hsj] at he
   have:=zA hv (by omega) hj he
   subst this;exact h
  ·exact absurd hsj.symm (hno j hlt)
theorem tR (hv:KAll s t v){a:Option Addr}{l c:Nat}{G:ay} (hL:dv 4 fg H a l c (eq v t) G){i:Nat} (hi:i<v.cls.length)
  (h:∀ a l c G H',bv 1 H' a l c (aO ((bQ v i).map (tx t))) G->Fr [] H H'->(∀ x∈G,H.size<=x)->Q (.slice a l c) H'):ah PP Ep #[.slice a l c,.int .i64 i,.int .i64 (-1),.slice none 0 0] Q H:=by
 have hs1:aF PP 37=some (1,16,some (.string (⟨#[]⟩:ByteArray))):=by kernel_rfl
 have hs2:aF PP 80=some (1,24,some (.slice none 0 0)):=by kernel_rfl
 have hm1:=hv.ks.shape.many1
 have hfl:=iW hv.ks i hi
 have hl:l=v.cls.length:=by have:=hL.len;simpa [eq] using this
 apply Ao
 unfold Mg A0 iV wW sV lV cS
 refine ⟨fun w H'=>∃(cx:Int) (a8:Option Addr) (l8 c8:Nat) (G8:ay) (pl:List (Value × List ByteArray)),w=[.int .i64 cx,.slice a8 l8 c8]∧bv 1 H' a8 l8 c8 (pl.map (·.1)) G8∧Fr [] H H'∧(∀ x∈G8,H.size<=x)∧(∀ p∈pl,yr H p)∧pl.length+(cx+1).toNat<=i+1 ∧
   ((cx=-1∧(bQ v i).map (tx t)=fB pl 0)∨∃ j,∃ _:j<v.cls.length,cx=(j:Int)∧(bQ v i).map (tx t)=(bQ v j).map (tx t)++fB pl 0),fun w _=>match w with
  | [.int _ cx,_]=>(cx+1).toNat
  | _=>0,⟨i,none,0,0,[],[],rfl,bv.nil 1 H,Fr.refl _ _,by simp,by simp,by first | (simp;done) | (simp;omega),.inr ⟨i,hi,rfl,by simp [fB]⟩⟩,?_⟩
 rintro w H1 ⟨cx,a8,l8,c8,G8,pl,rfl,ho8,hf8,hG8,hpl,hlen8,hcase⟩ _
 have hl8:l8=pl.length:=by have:=ho8.len;simpa using this.symm
 refine ⟨_,_,_,_,rfl,?_⟩
 rw [ae]
 refine aA (fun hge=>?_) fun hge=>?_
 ·
  rcases hcase with ⟨e,_⟩ | ⟨j,hj,rfl,heq⟩
  ·omega
  rw [bj,ae,if_neg (by omega)]
  obtain ⟨p,a2,l2,c2,G2,rfl,hspot,_,_,cc2,ho2,_⟩:=kE (hL.fr fg.fr fg.lt hf8 (bi.nil_right _)) hj
  obtain ⟨p',a2',l2',c2',G2',hp',_,_,_,cc2',ho2',_⟩:=kE hL hj
  cases hp'
  refine ⟨⟨by omega,by omega⟩,_,rfl,_,_,_,by rw [Int.toNat_natCast];exact cc2,?_⟩
  refine bg hs2 rfl (by kernel_rfl) ho8 rfl (by simp [cC]) (by omega) (by decide) (by decide) fun a' c' G3 H3 g1 g2 g3=>⟨_,_,_,rfl,⟨by omega,by omega⟩,_,rfl,?_⟩
  have hfr:=Up.fresh hf8 g2 hG8
  have hL3:=hL.fr fg.fr fg.lt hfr.1 (bi.nil_right _)
  obtain ⟨p',a3,l3,c3,G4,hp',_,_,cc1,_⟩:=kE hL3 hj
  cases hp'
  refine ⟨_,by rw [Int.toNat_natCast];exact cc1,zW hv hL3 hj ⟨_,rfl,?_⟩⟩
  have hj':(v.cls[j]).own.map (tx t)=(cj v t j).own:=(gQ hj).2.symm
  have hsl:Value.slice a2 l2 c2=.slice a2' l2' c2':=by
   have e2:ac H1 ((p.add (j*4)).add 2)=ac H ((p.add (j*4)).add 2):=by
    obtain ⟨pb,po,ps⟩:=p
    simp only at hspot
    subst hspot
    rw [ao,ao] at cc2' ⊢
    exact bz hf8 (by simp) (bN cc2')
   rw [cc2,cc2'] at e2
   exact Option.some.inj e2
  have hpart:yr H (.slice a2 l2 c2,(cj v t j).own):=⟨a2',l2',c2',hsl,ho2'.rd⟩
  rcases hv.ks.upI hj with ⟨h0,_,e1⟩ | ⟨k,hk,hlt,_,_,e1⟩
  ·rw [e1]
   simp only
   refine ⟨⟨-1,a',l8+1,c',G3,pl++[(.slice a2 l2 c2,(cj v t j).own)],rfl,by simpa using g1,hfr.1,hfr.2,fun q hq=>?_,by first | (simp;done) | (simp;omega),.inl ⟨rfl,?_⟩⟩,by first | (simp;done) | (simp;omega)⟩
   ·rcases List.mem_append.1 hq with hq | hq
    ·exact hpl q hq
    ·simp only [List.mem_singleton] at hq;rw [hq];exact hpart
   ·subst h0
    rw [nQ,heq,hv.ks.fields0 hj,hj']
  ·rw [e1]
   simp only
   refine ⟨⟨k,a',l8+1,c',G3,pl++[(.slice a2 l2 c2,(cj v t j).own)],rfl,by simpa using g1,hfr.1,hfr.2,fun q hq=>?_,by first | (simp;done) | (simp;omega),.inr ⟨k,hk,rfl,?_⟩⟩,by first | (simp;done) | (simp;omega)⟩
   ·rcases List.mem_append.1 hq with hq | hq
    ·exact hpl q hq
    ·simp only [List.mem_singleton] at hq;rw [hq];exact hpart
   ·rw [nQ,heq,hv.ks.fieldsS hj hlt e1,List.map_append,hj',List.append_assoc]
 ·
  have heq:(bQ v i).map (tx t)=fB pl 0:=by
   rcases hcase with ⟨_,e⟩ | ⟨j,_,e,_⟩
   ·exact e
   ·omega
  have htot:(fB pl 0).length<=3000000:=by rw [←heq,List.length_map];omega
  have hpn:pl.length<=1000:=by omega
  have e0:IntKind.wrap .i64 ((l8:Int)-1)=(pl.length:Int)-1:=by rw [am (by omega) (by omega)];omega
  refine ⟨fun w H'=>∃(n:Nat) (a3:Option Addr) (l3 c3:Nat) (G3:ay),w=[.slice a3 l3 c3,.int .i64 ((n:Int)-1)]∧n<=pl.length∧bv 1 H' a3 l3 c3 (aO (fB pl n)) G3∧Fr [] H1 H'∧(∀ x∈G3,H1.size<=x),fun w _=>match w with
   | [_,.int _ n]=>(n+1).toNat
   | _=>0,⟨pl.length,none,0,0,[],by rw [e0],Nat.le_refl _,by rw [vX];exact bv.nil 1 H1,Fr.refl _ _,by simp⟩,?_⟩
  rintro w H6 ⟨n,a3,l3,c3,G3,rfl,hn,ho3,hf3,hG3⟩ _
  refine ⟨_,_,_,_,rfl,?_⟩
  rw [ae]
  refine aA (fun hge2=>?_) fun hge2=>?_
  ·have hnp:n-1<pl.length:=by omega
   have en:(n:Int)-1=((n-1:Nat):Int):=by omega
   have hp:=hpl _ (List.getElem_mem hnp)
   obtain ⟨ap,lp,cp,ep,hrp⟩:=hp
   obtain ⟨r,er,_⟩:=wo (pl:=pl) (pl.length-(n-1)) (n-1) (by omega)
   have es:=nJ hnp
   rw [show n-1+1=n by omega] at es
   have hlp:lp=(pl[n-1]).2.length:=by have:=hrp.1;simpa [aO] using this.symm
   have hle:(fB pl n).length+(pl[n-1]).2.length<=3000000:=by
    rw [er,es] at htot
    simp only [List.length_append] at htot
    omega
   have hcellP:∀ {H':aj},Fr [] H1 H'->∃ q,a8=some q∧ac H' (q.add ((n-1)*1))=some (.slice ap lp cp):=by
    intro H' hf'
    have hr8:=(ho8.fr hf' (by simp)).rd
    cases ha:a8 with
    | none =>
     have:=hr8.2.1 ha
     omega
    | some q =>
     refine ⟨q,rfl,?_⟩
     rw [hr8.2.2 q ha ((n-1)*1) (by omega)]
     rw [Nat.mul_one,List.getElem?_map,List.getElem?_eq_getElem hnp,←ep]
     rfl
   refine ⟨fun w H'=>∃(k:Nat) (a4:Option Addr) (l4 c4:Nat) (G4:ay),w=[.slice a4 l4 c4,.int .i64 k]∧k<=(pl[n-1]).2.length∧bv 1 H' a4 l4 c4 (aO (fB pl n++(pl[n-1]).2.take k)) G4∧Fr [] H1 H'∧(∀ x∈G4,H1.size<=x),fun w _=>match w with
    | [_,.int _ k]=>((pl[n-1]).2.length-k).toNat
    | _=>0,⟨0,a3,l3,c3,G3,rfl,Nat.zero_le _,by simpa using ho3,hf3,hG3⟩,?_⟩
   rintro w H7 ⟨k,a4,l4,c4,G4,rfl,hk,ho4,hf4,hG4⟩ _
   have hl4:l4=(fB pl n).length+k:=by
    have:=ho4.len
    simp only [aO,List.length_map,List.length_append,List.length_take] at this
    omega
   obtain ⟨q,hq,hcq⟩:=hcellP hf4
   subst hq
   rw [en]
   refine ⟨_,_,_,_,rfl,⟨by omega,by omega⟩,_,rfl,_,_,_,by rw [Int.toNat_natCast];exact hcq,?_⟩
   rw [ae]
   refine aA (fun hlt=>?_) fun hlt=>?_
   ·obtain ⟨pp,hlt2,rfl,hcell⟩:=(hrp.fr' (hf8.trans hf4) (by simp)).str (i:=(k:Int)) (by omega) hlt
    simp only [Int.toNat_natCast] at hcell hlt2
    have e1:IntKind.wrap .i64 ((k:Int)+1)=((k+1:Nat):Int):=by rw [am (by omega) (by omega)];omega
    refine ⟨⟨by omega,by omega⟩,_,rfl,_,_,_,by rw [Int.toNat_natCast];exact hcq,⟨by omega,hlt⟩,_,rfl,_,by rw [Int.toNat_natCast,Nat.mul_one];exact hcell,?_⟩
    refine bg hs1 rfl (by kernel_rfl) ho4 rfl (by simp [cC]) (by omega) (by decide) (by decide) fun a' c' G5 H8 g1 g2 g3=>⟨_,_,_,rfl,?_⟩
    have hfr:=Up.fresh hf4 g2 hG4
    rw [e1]
    refine ⟨⟨k+1,a',l4+1,c',G5,rfl,by omega,?_,hfr.1,hfr.2⟩,by first | (simp;done) | (simp;omega)⟩
    rw [List.take_add_one,List.getElem?_eq_getElem hlt2,←List.append_assoc,ce]
    exact g1
   ·have hkl:k=(pl[n-1]).2.length:=by omega
    rw [hkl,List.take_length,←es] at ho4
    have e1:IntKind.wrap .i64 (((n-1:Nat):Int)-1)=((n-1:Nat):Int)-1:=am (by omega) (by omega)
    rw [e1]
    exact ⟨⟨n-1,a4,l4,c4,G4,rfl,by omega,ho4,hf4,hG4⟩,by first | (simp;done) | (simp;omega)⟩
  ·have:n=0:=by omega
   subst this
   rw [←heq] at ho3
   exact h _ _ _ G3 H6 ho3 (hf8.trans hf3) fun x hx=>Nat.le_trans hf8.1 (hG3 x hx)
end
section
variable {H:aj}{b:Nat}{F:ay}{s:SP}{t:TB}{v:KV}{Q:QT}
theorem zw (hK:RK H b F s t) (hv:KAll s t v){o:Int} (h1:∀ i,dZ v o=some i->∀ a l c G H',bv 1 H' a l c (aO ((bQ v i).map (tx t))) G->Fr [] H H'->(∀ x∈G,H.size<=x)->Q (.tuple #[.slice a l c,.int .i64 0]) H')
  (h2:dZ v o=none->∀ H',Fr [] H H'->Q (.tuple #[.slice none 0 0,.int .i64 130]) H'):ah PP GJ #[.pointer (some ⟨b,0,none⟩),.int .i64 o] Q H:=by
 have hm1:=hv.ks.shape.many1
 apply BX
 unfold NW iV wW pV lV cS
 refine m7 hK hv.ks fun H1 hf1=>⟨_,rfl,?_⟩
 unfold ip
 cases hp:dZ v o with
 | none=>exact h2 hp H1 hf1
 | some i =>
  obtain ⟨hi,rfl⟩:=cd hp
  rw [bj,ae,if_neg (by simp only;omega)]
  refine Dv (hK.nil hf1) hv fun a l c G H2 hL hf2 hG=>⟨_,_,_,rfl,?_⟩
  have e:IntKind.wrap .i64 ((i:Int)+1-1)=(i:Int):=by rw [am (by omega) (by omega)];omega
  simp only [e]
  exact tR hv hL hi fun a2 l2 c2 G2 H3 ho hf3 hG2=>⟨_,_,_,rfl,h1 i hp a2 l2 c2 G2 H3 ho ((hf1.trans hf2).trans hf3) fun x hx=>Nat.le_trans (hf1.trans hf2).1 (hG2 x hx)⟩
end
section
variable {H:aj}{b:Nat}{F:ay}{s:SP}{t:TB}{v:KV}{Q:QT}
theorem P3 {a a4:Option Addr}{l l4:Nat}{xs own:List ByteArray}{x:ByteArray}{n k:Nat} (hk:Rd 1 H a l (aO xs)) (h4:Rd 1 H a4 l4 (aO own)) (hn:own[n]?=some x) (hkl:k<=l) (hlk:l<=1000000000000000) (hl4:l4=own.length)
  {bad good:aj->Prop} (hbad:x∈xs.take k->bad H) (hgood:x∉xs.take k->good H) :
  ∃(I:List Value->aj->Prop) (μ:List Value->aj->Nat),I [.int .i64 0] H∧∀ w H1,I w H1->∀ _g:Nat->Value,∃ m:Int,w=[.int .i64 m]∧cond (decide (m<(k:Int))) (((0:Int)<=m∧m<(l:Int))∧∃ q,a=some q∧∃ s:ByteArray,ac H1 (q.add (Int.toNat m*1))=some (.string s)∧((0:Int)<=(n:Int)∧(n:Int)<(l4:Int))∧∃ q4,a4=some q4∧∃ s4:ByteArray,ac H1 (q4.add (Int.toNat (n:Int)*1))=some (.string s4)∧cond (cQ s s4) (bad H1) (I [.int .i64 (IntKind.wrap .i64 (m+1))] H1∧μ [.int .i64 (IntKind.wrap .i64 (m+1))] H1<μ w H1)) (good H1):=by
 have hl:l=xs.length:=by have:=hk.1;simpa [aO] using this.symm
 have hnl:n<own.length:=by
  rcases Nat.lt_or_ge n own.length with h1 | h1
  ·exact h1
  ·rw [List.getElem?_eq_none h1] at hn;cases hn
 refine ⟨fun w H'=>H'=H∧∃ i:Nat,w=[.int .i64 i]∧i<=k∧∀ j (hj:j<xs.length),j<i->xs[j]≠x,fun w _=>match w with
  | [.int _ i]=>(k-i).toNat
  | _=>0,⟨rfl,0,rfl,Nat.zero_le _,fun j _ hj=>by omega⟩,?_⟩
 rintro w H1 ⟨rfl,i,rfl,hi,hall⟩ _
 refine ⟨_,rfl,?_⟩
 rw [ae]
 refine aA (fun hlt=>?_) fun hlt=>?_
 ·obtain ⟨p,hlt2,rfl,hcell⟩:=hk.str (i:=(i:Int)) (by omega) (by omega)
  simp only [Int.toNat_natCast] at hcell hlt2
  obtain ⟨p4,hlt4,rfl,hcell4⟩:=h4.str (i:=(n:Int)) (by omega) (by omega)
  simp only [Int.toNat_natCast] at hcell4 hlt4
  have ex:own[n]=x:=by rw [List.getElem?_eq_getElem hnl] at hn;exact Option.some.inj hn
  rw [ex] at hcell4
  have e:IntKind.wrap .i64 ((i:Int)+1)=((i+1:Nat):Int):=by rw [am (by omega) (by omega)];omega
  refine ⟨⟨by omega,by omega⟩,_,rfl,_,by rw [Int.toNat_natCast,Nat.mul_one];exact hcell,⟨by omega,by omega⟩,_,rfl,_,by rw [Int.toNat_natCast,Nat.mul_one];exact hcell4,?_⟩
  rw [cL,ae]
  refine aA (fun he=>hbad ?_) fun he=>?_
  ·rw [←he]
   exact List.mem_take_iff_getElem.2 ⟨i,by omega,rfl⟩
  ·rw [e]
   refine ⟨⟨rfl,i+1,rfl,by omega,fun j hj hji=>?_⟩,by simp;omega⟩
   rcases Nat.lt_or_ge j i with h5 | h5
   ·exact hall j hj h5
   ·have:j=i:=by omega
    subst this;exact he
 ·refine hgood fun hm=>?_
  obtain ⟨j,hj,he⟩:=List.mem_take_iff_getElem.1 hm
  exact hall j (by omega) (by omega) he
theorem xm (hK:RK H b F s t) (hv:KAll s t v){name sup:ByteArray}{a:Option Addr}{l c:Nat}{own:List ByteArray} (hk:Rd 1 H a l (aO own)) (hlk:l<=1000000000000000)
  (h:∀ H',Fr [] H H'->Q (.tuple #[.int .i64 (i9 v t name sup own).1,.int .i64 (i9 v t name sup own).2]) H'):ah PP FK #[.pointer (some ⟨b,0,none⟩),.string name,.string sup,.slice a l c] Q H:=by
 have hm1:=hv.ks.shape.many1
 have hl:l=own.length:=by have:=hk.1;simpa [aO] using this.symm
 apply Bn
 unfold LV iV wW pV sV lV cS
 unfold i9 at h
 refine mH ⟨_,rfl,?_⟩
 rw [←decide_not,ae]
 refine aA (fun h1=>?_) fun h1=>?_
 ·rw [if_pos h1] at h;exact h H (Fr.refl _ _)
 rw [if_neg h1] at h
 refine vN hK hv fun H2 hf2=>⟨_,rfl,?_⟩
 rw [ae]
 refine aA (fun h2=>?_) fun h2=>?_
 ·rw [if_pos h2] at h;exact h H2 hf2
 rw [if_neg h2] at h
 refine xF (hK.nil hf2) hv fun H3 hf3=>⟨_,_,rfl,?_⟩
 have hF3:=hf2.trans hf3
 rw [bf,ae]
 refine aA (fun h3=>?_) fun h3=>?_
 ·rw [if_pos h3] at h
  have e130:(dP v t sup).2=130:=by
   rcases d8 v t sup with ⟨e,_⟩ | ⟨j,hj,e,_⟩
   ·rw [e]
   ·rw [e] at h3;simp at h3
  rw [e130] at h;exact h H3 hF3
 rw [if_neg h3] at h
 rcases d8 v t sup with ⟨e,_⟩ | ⟨j,hj,e,_⟩
 ·rw [e] at h3;simp at h3
 have hfl:=iW hv.ks j hj
 rw [e] at h ⊢
 have hpl:=hv.ks.idx hj
 simp only [hpl] at h
 refine m7 (hK.nil hF3) hv.ks fun H4 hf4=>⟨_,rfl,?_⟩
 have hF4:=hF3.trans hf4
 have epn:ip v (v.cls[j]).oop=(j:Int)+1:=by unfold ip;rw [hpl]
 rw [epn]
 refine ⟨fun w H'=>w=[]∧H'=H4∧¬ (1<=j∧j<14),?_,?_⟩
 ·rw [ae]
  refine aA (fun h4=>?_) fun h4=>⟨rfl,rfl,by omega⟩
  rw [ae]
  refine aA (fun h5=>?_) fun h5=>⟨rfl,rfl,by omega⟩
  rw [if_pos (by omega)] at h
  exact h H4 hF4
 rintro w H5 ⟨rfl,rfl,h4⟩ _
 rw [if_neg h4] at h
 refine ⟨rfl,zw (hK.nil hF4) hv (fun j' hp' a6 l6 c6 G H6 ho6 hf6 hG=>?_) fun hp'=>by rw [hpl] at hp';cases hp'⟩
 rw [hpl] at hp'
 cases hp'
 refine ⟨_,_,_,_,rfl,?_⟩
 have hF6:=hF4.trans hf6
 have hl6:l6=(bQ v j).length:=by have:=ho6.len;simpa [aO] using this.symm
 have hk6:Rd 1 H6 a l (aO own):=hk.fr' hF6 (by simp)
 refine ⟨fun w H'=>H'=H6∧∃ i:Nat,w=[.int .i64 i]∧i<=l∧mN ((bQ v j).map (tx t)) (own.take i) (own.drop i)=mN ((bQ v j).map (tx t)) [] own,fun w _=>match w with
  | [.int _ i]=>(l-i).toNat
  | _=>0,⟨rfl,0,rfl,Nat.zero_le _,by simp⟩,?_⟩
 rintro w H7 ⟨rfl,i,rfl,hi,hown⟩ _
 refine ⟨_,rfl,?_⟩
 rw [ae]
 refine aA (fun hlt=>?_) fun hlt=>?_
 ·have hlt':i<own.length:=by omega
  obtain ⟨p,hlt2,rfl,hcell⟩:=hk6.str (i:=(i:Int)) (by omega) hlt
  simp only [Int.toNat_natCast] at hcell hlt2
  have e1:IntKind.wrap .i64 ((i:Int)+1)=((i+1:Nat):Int):=by rw [am (by omega) (by omega)];omega
  have ed:own.drop i=own[i] :: own.drop (i+1):=List.drop_eq_getElem_cons hlt'
  have et:own.take (i+1)=own.take i++[own[i]]:=by rw [List.take_add_one];simp [hlt']
  have eg:own[i]?=some own[i]:=List.getElem?_eq_getElem hlt'
  rw [ed,mN] at hown
  refine ⟨⟨by omega,hlt⟩,_,rfl,_,by rw [Int.toNat_natCast,Nat.mul_one];exact hcell,tr ⟨_,rfl,?_⟩⟩
  rw [←decide_not,ae]
  refine aA (fun h5=>?_) fun h5=>?_
  ·rw [if_pos h5] at hown
   rw [if_pos (by rw [←hown];decide),←hown] at h
   exact h _ hF6
  rw [if_neg h5] at hown
  refine P3 (xs:=own) hk6 hk6 eg hi hlk hl (fun hin=>?_) fun hnin=>?_
  ·rw [if_pos hin] at hown
   rw [if_pos (by rw [←hown];decide),←hown] at h
   exact h _ hF6
  rw [if_neg hnin] at hown
  refine P3 (xs:=(bQ v j).map (tx t)) ho6.rd hk6 eg (Nat.le_refl _) (by omega) hl (fun hin=>?_) fun hnin2=>?_
  ·rw [List.take_of_length_le (by simp;omega)] at hin
   rw [if_pos hin] at hown
   rw [if_pos (by rw [←hown];decide),←hown] at h
   exact h _ hF6
  rw [List.take_of_length_le (by simp;omega)] at hnin2
  rw [if_neg hnin2] at hown
  rw [e1]
  exact ⟨⟨rfl,i+1,rfl,by omega,by rw [et];exact hown⟩,by simp;omega⟩
 ·have hil:i=own.length:=by omega
  rw [hil,List.drop_length] at hown
  have h0:mN ((bQ v j).map (tx t)) [] own=0:=by rw [←hown];rfl
  rw [if_neg (by rw [h0];decide)] at h
  have ew:IntKind.wrap .i64 ((l6:Int)+(l:Int))=(l6:Int)+l:=am (by omega) (by omega)
  rw [ew,ae]
  refine aA (fun h5=>?_) fun h5=>?_
  ·rw [if_pos (by omega)] at h;exact h _ hF6
  rw [if_neg (by omega)] at h
  refine pN (hK.nil hF6) hv.ks fun a8 l8 c8 G8 H8 ho8 hf8 hG8=>⟨_,_,_,rfl,?_⟩
  have hl8:l8=v.cls.length:=by have:=ho8.len;simpa [aq,gh] using this.symm
  rw [ae]
  refine aA (fun h6=>?_) fun h6=>?_
  ·rw [if_pos (by omega)] at h;exact h H8 (hF6.trans hf8)
  rw [if_neg (by omega)] at h
  exact h H8 (hF6.trans hf8)
theorem uP (hK:RK H b F s t) (h:∀ H' nb,RK H' b F s t->bA H' nb #[.int .i64 (t.texts.length:Int),.int .i64 s.h.mark,.int .i64 (s.stack.length:Int)]->nb∉F->Fr [] H H'->H.size<=nb->Q (.pointer (some ⟨nb,0,none⟩)) H'):ah PP HI #[.pointer (some ⟨b,0,none⟩)] Q H:=by
 apply CA
 unfold Pu A0 iV pV lV cS
 obtain ⟨tb,F2,hc2,hT,_⟩:=hK.tb
 obtain ⟨sb,hb,F1,hc,c0,hR,_⟩:=hK.hp
 obtain ⟨sb',F3,hc',hS,_⟩:=hK.sp
 have esb:sb'=sb:=by rw [hc] at hc';simpa using hc'.symm
 subst esb
 obtain ⟨_,a,l,c,_,F4,_,_,_,_,_,_,_,_,hB,_,hO,_⟩:=hS
 have hcS:ac H ⟨sb',2,none⟩=some (.slice a l c):=hB.cell 2
 have hl:l=s.stack.length:=by have:=hO.len;simpa [aq] using this.symm
 subst hl
 refine ⟨_,rfl,_,hc2,_,rfl,_,hc,_,rfl,_,c0,_,rfl,_,hc,_,rfl,_,_,_,by rw [ao];exact hcS,sG hT ⟨_,rfl,⟨⟨by rw [ao];exact hcS,trivial⟩,⟨hc,trivial⟩,⟨c0,trivial⟩,⟨hc,trivial⟩,trivial⟩,qH hR ⟨_,rfl,⟨⟨by rw [ao];exact hcS,trivial⟩,⟨hc,trivial⟩,trivial⟩,trivial,?_⟩⟩⟩
 have hf2:=Fr.push [] H (.cells #[.int .i64 (t.texts.length:Int),.int .i64 s.h.mark,.int .i64 (s.stack.length:Int)] 257)
 exact h _ H.size (hK.nil hf2) (bA.new _ _ _) (fun hm=>absurd (hK.lt _ hm) (Nat.lt_irrefl _)) hf2 (Nat.le_refl _)
end
section
variable {H:aj}{b:Nat}{F:ay}{s:SP}{t:TB}{v:KV}{Q:QT}
theorem D3 (hK:RK H b F s t){nb:Nat}{cnt mk kp:Int} (hN:bA H nb #[.int .i64 cnt,.int .i64 mk,.int .i64 kp]) (hnb:nb∉F) (hkp:0<=kp∧kp<=1000000){e:Int} (h:∀ H' F',RK H' b F' (lA s t mk cnt kp e).1 (lA s t mk cnt kp e).2->Up F H F' H'->Q (.int .i64 e) H') :
  ah PP xH #[.pointer (some ⟨b,0,none⟩),.pointer (some ⟨nb,0,none⟩),.int .i64 e] Q H:=by
 have hmany:=hK.wfs.many
 apply Ax
 unfold P5 iV wW pV lV cS
 unfold lA at h
 obtain ⟨sb,F1,hc,hS,hsub,_,hup⟩:=hK.sp
 have hS':=hS
 obtain ⟨_,a,l,c,_,F4,_,_,_,_,_,_,_,_,hB,_,hO,_⟩:=hS'
 have hcS:ac H ⟨sb,2,none⟩=some (.slice a l c):=hB.cell 2
 have hl:l=s.stack.length:=by have:=hO.len;simpa [aq] using this.symm
 subst hl
 have ew:IntKind.wrap .i64 ((s.stack.length:Int)-kp)=(s.stack.length:Int)-kp:=am (by omega) (by omega)
 refine ⟨_,rfl,_,hc,_,rfl,_,hc,_,rfl,_,_,_,by rw [ao];exact hcS,_,rfl,_,hN.cell 2,?_⟩
 rw [ew]
 refine sW hS fun H2 F2 hS2 hu2=>⟨_,rfl,trivial,?_⟩
 obtain ⟨F',hK2,hu2'⟩:=hup H2 F2 _ hS2 hu2
 rw [bj,ae]
 refine aA (fun h1=>?_) fun h1=>?_
 ·rw [if_pos h1] at h
  have:=h H2 F' hK2 hu2'
  rw [h1] at this;exact this
 rw [if_neg h1] at h
 have hN2:=hN.fr hu2'.1 hnb
 have hnb2:=Up.out hu2' hnb hN.lt
 obtain ⟨tb,F3,hc3,hT,hsub3,_,hup3⟩:=hK2.tb
 refine ⟨_,rfl,_,hc3,_,rfl,_,hN2.cell 0,Cm hT fun H3 F4 hT3 hu3=>⟨_,rfl,trivial,?_⟩⟩
 obtain ⟨F5,hK3,hu3'⟩:=hup3 H3 F4 _ hT3 hu3
 have hN3:=hN2.fr hu3'.1 hnb2
 have hu23:=hu2'.trans hu3'
 have ed:(s.drop ((s.stack.length:Int)-kp)).2.h=s.h:=by unfold SP.drop;split <;> rfl
 rw [bf,ae]
 refine aA (fun h2=>?_) fun h2=>?_
 ·rw [if_neg h2] at h
  obtain ⟨sb4,hb4,F6,hc4,c04,hR4,hsub4,_,hup4⟩:=hK3.hp
  refine ⟨_,rfl,_,hc4,_,rfl,_,c04,_,rfl,_,hN3.cell 1,ss hR4 fun H5 hR5 hf5=>⟨_,rfl,trivial,?_⟩⟩
  obtain ⟨F7,hK5,hu5⟩:=hup4 H5 F6 _ hR5 ⟨hf5,fun _ h=>.inl h⟩
  simp only [ed] at hK5
  exact h H5 F7 hK5 (hu23.trans hu5)
 ·have h24:e=24:=Classical.byContradiction h2
  rw [if_pos h24] at h
  refine h H3 F5 ?_ hu23
  generalize (s.drop ((s.stack.length:Int)-kp)).2=s' at *
  cases s'
  simp only at ed
  subst ed
  exact hK3
theorem lY (hK:RK H b F s t){a:Option Addr}{l c:Nat}{own:List ByteArray} (hr:Rd 1 H a l (aO own)) (hout:fQ H a l F) (hlk:l<=100000000)
  (h:∀ H' F' a' l' c' G,RK H' b F' s (t.addAll [] own).2->Up F H F' H'->bv 1 H' a' l' c' (aq (t.addAll [] own).1.1) G->(∀ x∈G,H.size<=x∧x∉F')->Q (.tuple #[.slice a' l' c',.int .i64 (t.addAll [] own).1.2]) H') :
  ah PP KK #[.pointer (some ⟨b,0,none⟩),.slice a l c] Q H:=by
 have hs1:aF PP 108=some (1,8,some (.int .i64 0)):=by kernel_rfl
 have hl:l=own.length:=by have:=hr.1;simpa [aO] using this.symm
 apply zZ
 unfold PF A0 iV wW pV sV lV cS
 refine ⟨fun w H'=>∃(i:Nat) (t':TB) (acc:List Int) (a':Option Addr) (l' c':Nat) (G F':ay),w=[.slice a' l' c',.int .i64 i]∧i<=own.length∧RK H' b F' s t'∧Up F H F' H'∧t'.addAll acc (own.drop i)=t.addAll [] own∧bv 1 H' a' l' c' (aq acc) G∧(∀ x∈G,H.size<=x∧x∉F')∧acc.length=i,fun w _=>match w with
  | [_,.int _ i]=>(own.length-i).toNat
  | _=>0,⟨0,t,[],none,0,0,[],F,rfl,Nat.zero_le _,hK,Up.refl _ _,rfl,by simpa [aq] using bv.nil 1 H,by simp,rfl⟩,?_⟩
 rintro w H2 ⟨i,t2,acc,a2,l2,c2,G,F2,rfl,hi,hK2,hu2,hadd,ho,hG,hacc⟩ _
 have hl2:l2=i:=by have:=ho.len;simp only [aq,List.length_map] at this;omega
 refine ⟨_,_,_,_,rfl,?_⟩
 rw [ae]
 refine aA (fun hlt=>?_) fun hlt=>?_
 ·obtain ⟨p,hlt2,rfl,hcell⟩:=(hout.rd hu2 hr).str (i:=(i:Int)) (by omega) hlt
  simp only [Int.toNat_natCast] at hcell hlt2
  have e1:IntKind.wrap .i64 ((i:Int)+1)=((i+1:Nat):Int):=by rw [am (by omega) (by omega)];omega
  have ed:own.drop i=own[i] :: own.drop (i+1):=List.drop_eq_getElem_cons hlt2
  rw [ed,TB.addAll] at hadd
  obtain ⟨tb,F3,hc3,hT,hsub3,_,hup3⟩:=hK2.tb
  refine ⟨_,rfl,_,hc3,⟨by omega,hlt⟩,_,rfl,_,by rw [Int.toNat_natCast,Nat.mul_one];exact hcell,tP hT fun H3 F4 hT3 hu3=>⟨_,_,rfl,trivial,?_⟩⟩
  obtain ⟨F5,hK3,hu3'⟩:=hup3 H3 F4 _ hT3 hu3
  rw [bf,ae]
  refine aA (fun h3=>?_) fun h3=>?_
  ·rw [if_pos h3] at hadd
   rw [←hadd] at h
   exact h H3 F5 none 0 0 [] hK3 (hu2.trans hu3') (bv.nil 1 _) (by simp)
  rw [if_neg h3] at hadd
  have hz3:(t2.add own[i]).1.2=0:=Classical.byContradiction h3
  obtain ⟨n,en,en2,_⟩:=gU own[i] hz3
  have hw3:=hK3.wft
  have h5:=(cA en2).2
  have h6:=hw3.m1
  have h7:=hw3.len
  rw [en] at hadd ⊢
  refine tH ⟨by omega,by omega⟩ ⟨_,rfl,?_⟩
  have hoG:∀ x∈G,x<H2.size:=ho.lt
  have ho3:bv 1 H3 a2 l2 c2 (aq acc) G:=ho.fr hu3'.1 fun x hx=>(hG x hx).2
  refine bg hs1 rfl (by kernel_rfl) ho3 rfl (by simp [cC]) (by omega) (by decide) (by decide) fun a' c' G2 H4 g1 g2 g3=>⟨_,_,_,rfl,?_⟩
  rw [e1]
  have hG3:∀ x∈G,H.size<=x∧x∉F5:=fun x hx=>⟨(hG x hx).1,Up.out hu3' (hG x hx).2 (hoG x hx)⟩
  have hF5lt:=hK3.lt
  have hK4:RK H4 b F5 s (t2.add own[i]).2:=hK3.fr g2.1 fun x hx hm=>(hG3 x hm).2 hx
  have hu4:Up F H F5 H4:=by
   have h12:=hu2.trans hu3'
   refine ⟨⟨Nat.le_trans h12.1.1 g2.1.1,fun x hx hn=>?_⟩,h12.2⟩
   rw [g2.1.2 x (Nat.lt_of_lt_of_le hx h12.1.1) (fun hm=>by have:=(hG3 x hm).1;omega),h12.1.2 x hx hn]
  refine ⟨⟨i+1,_,_,a',l2+1,c',G2,F5,rfl,by omega,hK4,hu4,hadd,?_,fun x hx=>?_,by simp [hacc]⟩,by simp;omega⟩
  ·rw [bt];exact g1
  ·rcases g2.2 x hx with h5 | h5
   ·exact hG3 x h5
   ·exact ⟨Nat.le_trans (hu2.trans hu3').1.1 h5,fun hm=>by have:=hF5lt x hm;omega⟩
 ·have hil:i=own.length:=by omega
  rw [hil,List.drop_length,TB.addAll] at hadd
  rw [←hadd] at h
  exact h H2 F2 a2 l2 c2 G hK2 hu2 ho hG
theorem tY (hK:RK H b F s t){o:Int}{a:Option Addr}{l c:Nat}{ws:List Int} (hk:Rd 1 H a l (aq ws)) (hout:mM H a F) (hlk:l<=1000000000)
  (h:∀ H' F',RK H' b F' { s with h:=s.h.lay o 0 ws } t->Up F H F' H'->(∀ o,ac H' ⟨b,o,none⟩=ac H ⟨b,o,none⟩)->Q (.tuple #[]) H'):ah PP yf #[.pointer (some ⟨b,0,none⟩),.int .i64 o,.slice a l c] Q H:=by
 have hl:l=ws.length:=by have:=hk.1;simpa [aq] using this.symm
 apply GP
 unfold QU iV wW pV cS
 refine ⟨fun w H'=>∃(i:Nat) (r:RH) (F':ay),w=[.int .i64 i]∧i<=ws.length∧RK H' b F' { s with h:=r } t∧Up F H F' H'∧(∀ o,ac H' ⟨b,o,none⟩=ac H ⟨b,o,none⟩)∧r.lay o i (ws.drop i)=s.h.lay o 0 ws,fun w _=>match w with
  | [.int _ i]=>(ws.length-i).toNat
  | _=>0,⟨0,s.h,F,rfl,Nat.zero_le _,hK,Up.refl _ _,fun _=>rfl,rfl⟩,?_⟩
 rintro w H4 ⟨i,r,F4,rfl,hi,hK4,hu4,hce,hlay⟩ _
 refine ⟨_,rfl,?_⟩
 rw [ae]
 refine aA (fun hlt=>?_) fun hlt=>?_
 ·obtain ⟨p,rfl,hcell,hlt2⟩:=(hout.rd hu4 hk).int (i:=(i:Int)) (by omega) hlt
  rw [Int.toNat_natCast] at hcell hlt2
  have hx:ws.getD i 0=ws[i]:=by simp [hlt2]
  rw [hx] at hcell
  have ed:ws.drop i=ws[i] :: ws.drop (i+1):=List.drop_eq_getElem_cons hlt2
  have e:IntKind.wrap .i64 ((i:Int)+1)=((i+1:Nat):Int):=by rw [am (by omega) (by omega)];omega
  obtain ⟨sb,hb,F1,hc,c0,hR,hsub,hbn,hup⟩:=hK4.hp
  have hbl:=hK4.lt b hK4.bmem
  refine ⟨_,rfl,_,hc,_,rfl,_,c0,⟨by omega,hlt⟩,_,rfl,_,by rw [Int.toNat_natCast,Nat.mul_one];exact hcell,ku hR fun H6 hR6 hf6=>⟨_,rfl,trivial,?_⟩⟩
  obtain ⟨F7,hK7,hu7⟩:=hup H6 F1 _ hR6 ⟨hf6,fun _ h=>.inl h⟩
  rw [e]
  refine ⟨⟨i+1,(r.put o i ws[i]).2,F7,rfl,by omega,hK7,hu4.trans hu7,fun o=>by rw [bz hf6 hbn hbl];exact hce o,?_⟩,by simp;omega⟩
  rw [←hlay,ed]
  rfl
 ·have hil:i=ws.length:=by omega
  subst hil
  rw [List.drop_length] at hlay
  simp only [RH.lay] at hlay
  rw [hlay] at hK4
  exact h H4 F4 hK4 hu4 hce
theorem NX (hK:RK H b F s t){o:Int}{a:Option Addr}{l c:Nat}{ws:List Int} (hk:Rd 1 H a l (aq ws)) (hout:mM H a F) (hlk:l<=1000000000)
  (h:∀ H' F',RK H' b F' { s with h:=s.h.lay o 0 ws } t->Up F H F' H'->Q (.tuple #[]) H'):ah PP yf #[.pointer (some ⟨b,0,none⟩),.int .i64 o,.slice a l c] Q H :=
 tY hK hk hout hlk fun H' F' h1 h2 _=>h H' F' h1 h2
theorem yF (hK:RK H b F s t){cls:Int} (hcls:1<=cls∧cls<=65536){a:Option Addr}{l c:Nat}{ws:List Int} (hk:Rd 1 H a l (aq ws)) (hout:mM H a F) (hlk:l<=1000000000) (hne:cls=11->ws≠[])
  (h:∀ H' F',RK H' b F' (s.make cls ws).2 t->Up F H F' H'->Q (.tuple #[.int .i64 (s.make cls ws).1.1,.int .i64 (s.make cls ws).1.2]) H'):ah PP yQ #[.pointer (some ⟨b,0,none⟩),.int .i64 cls,.slice a l c] Q H:=by
 have hl:l=ws.length:=by have:=hk.1;simpa [aq] using this.symm
 apply vH
 unfold KC A0 iV pV lV cS
 unfold SP.make at h
 refine ⟨fun w H'=>w=[]∧H'=H,?_,?_⟩
 ·rw [bj,ae]
  refine aA (fun h1=>?_) fun h1=>⟨rfl,rfl⟩
  rw [bj,ae]
  refine aA (fun h2=>?_) fun h2=>⟨rfl,rfl⟩
  exact absurd (List.eq_nil_of_length_eq_zero (by omega)) (hne h1)
 rintro w H2 ⟨rfl,rfl⟩ _
 obtain ⟨sb,F1,hc,hS,hsub,_,hup⟩:=hK.sp
 refine ⟨rfl,_,rfl,_,hc,bX ⟨by omega,by omega⟩ ⟨_,rfl,⟨⟨hc,trivial⟩,trivial⟩,?_⟩⟩
 rw [hl]
 refine qb hS fun H1 F3 hS1 hu1=>⟨_,_,rfl,trivial,?_⟩
 obtain ⟨F4,hK4,hu4⟩:=hup H1 F3 _ hS1 hu1
 rw [bf,ae]
 refine aA (fun h1=>?_) fun h1=>?_
 ·rw [if_pos h1] at h;exact h _ _ hK4 hu4
 rw [if_neg h1] at h
 have hz:(s.alloc (4*cls) ws.length 0).1.2=0:=Classical.byContradiction h1
 obtain ⟨o,e1,o1,o2,_⟩:=ir hK.wfs hz
 rw [e1] at h ⊢
 have e2:4*o / 4=o:=by omega
 rw [e2] at h
 generalize (s.alloc (4*cls) ws.length 0).2=s1 at *
 refine ch (cW (by omega) (by omega)) ⟨_,rfl,?_⟩
 rw [bZ o1,←hl]
 refine NX hK4 (hout.rd hu4 hk) (hout.up hu4) (by omega) fun H5 F5 hK5 hu5=>⟨rfl,?_⟩
 have fp:=Fr.push [] H5 (.cells #[.int .i64 (4*o)] 36)
 have hcx:∃ sb,ac H5 ⟨b,0,none⟩=some (.pointer (some ⟨sb,0,none⟩)):=by obtain ⟨sb,_,hc,_⟩:=hK5.sp;exact ⟨sb,hc⟩
 obtain ⟨sb5,hc5⟩:=hcx
 refine ⟨_,rfl,_,hc5,?_⟩
 have hK6:=hK5.nil fp
 obtain ⟨sb6,F6,hc6,hS6,hsub6,_,hup6⟩:=hK6.sp
 have esb:sb6=sb5:=by
  rw [bz fp (by simp) (bN hc5),hc5] at hc6
  simpa using hc6.symm
 subst esb
 refine sD hS6 (fK (cs:=[4*o])) (by decide) fun H7 F7 hS7 hu7=>⟨_,rfl,?_⟩
 obtain ⟨F8,hK8,hu8⟩:=hup6 H7 F7 _ hS7 hu7
 exact h H7 F8 hK8 ((hu4.trans hu5).trans ((Up.of_nil fp).trans hu8))
theorem li (hK:RK H b F s t){a:Option Addr}{l c:Nat}{ws:List Int} (hk:Rd 1 H a l (aq ws)) (hout:mM H a F) (hlk:l<=1000000000)
  (h:∀ H' F',RK H' b F' (s.array ws).2 t->Up F H F' H'->Q (.tuple #[.int .i64 (s.array ws).1.1,.int .i64 (s.array ws).1.2]) H'):ah PP yQ #[.pointer (some ⟨b,0,none⟩),.int .i64 11,.slice a l c] Q H:=by
 unfold SP.array at h
 by_cases he:ws=[]
 ·rw [if_pos he] at h
  have hl:l=0:=by have:=hk.1;rw [he] at this;simpa [aq] using this.symm
  apply vH
  unfold KC A0 iV pV lV cS
  refine ⟨fun w H'=>False,?_,fun _ _ hf=>hf.elim⟩
  rw [bj,ae,if_pos rfl,bj,ae,if_pos (by omega)]
  exact bX (by decide) ⟨_,rfl,h H F hK (Up.refl _ _)⟩
 ·rw [if_neg he] at h
  exact yF hK (by decide) hk hout hlk (fun _=>he) h
end
theorem Up.mid {F F1 G:ay}{H H1 H2:aj} (hu:Up F H F1 H1) (hg:Fr G H1 H2) (hG:∀ x∈G,H.size<=x):Up F H F1 H2 :=
 ⟨⟨Nat.le_trans hu.1.1 hg.1,fun x hx hn=>by rw [hg.2 x (Nat.lt_of_lt_of_le hx hu.1.1) (fun hm=>by have:=hG x hm;omega),hu.1.2 x hx hn]⟩,hu.2⟩
theorem zy {H:aj}{x:ByteArray}{t:TypeId}:Rd 1 (H.push (.cells #[.string x] t)) (some ⟨H.size,0,none⟩) 1 (aO [x]):=by
 refine ⟨rfl,(fun h=>by cases h),fun p hp k hk=>?_⟩
 cases hp
 rw [ao,Nat.zero_add,(bA.new H _ _).cell]
 have:k=0:=by omega
 subst this;rfl
theorem nD (t:TB) (x:ByteArray):t.addAll [] [x]=if (t.add x).1.2≠0 then (([],(t.add x).1.2),(t.add x).2) else (([4*(t.add x).1.1+2],0),(t.add x).2):=by
 rw [TB.addAll]
 split
 ·rfl
 ·rw [TB.addAll];rfl
section
variable {H:aj}{b:Nat}{F:ay}{s:SP}{t:TB}{v:KV}{Q:QT}
theorem rm {H0:aj}{F0:ay} (hu:Up F0 H0 F H) (hK:RK H b F s t){a:Option Addr}{l c l2 c2:Nat}{a2:Option Addr}{G:ay}{ws xs:List Int} (ho:bv 1 H a l c (aq ws) G) (hG:∀ x∈G,H0.size<=x∧x∉F) (hws:ws.length<=8192) (h2:Rd 1 H a2 l2 (aq xs)) (hxs:l2<=8192)
  {K:Value->aj->Prop} (h:∀ a' c' H' G',RK H' b F s t->Up F0 H0 F H'->bv 1 H' a' (l+l2) c' (aq (ws++xs)) G'->(∀ x∈G',H0.size<=x∧x∉F)->K (.slice a' (l+l2) c') H') :
  bk PP (Builtin.append_ #[108,108] 108 #[.slice a l c,.slice a2 l2 c2]) K H:=by
 have hs1:aF PP 108=some (1,8,some (.int .i64 0)):=by kernel_rfl
 have hl:l=ws.length:=by have:=ho.len;simpa [aq] using this.symm
 have hlt:=hK.lt
 refine bY hs1 rfl (by kernel_rfl) ho h2 cM (by omega) (by decide) (by decide) fun a' c' G' H' g1 g2 g3=>?_
 rw [←bt] at g1
 refine h a' c' H' G' (hK.fr g2.1 fun x hx hm=>(hG x hm).2 hx) (Up.mid hu g2.1 fun x hx=>(hG x hx).1) g1 fun x hx=>?_
 rcases g2.2 x hx with h5 | h5
 ·exact hG x h5
 ·exact ⟨Nat.le_trans hu.1.1 h5,fun hm=>by have:=hlt x hm;omega⟩
theorem mX {a:Option Addr}{l c:Nat}{xs:List Value}{G:ay} (h:bv 1 H a l c xs G) (hd:∀ x∈G,x∉F):mM H a F:=bv.out h fun x hx hm=>hd x hx hm
theorem yM (hK:RK H b F s t) (hk:KS s v){name:ByteArray}{up:Int} (hup:1<=up∧up<=65536) (hst:s.stack.length<60000){a:Option Addr}{l c:Nat}{own:List ByteArray} (hr:Rd 1 H a l (aO own)) (hout:fQ H a l F) (hlk:l<=100000000)
  (h:∀ H' F',RK H' b F' (gN s t v.clsW name up own).2.1 (gN s t v.clsW name up own).2.2->Up F H F' H'->Q (.tuple #[.int .i64 (gN s t v.clsW name up own).1.1,.int .i64 (gN s t v.clsW name up own).1.2]) H') :
  ah PP FX #[.pointer (some ⟨b,0,none⟩),.string name,.int .i64 up,.slice a l c] Q H:=by
 have hm1:=hk.shape.many1
 have hcw:v.clsW.length=v.cls.length:=by simp [KV.clsW]
 apply CK
 unfold Nj A0 iV wW pV sV lV cS
 unfold gN at h
 have fp:=Fr.push [] H (.cells #[.string name] 9)
 have hup0:Up F H F (H.push (.cells #[.string name] 9)):=Up.of_nil fp
 refine lY (hK.nil fp) (own:=[name]) zy (.inr fun p hp=>?_) (by decide) fun H1 F1 a6 l6 c6 G6 hK1 hu1 ho6 hG6=>⟨_,_,_,_,rfl,?_⟩
 ·cases hp
  exact ⟨by simp,fun hm=>absurd (hK.lt _ hm) (Nat.lt_irrefl _)⟩
 have hu01:=hup0.trans hu1
 rw [nD] at hK1 ho6 ⊢
 rw [bf,ae]
 by_cases h1:(t.add name).1.2=0
 rotate_left
 ·rw [if_pos h1] at h
  rw [if_pos (show (t.add name).1.2≠0 from h1)] at hK1 ⊢
  rw [if_pos h1]
  exact h H1 F1 hK1 hu01
 rw [if_neg (show ¬ (t.add name).1.2≠0 from fun hn=>hn h1)] at hK1 ho6 h ⊢
 rw [if_neg (fun hn=>hn rfl)]
 obtain ⟨nn,en,en2,_⟩:=gU name h1
 rw [en] at h ho6
 generalize (t.add name).2=t1 at *
 have hout1:=hout.up hu01
 have hr1:=hout.rd hu01 hr
 have hG6':∀ x∈G6,H.size<=x∧x∉F1:=fun x hx=>⟨Nat.le_trans fp.1 (hG6 x hx).1,(hG6 x hx).2⟩
 refine lY hK1 hr1 hout1 hlk fun H2 F2 a9 l9 c9 G9 hK2 hu2 ho9 hG9=>⟨_,_,_,_,rfl,?_⟩
 have hu02:=hu01.trans hu2
 rw [bf,ae]
 refine aA (fun h2=>?_) fun h2=>?_
 ·rw [if_pos h2] at h;exact h H2 F2 hK2 hu02
 rw [if_neg h2] at h
 have hz2:(t1.addAll [] own).1.2=0:=Classical.byContradiction h2
 obtain ⟨ns,ens,ens2⟩:=lM [] own hz2
 rw [List.nil_append] at ens
 have hwt2:=hK2.wft
 have hns:∀ n∈ns,n<(t1.addAll [] own).2.texts.length:=fun n hn=>by
  have:(t1.addAll [] own).2.texts[n]?∈own.map some:=by rw [←ens2];exact List.mem_map.2 ⟨n,hn,rfl⟩
  obtain ⟨s,_,hs⟩:=List.mem_map.1 this
  exact (cA hs.symm).2
 have hnn:nn<(t1.addAll [] own).2.texts.length:=by
  have h5:=(cA en2).2
  obtain ⟨m,e⟩:=(iD t1 [] own).2
  rw [e,List.length_append];omega
 have hws:∀ w∈(t1.addAll [] own).1.1,dG w:=fun w hw=>by
  rw [ens] at hw
  obtain ⟨x,hx,rfl⟩:=List.mem_map.1 hw
  exact d6 hwt2 (hns x hx)
 have hl9:l9<=1000000000:=by
  have e1:=ho9.len
  have e2:ns.length=own.length:=by have:=congrArg List.length ens2;simpa using this
  rw [ens] at e1
  simp only [aq,List.length_map] at e1
  have e3:l=own.length:=by have:=hr.1;simpa [aO] using this.symm
  omega
 unfold nZ at h
 generalize (t1.addAll [] own).1.1=acc at *
 generalize (t1.addAll [] own).2=t2 at *
 obtain ⟨a1,a2,⟨m1,a3,a3'⟩,a4⟩:=dg hk (by omega) hws
 refine li hK2 ho9.rd (mX ho9 fun x hx=>(hG9 x hx).2) hl9 fun H3 F3 hK3 hu3=>⟨_,_,rfl,?_⟩
 have hu03:=hu02.trans hu3
 rw [bf,ae]
 refine aA (fun h3=>?_) fun h3=>?_
 ·rw [if_pos h3] at h;exact h H3 F3 hK3 hu03
 rw [if_neg h3] at h
 have hz3:(s.array acc).1.2=0:=Classical.byContradiction h3
 obtain ⟨lo,elo,lo1,lo2,_⟩:=a4 hz3
 rw [elo] at h ⊢
 generalize (s.array acc).2=s1 at *
 obtain ⟨e0,b0,b1⟩:=KS.s0 a1
 refine qK hK3 a1 e0 b0 b1 ⟨_,rfl,ga hK3 fun aw lw cw Gw H6 how hf6 hGw=>⟨_,_,_,rfl,?_⟩⟩
 rw [show kwords s1.h v.clsA=v.clsW from a1.view.all.kwords] at how
 have hlw:lw=v.clsW.length:=by have:=how.len;simpa [aq] using this.symm
 have hK6:=hK3.nil hf6
 have hl6:l6=1:=by have:=ho6.len;simpa [aq] using this.symm
 have hout6:mM H1 a6 F1:=mX ho6 fun x hx=>(hG6 x hx).2
 have hr6:=(hout6.rd ((hu2.trans hu3).trans (Up.of_nil hf6)) ho6.rd)
 obtain ⟨q6,hq6,hcell6,_⟩:=hr6.int (i:=0) (by decide) (by omega)
 subst hq6
 have hcell6':ac H6 (q6.add (Int.toNat 0*1))=some (.int .i64 (4*(nn:Int)+2)):=by simpa using hcell6
 have ew:IntKind.wrap .i64 ((lw:Int)+1)=(lw:Int)+1:=am (by omega) (by omega)
 refine ⟨⟨Int.le_refl 0,by omega⟩,_,rfl,_,hcell6',bX ⟨by omega,by omega⟩ ⟨_,rfl,⟨⟨hcell6',trivial⟩,trivial⟩,bX (by decide) ⟨_,rfl,⟨⟨hcell6',trivial⟩,trivial⟩,bX (by decide) ⟨_,rfl,⟨⟨hcell6',trivial⟩,trivial⟩,lm (by decide) ⟨_,rfl,⟨⟨hcell6',trivial⟩,trivial⟩,?_⟩⟩⟩⟩⟩
 rw [ew]
 refine lm ⟨by omega,by omega⟩ ⟨_,rfl,⟨⟨hcell6',trivial⟩,trivial⟩,trivial,?_⟩
 unfold ji at h
 have hws2:=fu (n:=4*(nn:Int)+2) (up:=up) (l:=4*lo) (k:=v.clsW.length) (d6 hwt2 hnn) (cq hup.1 hup.2) (cq lo1 lo2) (by omega)
 obtain ⟨k1,k2,k3,k4⟩:=kJ a1 (by rw [a3,List.length_append];omega) (cls:=12) (by decide) hws2
 have fp6:=Fr.push [] H6 (.cells (aq (bU (4*(nn:Int)+2) up (4*lo) v.clsW.length)).toArray 36)
 have hlt6:=hK6.lt
 rw [hlw]
 refine yF (s:=s1) (ws:=bU (4*(nn:Int)+2) up (4*lo) v.clsW.length) (hK6.nil fp6) (by decide) fK
  (fun p hp=>by cases hp;exact ⟨by simp,fun hm=>absurd (hlt6 _ hm) (Nat.lt_irrefl _)⟩) (by decide) (fun h=>absurd h (by decide)) fun H7 F7 hK7 hu7=>⟨_,_,rfl,trivial,?_⟩
 have hu07:=(hu03.trans (Up.of_nil hf6)).trans ((Up.of_nil fp6).trans hu7)
 rw [bf,ae]
 refine aA (fun h4=>?_) fun h4=>?_
 ·rw [if_pos h4] at h;exact h H7 F7 hK7 hu07
 rw [if_neg h4] at h
 have hz4:(s1.make 12 (bU (4*(nn:Int)+2) up (4*lo) v.clsW.length)).1.2=0:=Classical.byContradiction h4
 obtain ⟨cc,ec,est,cc1,cc2,_⟩:=k4 hz4
 rw [ec] at h ⊢
 generalize (s1.make 12 (bU (4*(nn:Int)+2) up (4*lo) v.clsW.length)).2=s2 at *
 unfold fj at h
 have hGw':∀ x∈Gw,H.size<=x∧x∉F7:=fun x hx=>by
  have h5:=hGw x hx
  refine ⟨Nat.le_trans hu03.1.1 h5,Up.out ((Up.of_nil fp6).trans hu7) (fun hm=>by have:=hK3.lt x hm;omega) (how.lt x hx)⟩
 have how7:bv 1 H7 aw lw cw (aq v.clsW) Gw:=(how.fr fp6 (by simp)).fr hu7.1 fun x hx hm=>by
  have h5:=hGw x hx
  have:=hK3.lt x hm
  omega
 have fp7:=Fr.push [] H7 (.cells #[.int .i64 (4*cc)] 36)
 subst hlw
 refine rm (hu07.trans (Up.of_nil fp7)) (hK7.nil fp7) (how7.fr fp7 (by simp)) hGw' (by omega) (fK (cs:=[4*cc])) (by simp) fun a8 c8 H8 G8 hK8 hu8 ho8 hG8=>⟨_,_,_,rfl,?_⟩
 refine li hK8 ho8.rd (mX ho8 fun x hx=>(hG8 x hx).2) (by simp;omega) fun H9 F9 hK9 hu9=>⟨_,_,rfl,?_⟩
 have hws3:∀ w∈v.clsW++[4*cc],dG w:=fun w hw=>by
  rcases List.mem_append.1 hw with hw | hw
  ·exact kr hk w hw
  ·simp only [List.mem_singleton] at hw;rw [hw];exact cq cc1 cc2
 obtain ⟨x1,x2,x3,x4⟩:=dg k1 (by rw [est,a3];simp;omega) hws3
 rw [bf,ae]
 refine aA (fun h5=>?_) fun h5=>?_
 ·rw [if_pos h5] at h;exact h H9 F9 hK9 (hu8.trans hu9)
 rw [if_neg h5] at h
 obtain ⟨sb,Fs,hcs,hS,hsub,_,hup9⟩:=hK9.sp
 refine ⟨_,rfl,_,hcs,mJ hS fun HA hSA hfA=>⟨_,rfl,ch (cW (by omega) (by omega)) ⟨_,rfl,?_⟩⟩⟩
 obtain ⟨FA,hKA,huA⟩:=hup9 HA Fs _ hSA ⟨hfA,fun _ h=>.inl h⟩
 have:=h HA FA hKA ((hu8.trans hu9).trans huA)
 rw [bZ cc1]
 have e4:4*cc / 4=cc:=by omega
 simp only [e4] at this
 exact this
theorem wN (hK:RK H b F s t) (hv:KAll s t v){name sup:ByteArray}{a:Option Addr}{l c:Nat}{own:List ByteArray} (hr:Rd 1 H a l (aO own)) (hout:fQ H a l F) (hlk:l<=1000000000000000)
  (h:∀ H' F',RK H' b F' (bF s v t name sup own).2.1 (bF s v t name sup own).2.2->Up F H F' H'->Q (.tuple #[.int .i64 (bF s v t name sup own).1.1,.int .i64 (bF s v t name sup own).1.2]) H') :
  ah PP Iv #[.pointer (some ⟨b,0,none⟩),.string name,.string sup,.slice a l c] Q H:=by
 apply Di
 unfold P4 iV pV sV lV cS
 unfold bF at h
 refine xm hK hv hr (by omega) fun H1 hf1=>⟨_,_,rfl,?_⟩
 rw [bf,ae]
 refine aA (fun h1=>?_) fun h1=>?_
 ·rw [if_pos h1] at h;exact h H1 F (hK.nil hf1) (Up.of_nil hf1)
 rw [if_neg h1] at h
 obtain ⟨j,hj,ej,hlt,hno,_,_⟩:=mU hv (Classical.byContradiction h1)
 rw [ej] at h ⊢
 have hb:=iH hv.ks hj
 have hst:s.stack.length<60000:=by rw [hv.stack];decide
 refine uP (hK.nil hf1) fun H2 nb hK2 hN hnb hf2 hge=>⟨_,rfl,?_⟩
 have hu2:Up F H F H2:=Up.of_nil (hf1.trans hf2)
 have hl32:=sQ (Classical.byContradiction h1)
 refine yM hK2 hv.ks hb hst (hout.rd hu2 hr) (hout.up hu2) (by have:=hr.1;simp only [aO,List.length_map] at this;omega) fun H3 F3 hK3 hu3=>⟨_,_,rfl,?_⟩
 refine D3 hK3 (hN.fr hu3.1 hnb) (Up.out hu3 hnb hN.lt) ⟨by omega,by omega⟩ fun H4 F4 hK4 hu4=>⟨_,rfl,?_⟩
 have:=h H4 F4 hK4 ((hu2.trans hu3).trans hu4)
 unfold cO at this
 rw [bf,ae]
 refine aA (fun h2=>?_) fun h2=>?_
 ·rw [if_neg h2] at this;exact this
 ·have hz:=Classical.byContradiction h2
  rw [if_pos hz] at this
  have e0:(gN s t v.clsW name (v.cls[j]).oop own).1.2=0:=hz
  rw [e0] at this
  exact this
theorem zb (hK:RK H b F s t) (hv:KAll s t v){name:ByteArray}
  (h:∀ H' F',RK H' b F' (bE s v t name).2.1 (bE s v t name).2.2->Up F H F' H'->Q (.int .i64 (bE s v t name).1) H') :
  ah PP NG #[.pointer (some ⟨b,0,none⟩),.string name] Q H:=by
 have hg:=hv.ks.shape.globs
 obtain ⟨e0,b0,b1⟩:=KS.s1 hv.ks
 apply IB
 unfold RL A0 iV pV sV lV cS
 unfold bE kI at h
 refine mH ⟨_,rfl,?_⟩
 rw [←decide_not,ae]
 refine aA (fun h1=>?_) fun h1=>?_
 ·rw [if_pos h1,if_pos (by decide)] at h;exact h H F hK (Up.refl _ _)
 rw [if_neg h1] at h
 refine vN hK hv fun H2 hF2=>⟨_,rfl,?_⟩
 rw [ae]
 refine aA (fun h2=>?_) fun h2=>?_
 ·rw [if_pos h2,if_pos (by decide)] at h;exact h H2 F (hK.nil hF2) (Up.of_nil hF2)
 rw [if_neg h2] at h
 refine lW (hK.nil hF2) hv fun a l c G H3 ho hf3 hG=>⟨_,_,_,rfl,?_⟩
 have hF3:=hF2.trans hf3
 have hl:l=v.glob.length:=by have:=ho.len;simpa [aO,cE] using this.symm
 rw [ae]
 refine aA (fun h3=>?_) fun h3=>?_
 ·rw [if_pos (show 256<=v.glob.length by omega),if_pos (by decide)] at h;exact h H3 F (hK.nil hF3) (Up.of_nil hF3)
 rw [if_neg (show ¬ 256<=v.glob.length by omega),if_neg (by decide)] at h
 refine uP (hK.nil hF3) fun H4 nb hK4 hN hnb hf4 hge=>⟨_,rfl,?_⟩
 have hF4:=hF3.trans hf4
 unfold dB at h
 have hst:s.stack.length<60000:=by rw [hv.stack];decide
 have fp:=Fr.push [] H4 (.cells #[.string name] 9)
 have hu4:Up F H F (H4.push (.cells #[.string name] 9)):=Up.of_nil (hF4.trans fp)
 have fin:∀ (R:Int × SP × TB) (H5:aj) (F5:ay),fA s t (bw v.glob) name=R->RK H5 b F5 R.2.1 R.2.2->Up F H4 F5 H5->ah PP xH #[.pointer (some ⟨b,0,none⟩),.pointer (some ⟨nb,0,none⟩),.int .i64 R.1] (fun v37 H13=>∃ n38:Int,v37=.int .i64 n38∧Q (.int .i64 n38) H13) H5:=by
  intro R H5 F5 eR hK5 hu5
  rw [eR] at h
  exact D3 hK5 (hN.fr hu5.1 hnb) (Up.out hu5 hnb hN.lt) ⟨by omega,by omega⟩ fun H6 F6 hK6 hu6=>⟨_,rfl,h H6 F6 hK6 (((Up.of_nil hF4).trans hu5).trans hu6)⟩
 refine lY (hK4.nil fp) (own:=[name]) zy (.inr fun p hp=>?_) (by decide) fun H5 F5 a6 l6 c6 G6 hK5 hu5 ho6 hG6=>⟨_,_,_,_,rfl,?_⟩
 ·cases hp
  exact ⟨by simp,fun hm=>absurd (hK4.lt _ hm) (Nat.lt_irrefl _)⟩
 have hu45:Up F H4 F5 H5:=(Up.of_nil fp).trans hu5
 rw [nD] at hK5 ho6 ⊢
 rw [bj,ae]
 by_cases h5:(t.add name).1.2=0
 rotate_left
 ·rw [if_pos (show (t.add name).1.2≠0 from h5)] at hK5 ⊢
  rw [if_neg h5]
  have eR:fA s t (bw v.glob) name=((t.add name).1.2,s,(t.add name).2):=by unfold fA;rw [if_pos h5]
  have:=fin _ H5 F5 eR hK5 hu45
  exact this
 rw [if_neg (show ¬ (t.add name).1.2≠0 from fun hn=>hn h5)] at hK5 ho6 ⊢
 rw [if_pos rfl]
 obtain ⟨nn,en,en2,_⟩:=gU name h5
 have eR:fA s t (bw v.glob) name=i0 s (t.add name).2 (bw v.glob) (4*(t.add name).1.1+2):=by unfold fA;rw [if_neg (by simpa using h5)]
 rw [en] at eR ho6
 generalize (t.add name).2=t1 at *
 unfold i0 at eR
 have hwt1:=hK5.wft
 have hnn:=(cA en2).2
 have hws:∀ w∈bw v.glob++[4*(nn:Int)+2,4],dG w:=fun w hw=>by
  rcases List.mem_append.1 hw with hw | hw
  ·exact jk hv.ks w hw
  ·simp only [List.mem_cons,List.not_mem_nil,or_false] at hw
   rcases hw with rfl | rfl
   ·exact d6 hwt1 hnn
   ·decide
 have hgl:=fY v.glob
 have hl6:l6=1:=by have:=ho6.len;simpa [aq] using this.symm
 have ho6':∀ {H':aj},Fr [] H5 H'->∃ q,a6=some q∧ac H' (q.add (Int.toNat 0*1))=some (.int .i64 (4*(nn:Int)+2)):=by
  intro H' hf'
  obtain ⟨q6,hq6,hcell6,_⟩:=((ho6.fr hf' (by simp)).rd).int (i:=0) (by decide) (by omega)
  exact ⟨q6,hq6,by simpa using hcell6⟩
 obtain ⟨q6,hq6,hc6⟩:=ho6' (Fr.refl _ _)
 subst hq6
 have hcell:∀ {H':aj},Fr [] H5 H'->ac H' (q6.add (Int.toNat 0*1))=some (.int .i64 (4*(nn:Int)+2)):=fun hf'=>by
  obtain ⟨q,hq,hc⟩:=ho6' hf'
  cases hq;exact hc
 have kwg:kwords s.h v.globA=bw v.glob:=hv.ks.view.globs.kwords
 have one:∀ {H':aj},Rd 1 (H'.push (.cells #[.int .i64 (4*(nn:Int)+2)] 36)) (some ⟨H'.size,0,none⟩) 1 (aq [4*(nn:Int)+2]):=fun {H'}=>fK (H:=H') (cs:=[4*(nn:Int)+2])
 have hlt5:=hK5.lt
 have app:∀ {H':aj}{aw:Option Addr}{lw cw:Nat}{Gw:ay}{a2:Option Addr}{c2:Nat},Fr [] H5 H'->bv 1 H' aw lw cw (aq (bw v.glob)) Gw->(∀ x∈Gw,H5.size<=x)->Rd 1 H' a2 1 (aq [4*(nn:Int)+2])->∀ {K:Value->aj->Prop} (_:∀ a' l' c' H'' G',RK H'' b F5 s t1->Up F H4 F5 H''->bv 1 H'' a' l' c' (aq (bw v.glob++[4*(nn:Int)+2])) G'->(∀ x∈G',H4.size<=x∧x∉F5)->K (.slice a' l' c') H''),
   bk PP (Builtin.append_ #[108,108] 108 #[.slice aw lw cw,.slice a2 1 c2]) K H':=by
  intro H' aw lw cw Gw a2 c2 hf' how hGw hr2 K hK'
  exact rm (hu45.trans (Up.of_nil hf')) (hK5.nil hf') how (fun x hx=>⟨Nat.le_trans hu45.1.1 (hGw x hx),fun hm=>by have:=hlt5 x hm;have:=hGw x hx;omega⟩) (by omega) hr2 (by decide) fun a' c' H'' G' k1 k2 k3 k4=>hK' a' _ c' H'' G' k1 k2 k3 k4
 refine ⟨fun w H'=>∃(a':Option Addr) (l' c':Nat) (G':ay),w=[.slice a' l' c']∧RK H' b F5 s t1∧Up F H4 F5 H'∧bv 1 H' a' l' c' (aq (bw v.glob++[4*(nn:Int)+2])) G'∧∀ x∈G',H4.size<=x∧x∉F5,⟨⟨Int.le_refl 0,by omega⟩,_,rfl,_,hc6,?_,?_⟩,?_⟩
 ·refine fW hK5 ⟨_,rfl,⟨⟨hc6,trivial⟩,trivial⟩,?_,?_⟩
  ·rw [e0]
   refine ch (cW (by omega) (by omega)) ⟨_,rfl,⟨⟨hc6,trivial⟩,trivial⟩,?_,?_⟩
   ·rw [bZ b0]
    refine ga hK5 fun aw lw cw Gw H8 how hf8 hGw=>⟨_,_,_,rfl,⟨⟨hcell hf8,trivial⟩,trivial⟩,trivial,?_⟩
    rw [kwg] at how
    have fq:=Fr.push [] H8 (.cells #[.int .i64 (4*(nn:Int)+2)] 36)
    exact app (hf8.trans fq) (how.fr fq (by simp)) hGw one fun a' l' c' H'' G' k1 k2 k3 k4=>⟨_,_,_,rfl,trivial,a',l',c',G',rfl,k1,k2,k3,k4⟩
   ·have fq:=Fr.push [] H5 (.cells #[.int .i64 (4*(nn:Int)+2)] 36)
    rw [bZ b0]
    refine ⟨trivial,ga (hK5.nil fq) fun aw lw cw Gw H8 how hf8 hGw=>⟨_,_,_,rfl,trivial,?_⟩⟩
    rw [kwg] at how
    exact app (fq.trans hf8) how (fun x hx=>Nat.le_trans fq.1 (hGw x hx)) (one.fr' hf8 (by simp)) fun a' l' c' H'' G' k1 k2 k3 k4=>⟨_,_,_,rfl,trivial,a',l',c',G',rfl,k1,k2,k3,k4⟩
  ·have fq:=Fr.push [] H5 (.cells #[.int .i64 (4*(nn:Int)+2)] 36)
   rw [e0]
   refine ⟨trivial,ch (cW (by omega) (by omega)) ⟨_,rfl,trivial,?_⟩⟩
   rw [bZ b0]
   refine ga (hK5.nil fq) fun aw lw cw Gw H8 how hf8 hGw=>⟨_,_,_,rfl,trivial,?_⟩
   rw [kwg] at how
   exact app (fq.trans hf8) how (fun x hx=>Nat.le_trans fq.1 (hGw x hx)) (one.fr' hf8 (by simp)) fun a' l' c' H'' G' k1 k2 k3 k4=>⟨_,_,_,rfl,trivial,a',l',c',G',rfl,k1,k2,k3,k4⟩
 ·have fq:=Fr.push [] H5 (.cells #[.int .i64 (4*(nn:Int)+2)] 36)
  refine ⟨trivial,fW (hK5.nil fq) ⟨_,rfl,trivial,?_⟩⟩
  rw [e0]
  refine ch (cW (by omega) (by omega)) ⟨_,rfl,trivial,?_⟩
  rw [bZ b0]
  refine ga (hK5.nil fq) fun aw lw cw Gw H8 how hf8 hGw=>⟨_,_,_,rfl,trivial,?_⟩
  rw [kwg] at how
  exact app (fq.trans hf8) how (fun x hx=>Nat.le_trans fq.1 (hGw x hx)) (one.fr' hf8 (by simp)) fun a' l' c' H'' G' k1 k2 k3 k4=>⟨_,_,_,rfl,trivial,a',l',c',G',rfl,k1,k2,k3,k4⟩
 rintro w H6 ⟨a',l',c',G',rfl,hK6,hu6,ho7,hG7⟩ _
 refine ⟨_,_,_,rfl,bX (by decide) ⟨_,rfl,?_⟩⟩
 rw [show ((4:Int)*1)=4 from rfl]
 have fq:=Fr.push [] H6 (.cells #[.int .i64 4] 36)
 have hr4:Rd 1 (H6.push (.cells #[.int .i64 4] 36)) (some ⟨H6.size,0,none⟩) 1 (aq [4]):=fK (cs:=[4])
 generalize (H6.push (.cells #[.int .i64 4] 36))=H6' at fq hr4 ⊢
 refine rm (hu6.trans (Up.of_nil fq)) (hK6.nil fq) (ho7.fr fq (by simp)) hG7 (by simp;omega) hr4 (by decide) fun a8 c8 H8 G8 hK8 hu8 ho8 hG8=>⟨_,_,_,rfl,?_⟩
 have ecat:bw v.glob++[4*(nn:Int)+2]++[4]=bw v.glob++[4*(nn:Int)+2,4]:=by simp
 rw [ecat] at ho8
 have hl8:l'+1<=1000000000:=by have:=ho7.len;simp only [aq,List.length_map,List.length_append,hgl] at this;simp at this;omega
 refine li hK8 ho8.rd (mX ho8 fun x hx=>(hG8 x hx).2) hl8 fun H9 F9 hK9 hu9=>⟨_,_,rfl,?_⟩
 obtain ⟨k1,_⟩:=dg hv.ks (by omega) hws
 rw [bj,ae]
 refine aA (fun h6=>?_) fun h6=>?_
 ·rw [if_neg (by simpa using h6)] at eR
  obtain ⟨sb,Fs,hcs,hS,hsub,_,hup9⟩:=hK9.sp
  refine ⟨_,rfl,_,hcs,mJ hS fun HA hSA hfA=>⟨_,rfl,?_⟩⟩
  obtain ⟨FA,hKA,huA⟩:=hup9 HA Fs _ hSA ⟨hfA,fun _ h=>.inl h⟩
  have:=fin _ HA FA eR hKA ((hu8.trans hu9).trans huA)
  rw [h6];exact this
 ·rw [if_pos h6] at eR
  have:=fin _ H9 F9 eR hK9 (hu8.trans hu9)
  exact this
end
def dO:List (Int × Int)->List Value
 | []=>[]
 | (c,n) :: l=>.int .i64 c :: .int .i64 n :: dO l
theorem k8 (l m:List (Int × Int)):dO (l++m)=dO l++dO m:=by
 induction l with
 | nil=>rfl
 | cons x l ih=>obtain ⟨c,n⟩:=x;simp [dO,ih]
theorem wQ (l:List (Int × Int)):(dO l).length=2*l.length:=by
 induction l with
 | nil=>rfl
 | cons x l ih=>obtain ⟨c,n⟩:=x;simp only [dO,List.length_cons,ih];omega
theorem xn (l:List (Int × Int)):∀ v∈dO l,cC v=true:=by
 induction l with
 | nil=>intro v hv;cases hv
 | cons x l ih =>
  obtain ⟨c,n⟩:=x
  intro v hv
  simp only [dO,List.mem_cons] at hv
  rcases hv with rfl | rfl | hv
  ·rfl
  ·rfl
  ·exact ih v hv
theorem wd {l:List (Int × Int)}{i:Nat} (h:i<l.length):(dO l)[i*2]?=some (.int .i64 l[i].1)∧(dO l)[i*2+1]?=some (.int .i64 l[i].2):=by
 induction l generalizing i with
 | nil=>simp at h
 | cons x l ih =>
  obtain ⟨c,n⟩:=x
  cases i with
  | zero=>simp [dO]
  | succ i =>
   have:=ih (i:=i) (by simpa using h)
   have e:(i+1)*2=i*2+2:=by omega
   rw [e]
   simpa [dO] using this
theorem kg (r:RH) (x:Int × Int) (l:List (Int × Int)):r.allocAll (x :: l)=if (r.alloc (4*x.1) x.2 0).1.2≠0 then ((r.alloc (4*x.1) x.2 0).1.2,(r.alloc (4*x.1) x.2 0).2) else RH.allocAll (r.alloc (4*x.1) x.2 0).2 l:=by
 obtain ⟨c,n⟩:=x;rfl
theorem pK (words oops:Int):eH (((bK words oops).allocAll aG).2)=bT words oops:=rfl
theorem wh {words oops:Int} (hz:((bK words oops).allocAll aG).1=0):((bK words oops).allocAll aG).2.objs=fF:=by
 rw [ik aG (r:=bK words oops) rfl hz];rfl
theorem pS {words oops:Int} (hw:WFH (bT words oops)) (hz:((bK words oops).allocAll aG).1=0):((bT words oops).clsAt 19).2=0:=by
 obtain ⟨x,hx,_⟩:=vL hw hz (p:=(19,[80,72,72,72,4,8,12,4])) (by decide)
 unfold RH.clsAt
 simp only at hx
 rw [hx]
attribute [local irreducible] bT eH fF
section
variable {H:aj}{Q:QT}
theorem oB:∀ i (hi:i<aG.length),1<=(aG[i]).1∧(aG[i]).1<=65536:=by decide
theorem Dh {words oops:Int} (hk:dw H) (hbad:¬ (0<=words∧words<=1048576∧0<=oops∧oops<=65536)->Q (.tuple #[.pointer none,.int .i64 1]) H)
  (h1:(0<=words∧words<=1048576∧0<=oops∧oops<=65536)->((bK words oops).allocAll aG).1≠0->∀ H',Fr [] H H'->Q (.tuple #[.pointer none,.int .i64 ((bK words oops).allocAll aG).1]) H')
  (h2:(0<=words∧words<=1048576∧0<=oops∧oops<=65536)->((bK words oops).allocAll aG).1=0->∀ b F H',PK H' b F (eW words oops) dH->Fr [] H H'->(∀ x∈F,H.size<=x)->Q (.tuple #[.pointer (some ⟨b,0,none⟩),.int .i64 0]) H') :
  ah PP Ea #[.int .i64 words,.int .i64 oops] Q H:=by
 have hs1:aF PP 92=some (2,16,some (.agg #[.int .i64 0,.int .i64 0])):=by kernel_rfl
 apply EB
 unfold RJ A0 iV wW pV lV cS;dsimp only [shH]
 refine Cy hk (fun hb=>⟨_,_,rfl,hbad hb⟩) fun hg sb F1 H1 hS1 hf1 hF1=>⟨_,_,rfl,?_⟩
 simp only [show ((0:Int) != 0)=false from rfl,cond_false]
 have h1:=h1 hg
 have h2:=h2 hg
 refine Ds (fun hb=>absurd ⟨by decide,by decide⟩ hb) fun _ tb F2 H2 hT2 hf2 hF2=>⟨_,_,rfl,?_⟩
 simp only [show ((0:Int) != 0)=false from rfl,cond_false]
 have hf12:=hf1.trans hf2
 have hS2:=hS1.nilfr hf2
 have hgl:=hk.lt
 have hK3:PK (H2.push (.cells #[.pointer (some ⟨sb,0,none⟩),.pointer (some ⟨tb,0,none⟩)] 90)) H2.size (H2.size :: (F1++F2)) ⟨bK words oops,0,[],false,0,0,0⟩ ⟨4096,[]⟩:=by
  have fp:=Fr.push [] H2 (.cells #[.pointer (some ⟨sb,0,none⟩),.pointer (some ⟨tb,0,none⟩)] 90)
  have l1:=hS2.lt
  have l1':=hS1.lt
  have l2:=hT2.lt
  refine ⟨sb,tb,F1,F2,rfl,fun hm=>absurd (l1 _ hm) (Nat.lt_irrefl _),fun hm=>absurd (l2 _ hm) (Nat.lt_irrefl _),fun x hx hx2=>?_,?_,fun hm=>?_,bA.new _ _ _,hS2.nilfr fp,hT2.fr fp (bi.nil_right _)⟩
  ·have:=hF2 x hx2;have:=l1' x hx;omega
  ·have:=hf12.1;omega
  ·have:=hF2 _ hm;have:=hf1.1;omega
 have hf3:Fr [] H (H2.push (.cells #[.pointer (some ⟨sb,0,none⟩),.pointer (some ⟨tb,0,none⟩)] 90)):=hf12.more
 have hF3:∀ x∈H2.size :: (F1++F2),H.size<=x:=fun x hx=>by
  rcases List.mem_cons.1 hx with rfl | hx
  ·exact hf12.1
  ·rcases List.mem_append.1 hx with hx | hx
   ·exact hF1 x hx
   ·exact Nat.le_trans hf1.1 (hF2 x hx)
 generalize hH3:(H2.push (.cells #[.pointer (some ⟨sb,0,none⟩),.pointer (some ⟨tb,0,none⟩)] 90))=H3 at hK3 hf3 ⊢
 generalize (H2.size :: (F1++F2))=F3 at hK3 hF3
 apply xL
 unfold QD A0 sV lV
 refine ⟨_,_,_,rfl,?_⟩
 have hlt3:=hK3.lt
 have hO0:bv 2 (H3.push (.cells (dO [(5,0),(6,0),(7,0)]).toArray 91)) (some ⟨H3.size,0,none⟩) 3 3 (dO [(5,0),(6,0),(7,0)]) [H3.size]:=⟨rfl,Nat.le_refl _,.inr ⟨H3.size,_,rfl,rfl,bA.new _ _ _,rfl,rfl⟩⟩
 have fq:Fr [] H3 (H3.push (.cells (dO [(5,0),(6,0),(7,0)]).toArray 91)):=Fr.push _ _ _
 generalize hH4:(H3.push (.cells (dO [(5,0),(6,0),(7,0)]).toArray 91))=H4 at hO0 fq
 have hO1:bv 2 (H4.push (.cells (aO bB).toArray 9)) (some ⟨H3.size,0,none⟩) 3 3 (dO [(5,0),(6,0),(7,0)]) [H3.size]:=hO0.fr (Fr.push [] _ _) (by simp)
 have fr1:Fr [] H3 (H4.push (.cells (aO bB).toArray 9)):=fq.more
 show ∃(I11:List Value->aj->Prop) (μ11:List Value->aj->Nat),I11 [.slice (some ⟨H3.size,0,none⟩) 3 3,.int .i64 0] ((H3.push (.cells (dO [(5,0),(6,0),(7,0)]).toArray 91)).push (.cells (aO bB).toArray 9))∧_
 rw [hH4]
 generalize (H4.push (.cells (aO bB).toArray 9))=H5 at hO1 fr1 ⊢
 refine ⟨fun w H'=>∃(i:Nat) (a:Option Addr) (l c:Nat) (G:ay),w=[.slice a l c,.int .i64 i]∧i<=14∧bv 2 H' a l c (dO ([(5,0),(6,0),(7,0)]++List.replicate i (12,7))) G∧Fr [] H3 H'∧(∀ x∈G,H3.size<=x),fun w _=>match w with
  | [_,.int _ i]=>(14-i).toNat
  | _=>0,⟨0,_,_,_,_,rfl,by decide,hO1,fr1,by simp⟩,?_⟩
 rintro w H6 ⟨i,a,l,c,G,rfl,hi,ho,hf6,hG⟩ _
 have hl:l=3+i:=by have:=ho.len;rw [wQ] at this;simp at this;omega
 refine ⟨_,_,_,_,rfl,?_⟩
 rw [ae]
 refine aA (fun hlt=>?_) fun hlt=>?_
 ·have e1:IntKind.wrap .i64 ((i:Int)+1)=((i+1:Nat):Int):=by rw [am (by omega) (by omega)];omega
  refine bg hs1 rfl (by kernel_rfl) ho rfl (by simp [cC]) (by omega) (by decide) (by decide) fun a' c' G2 H7 g1 g2 g3=>⟨_,_,_,rfl,?_⟩
  obtain ⟨f7,hG7⟩:=Up.fresh hf6 g2 hG
  rw [e1]
  refine ⟨⟨i+1,a',l+1,c',G2,rfl,by omega,?_,f7,hG7⟩,by simp;omega⟩
  rw [List.replicate_succ',←List.append_assoc,k8]
  exact g1
 have hi14:i=14:=by omega
 subst hi14
 have fl:Fr [] H6 (H6.push (.cells (dO [(11,0),(11,8),(11,14)]).toArray 91)):=Fr.push _ _ _
 refine bY (l2:=3) (ys:=dO [(11,0),(11,8),(11,14)]) hs1 rfl (by kernel_rfl) (ho.fr fl (by simp)) ⟨rfl,(fun h=>by cases h),fun p hp k hk'=>?_⟩ (xn _) (by omega) (by decide) (by decide) fun a' c' G2 H7 g1 g2 g3=>⟨_,_,_,rfl,?_⟩
 ·cases hp
  rw [ao,Nat.zero_add]
  exact ((bA.new H6 (dO [(11,0),(11,8),(11,14)]).toArray 91).cell k).trans (by simp)
 obtain ⟨f7,hG7⟩:=Up.fresh (hf6.trans fl) g2 hG
 rw [←k8] at g1
 have ep:[(5,0),(6,0),(7,0)]++List.replicate 14 (12,7)++[(11,0),(11,8),(11,14)]=aG:=rfl
 rw [ep] at g1
 subst hl
 have hr7:Rd 2 H7 a' 20 (dO aG):=g1.rd
 have ho7:mM H7 a' F3:=fun p hp=>by
  have hlt:=g1.lt
  rcases g1.2.2 with ⟨h3,_⟩ | ⟨b',cs,h3,h4,_⟩
  ·rw [h3] at hp;cases hp
  ·rw [h3] at hp;cases hp
   have hb':b'∈G2:=by rw [h4];simp
   exact ⟨hlt _ hb',fun hm=>by have h5:=hG7 _ hb';have h6:=hlt3 _ hm;simp only at h6;omega⟩
 have hK7:=hK3.nil f7
 have hc3:ac H3 ⟨H2.size,0,none⟩=some (.pointer (some ⟨sb,0,none⟩)):=by rw [←hH3];exact (bA.new H2 _ _).cell 0
 have hc7:ac H7 ⟨H2.size,0,none⟩=some (.pointer (some ⟨sb,0,none⟩)):=by rw [bz f7 (by simp) (bN hc3)];exact hc3
 have hf7:=hf3.trans f7
 have h20:aG.length=20:=rfl
 refine ⟨fun w H'=>∃(k:Nat) (r:RH) (st:List Int) (F':ay),w=[.int .i64 k]∧k<=20∧PK H' H2.size F' ⟨r,0,st,false,0,0,0⟩ ⟨4096,[]⟩∧Up F3 H7 F' H'∧st.length=k∧ac H' ⟨H2.size,0,none⟩=some (.pointer (some ⟨sb,0,none⟩))∧r.allocAll (aG.drop k)=(bK words oops).allocAll aG,fun w _=>match w with
  | [.int _ k]=>(20-k).toNat
  | _=>0,⟨0,_,_,_,rfl,by decide,hK7,Up.refl _ _,rfl,hc7,rfl⟩,?_⟩
 rintro w H8 ⟨k,r,st,F8,rfl,hk20,hK8,hu8,hst,hcb,hall⟩ _
 refine ⟨_,rfl,?_⟩
 rw [ae]
 refine aA (fun hlt=>?_) fun hlt=>?_
 ·have hkl:k<aG.length:=by omega
  have e1:IntKind.wrap .i64 ((k:Int)+1)=((k+1:Nat):Int):=by rw [am (by omega) (by omega)];omega
  have hr8:Rd 2 H8 a' 20 (dO aG):=hr7.fr' hu8.1 fun p hp=>(ho7 p hp).2
  have hpb:=oB k hkl
  obtain ⟨q0,q1⟩:=wd hkl
  have ed:aG.drop k=aG[k] :: aG.drop (k+1):=List.drop_eq_getElem_cons hkl
  rw [ed] at hall
  have hex:∃ q,a'=some q:=by
   cases ha:a' with
   | none=>have:=hr8.2.1 ha;omega
   | some q=>exact ⟨q,rfl⟩
  obtain ⟨q,rfl⟩:=hex
  have c0:=hr8.2.2 q rfl (k*2) (by omega)
  have c1:=hr8.2.2 q rfl (k*2+1) (by omega)
  rw [q0] at c0
  rw [q1] at c1
  have eadd:(q.add (k*2)).add 1=q.add (k*2+1):=Addr.add_add _ _ _
  refine ⟨⟨by omega,by omega⟩,_,rfl,_,by rw [Int.toNat_natCast];exact c0,_,by rw [Int.toNat_natCast,eadd];exact c1,?_⟩
  have fpx:Fr [] H8 (H8.push (.cells #[.int .i64 0,.int .i64 0] 91)):=Fr.push _ _ _
  have hBx:=bA.new H8 #[.int .i64 0,.int .i64 0] 91
  generalize (H8.push (.cells #[.int .i64 0,.int .i64 0] 91))=H9 at fpx hBx ⊢
  have hB9:=(hBx.set 0 (.int .i64 (aG[k]).1)).set 1 (.int .i64 (aG[k]).2)
  have f9:Fr [] H8 (au (au H9 ⟨H8.size,0,none⟩ (.int .i64 (aG[k]).1)) ⟨H8.size,1,none⟩ (.int .i64 (aG[k]).2)):=Fr.late (Fr.late fpx (Nat.le_refl _)) (Nat.le_refl _)
  refine ⟨hBx.wr (o:=0) (by simp),(hBx.set 0 _).wr (o:=1) (by simp),?_⟩
  show ∃ n25:Int,ac (au (au H9 ⟨H8.size,0,none⟩ (.int .i64 (aG[k]).1)) ⟨H8.size,1,none⟩ (.int .i64 (aG[k]).2)) ⟨H8.size,0,none⟩=some (.int .i64 n25)∧∃ n26:Int,ac (au (au H9 ⟨H8.size,0,none⟩ (.int .i64 (aG[k]).1)) ⟨H8.size,1,none⟩ (.int .i64 (aG[k]).2)) ⟨H8.size,1,none⟩=some (.int .i64 n26)∧ah PP yh _ _ (au (au H9 ⟨H8.size,0,none⟩ (.int .i64 (aG[k]).1)) ⟨H8.size,1,none⟩ (.int .i64 (aG[k]).2))
  generalize (au (au H9 ⟨H8.size,0,none⟩ (.int .i64 (aG[k]).1)) ⟨H8.size,1,none⟩ (.int .i64 (aG[k]).2))=HA at hB9 f9 ⊢
  have hKA:=hK8.nil f9
  obtain ⟨sbA,FA,hcA,hSA,hsubA,hbA,hupA,hupA2⟩:=hKA.sp
  have esb:sbA=sb:=by rw [bz f9 (by simp) (bN hcb),hcb] at hcA;simpa using hcA.symm
  subst esb
  refine ⟨_,hB9.cell 0,_,hB9.cell 1,cU hSA fun hb FB hRB hsubB hupB=>⟨_,rfl,⟨⟨hB9.cell 1,trivial⟩,⟨hB9.cell 0,trivial⟩,trivial⟩,dh hpb ⟨_,rfl,⟨⟨hB9.cell 1,trivial⟩,trivial⟩,qW hRB fun HB' hRB' hfB=>⟨_,_,rfl,trivial,?_⟩⟩⟩⟩
  have hSB:=hupB HB' _ hRB' hfB
  have hKB:=hupA2 HB' _ hSB (hfB.mono hsubB)
  have huB:Up F8 HA F8 HB':=⟨(hfB.mono hsubB).mono hsubA,fun _ h=>.inl h⟩
  have hu8B:Up F3 H7 F8 HB':=hu8.trans ((Up.of_nil f9).trans huB)
  rw [kg] at hall
  rw [bf,ae]
  refine aA (fun he=>?_) fun he=>?_
  ·rw [if_pos he] at hall
   have e0:((bK words oops).allocAll aG).1=(r.alloc (4*(aG[k]).1) (aG[k]).2 0).1.2:=by rw [←hall]
   have:=h1 (by rw [e0];exact he) HB' ?_
   ·rw [e0] at this;exact this
   ·exact (Up.fresh hf7 hu8B hF3).1
  rw [if_neg he] at hall
  have hz:(r.alloc (4*(aG[k]).1) (aG[k]).2 0).1.2=0:=Classical.byContradiction he
  have hob:=ov hK8.wfs.h hz
  refine dh ⟨hob.2.1,hob.2.2.1⟩ ⟨_,rfl,?_⟩
  have fpy:Fr [] HB' (HB'.push (.cells #[.int .i64 (4*(r.alloc (4*(aG[k]).1) (aG[k]).2 0).1.1)] 36)):=Fr.push _ _ _
  have hKC:=hKB.nil fpy
  obtain ⟨sbC,FC,hcC,hSC,hsubC,hbC,hupC,_⟩:=hKC.sp
  have hcB':ac HB' ⟨H2.size,0,none⟩=some (.pointer (some ⟨sbA,0,none⟩)):=by rw [bz hfB (fun hm=>hbA (hsubB _ hm)) (bN hcA)];exact hcA
  have hcP:=bz fpy (b:=H2.size) (o:=0) (by simp) (bN hcB')
  rw [hcB'] at hcP
  have esb:sbC=sbA:=by rw [hcP] at hcC;simpa using hcC.symm
  subst esb
  have hkw:=lC (s:=⟨(r.alloc (4*(aG[k]).1) (aG[k]).2 0).2,0,st,false,0,0,0⟩) (cq hob.2.1 hob.2.2.1) (by show st.length<65536;omega)
  refine lu hSC (fK (cs:=[4*(r.alloc (4*(aG[k]).1) (aG[k]).2 0).1.1])) (by decide) fun HD FD hSD huD=>⟨_,rfl,?_⟩
  rw [hkw] at hSD ⊢
  simp only [show ((0:Int) != 0)=false from rfl,cond_false]
  obtain ⟨FE,hKE,huE⟩:=hupC HD FD _ hSD huD
  rw [e1]
  exact ⟨⟨k+1,_,_,FE,rfl,by omega,hKE,hu8B.trans ((Up.of_nil fpy).trans huE),by simp [hst],by rw [bz huD.1 hbC (bN hcC)];exact hcC,hall⟩,by simp;omega⟩
 ·have hk20':k=20:=by omega
  subst hk20'
  have ez:aG.drop 20=[]:=rfl
  rw [ez] at hall
  have hall':(0,r)=(bK words oops).allocAll aG:=hall
  have hz:((bK words oops).allocAll aG).1=0:=by rw [←hall']
  have hrr:r=((bK words oops).allocAll aG).2:=by rw [←hall']
  have hbH:eH r=bT words oops:=by rw [hrr];exact pK _ _
  have hro:r.objs=fF:=by rw [hrr];exact wh hz
  obtain ⟨sb8,F9,hc8,hS8,_⟩:=hK8.sp
  obtain ⟨hb8,_,_,hcx,_⟩:=hS8.upd
  have esb8:sb8=sb:=by rw [hcb] at hc8;simpa using hc8.symm
  subst esb8
  refine Fx hK8 ⟨hc8,hcx⟩ (fun j x hx=>?_) fun H9 FA hKA hBA huA=>⟨rfl,?_⟩
  ·rw [hro] at hx
   exact of_decide_eq_true (List.all_eq_true.1 wU x (aM hx).1)
  have hKA':PK H9 H2.size FA ⟨bT words oops,0,st,false,0,0,0⟩ dH:=by rw [←hbH];exact hKA
  obtain ⟨sbA,F10,hcA,hSA,hsubA,hbA,_,hupA⟩:=hKA'.sp
  have esb:sbA=sb8:=by have:=hBA.1;rw [hcA] at this;simpa using this
  subst esb
  have hwf:WFH (bT words oops):=hKA'.wfs.h
  have hcl:((bT words oops).clsAt 19).2=0:=pS hwf hz
  refine xw hSA fun HB hSB hfB=>⟨_,rfl,?_⟩
  have ecr:(SP.crown ⟨bT words oops,0,st,false,0,0,0⟩ 19)=(0,⟨bT words oops,19,st,false,0,0,0⟩):=by
   unfold SP.crown
   rw [if_neg (by simpa using hcl)]
  rw [ecr] at hSB
  have hKB:=hupA HB _ hSB hfB
  obtain ⟨sbB,F11,hcB,hSB',hsubB,_,_,hupB⟩:=hKB.sp
  have esb:sbB=sbA:=by rw [bz hfB hbA (bN hcA),hcA] at hcB;simpa using hcB.symm
  subst esb
  refine oW hSB' ⟨by decide,by decide⟩ fun HC hSC hfC=>⟨_,rfl,?_⟩
  have edr:(SP.drop ⟨bT words oops,19,st,false,0,0,0⟩ ((20:Nat):Int))=(0,eW words oops):=by
   unfold SP.drop
   rw [if_neg (by simp only [hst];decide)]
   simp [hst,eW]
  have e20:((3+14+3:Nat):Int)=((20:Nat):Int):=rfl
  rw [edr] at hSC
  have hKC:=hupB HC _ hSC hfC
  have huC:Up F3 H7 FA HC:=(hu8.trans huA).trans ⟨(hfB.mono hsubA).trans (hfC.mono hsubB),fun _ h=>.inl h⟩
  have:=Up.fresh hf7 huC hF3
  exact h2 hz H2.size FA HC hKC this.1 this.2
end
end Go.Proofs.YtmkdkplipbocjaaGreatDoor
namespace Go.Proofs.YtmkdkplipbocjaaGreatDoor
open Kw
def eO (H:aj):Prop:=∀ i (hi:i<bB.length),ac H ⟨cN,i,none⟩=some (.string bB[i])
theorem eO.fr {H H':aj}{F:ay} (h:eO H) (hf:Fr F H H') (hn:cN∉F):eO H':=fun i hi=>by
 rw [bz hf hn (bN (h i hi))];exact h i hi
theorem eO.lt {H:aj} (h:eO H):cN<H.size:=bN (h 0 (by decide))
theorem Qw (x:RH):x.lay 19 0 [80,72,72,72,4,8,12,4]=((x.lay 19 0 qw).put 19 7 4).2:=rfl
theorem wR (w o m b t:Int):((eH ⟨w,o,m,b,t,fF⟩).put 19 7 4).2=eH ⟨w,o,m,b,t,fF⟩:=by kernel_rfl
theorem wL {words oops:Int} (hz:((bK words oops).allocAll aG).1=0):(i8 ((bK words oops).allocAll aG).2 14).lay 19 0 [80,72,72,72,4,8,12,4]=bT words oops:=by
 have e:((bK words oops).allocAll aG).2=⟨words,oops,0,20,0,fF⟩:=by
  rw [ik aG (r:=bK words oops) rfl hz]
  kernel_rfl
 have e2:bT words oops=eH ⟨words,oops,0,20,0,fF⟩:=by unfold bT;rw [e]
 rw [Qw,e2,e]
 exact wR words oops 0 20 0
attribute [local irreducible] bT eH fF
section
variable {H:aj}{Q:QT}
theorem LM {k:Nat} (hk:k<aG.length) (h:Q (.tuple #[.int .i64 (aG[k]).1,.int .i64 (aG[k]).2]) H):ah PP N7 #[.int .i64 ((k:Int)+1)] Q H:=by
 apply Kh
 unfold Rp iV wW
 have h20:k<20:=hk
 rcases k with _ | _ | _ | _ | _ | _ | _ | _ | _ | _ | _ | _ | _ | _ | _ | _ | _ | _ | _ | _ | k
 all_goals first | exact h | omega
theorem tJ {words oops:Int} (hN:eO H) (hbad:¬ (0<=words∧words<=1048576∧0<=oops∧oops<=65536)->Q (.tuple #[.pointer none,.int .i64 1]) H)
  (h1:(0<=words∧words<=1048576∧0<=oops∧oops<=65536)->((bK words oops).allocAll aG).1≠0->∀ H',Fr [] H H'->Q (.tuple #[.pointer none,.int .i64 ((bK words oops).allocAll aG).1]) H')
  (h2:(0<=words∧words<=1048576∧0<=oops∧oops<=65536)->((bK words oops).allocAll aG).1=0->∀ b F H',RK H' b F (eW words oops) dH->Fr [] H H'->(∀ x∈F,H.size<=x)->Q (.tuple #[.pointer (some ⟨b,0,none⟩),.int .i64 0]) H') :
  ah PP vc #[.int .i64 words,.int .i64 oops] Q H:=by
 have h14:bB.length=14:=rfl
 apply Iq
 unfold Re A0 iV wW pV sV lV cS
 refine Db (fun hb=>⟨_,_,rfl,hbad hb⟩) fun hg sb F1 H1 hS1 hf1 hF1=>⟨_,_,rfl,?_⟩
 simp only [show ((0:Int) != 0)=false from rfl,cond_false]
 have h1:=h1 hg
 have h2:=h2 hg
 refine CZ (fun hb=>absurd ⟨by decide,by decide⟩ hb) fun _ H2 hT2 hf2=>⟨_,_,rfl,?_⟩
 have hf12:=hf1.trans hf2
 have hS2:=hS1.fr hf2 (bi.nil_right _)
 have hK3:RK (H2.push (.cells #[.pointer (some ⟨sb,0,none⟩),.pointer (some ⟨H1.size,0,none⟩)] 104)) H2.size (H2.size :: (F1++[H1.size])) ⟨bK words oops,0,[],false,0,0,0⟩ ⟨4096,[]⟩:=by
  have fp:=Fr.push [] H2 (.cells #[.pointer (some ⟨sb,0,none⟩),.pointer (some ⟨H1.size,0,none⟩)] 104)
  have l1:=hS2.lt
  have l1':=hS1.lt
  have l2:=hT2.lt
  exact ⟨sb,H1.size,F1,[H1.size],rfl,fun hm=>absurd (l1 _ hm) (Nat.lt_irrefl _),fun hm=>absurd (l2 _ hm) (Nat.lt_irrefl _),fun x hx hx2=>by simp only [List.mem_singleton] at hx2;have:=l1' x hx;omega,bA.new _ _ _,hS2.fr fp (bi.nil_right _),hT2.fr fp (bi.nil_right _)⟩
 have hf3:Fr [] H (H2.push (.cells #[.pointer (some ⟨sb,0,none⟩),.pointer (some ⟨H1.size,0,none⟩)] 104)):=hf12.more
 have hF3:∀ x∈H2.size :: (F1++[H1.size]),H.size<=x:=fun x hx=>by
  rcases List.mem_cons.1 hx with rfl | hx
  ·exact hf12.1
  ·rcases List.mem_append.1 hx with hx | hx
   ·exact hF1 x hx
   ·simp only [List.mem_singleton] at hx;rw [hx];exact hf1.1
 have hc0:ac (H2.push (.cells #[.pointer (some ⟨sb,0,none⟩),.pointer (some ⟨H1.size,0,none⟩)] 104)) ⟨H2.size,0,none⟩=some (.pointer (some ⟨sb,0,none⟩)):=(bA.new H2 _ _).cell 0
 have hc1:ac (H2.push (.cells #[.pointer (some ⟨sb,0,none⟩),.pointer (some ⟨H1.size,0,none⟩)] 104)) ⟨H2.size,1,none⟩=some (.pointer (some ⟨H1.size,0,none⟩)):=(bA.new H2 _ _).cell 1
 generalize (H2.push (.cells #[.pointer (some ⟨sb,0,none⟩),.pointer (some ⟨H1.size,0,none⟩)] 104))=H3 at hK3 hf3 hc0 hc1 ⊢
 generalize (H2.size :: (F1++[H1.size]))=F3 at hK3 hF3
 have h20:aG.length=20:=rfl
 have hgF:∀ {H':aj}{F':ay},Up F3 H3 F' H'->cN∉F':=fun {H' F'} hu hm=>by
  have hlt:=hN.lt
  rcases hu.2 _ hm with h5 | h5
  ·have:=hF3 _ h5;omega
  ·have:=hf3.1;omega
 refine ⟨fun w H'=>∃(k:Nat) (r:RH) (F':ay),w=[.int .i64 ((k:Int)+1)]∧k<=20∧RK H' H2.size F' ⟨r,0,[],false,0,0,0⟩ ⟨4096,[]⟩∧Up F3 H3 F' H'∧ac H' ⟨H2.size,0,none⟩=some (.pointer (some ⟨sb,0,none⟩))∧ac H' ⟨H2.size,1,none⟩=some (.pointer (some ⟨H1.size,0,none⟩))∧r.allocAll (aG.drop k)=(bK words oops).allocAll aG,fun w _=>match w with
  | [.int _ k]=>(21-k).toNat
  | _=>0,⟨0,_,_,rfl,by decide,hK3,Up.refl _ _,hc0,hc1,rfl⟩,?_⟩
 rintro w H8 ⟨k,r,F8,rfl,hk20,hK8,hu8,hd0,hd1,hall⟩ _
 refine ⟨_,rfl,?_⟩
 rw [ae]
 refine aA (fun hlt=>?_) fun hlt=>?_
 ·have hkl:k<aG.length:=by omega
  have e1:IntKind.wrap .i64 ((k:Int)+1+1)=((k+1:Nat):Int)+1:=by rw [am (by omega) (by omega)];omega
  have hpb:=oB k hkl
  have ed:aG.drop k=aG[k] :: aG.drop (k+1):=List.drop_eq_getElem_cons hkl
  rw [ed,kg] at hall
  obtain ⟨sb',hb,FB,hcs,c0,hRB,hsub,hbn,hup⟩:=hK8.hp
  have esb:sb'=sb:=by rw [hd0] at hcs;simpa using hcs.symm
  subst esb
  refine LM hkl ⟨_,_,rfl,_,rfl,_,c0,bX ⟨by omega,by omega⟩ ⟨_,rfl,⟨⟨c0,trivial⟩,trivial⟩,pe hRB fun H9 FB' hR9 hu9=>⟨_,_,rfl,trivial,?_⟩⟩⟩
  obtain ⟨F9,hK9,hu9'⟩:=hup H9 FB' _ hR9 hu9
  have hbl:=hK8.lt _ hK8.bmem
  rw [bf,ae]
  refine aA (fun he=>?_) fun he=>?_
  ·rw [if_pos he] at hall
   have e0:((bK words oops).allocAll aG).1=(r.alloc (4*(aG[k]).1) (aG[k]).2 0).1.2:=by rw [←hall]
   have:=h1 (by rw [e0];exact he) H9 (Up.fresh hf3 (hu8.trans hu9') hF3).1
   rw [e0] at this;exact this
  rw [if_neg he] at hall
  rw [e1]
  exact ⟨⟨k+1,_,F9,rfl,by omega,hK9,hu8.trans hu9',by rw [bz hu9.1 hbn hbl];exact hd0,by rw [bz hu9.1 hbn hbl];exact hd1,hall⟩,by simp;omega⟩
 have hk20':k=20:=by omega
 subst hk20'
 have ez:aG.drop 20=[]:=rfl
 rw [ez] at hall
 have hall':(0,r)=(bK words oops).allocAll aG:=hall
 have hz:((bK words oops).allocAll aG).1=0:=by rw [←hall']
 have hrr:r=((bK words oops).allocAll aG).2:=by rw [←hall']
 have hbH:eH r=bT words oops:=by rw [hrr];exact pK _ _
 have hNm:∀ {H':aj}{F':ay},Up F3 H3 F' H'->eO H':=fun {H' F'} hu=>by
  have hN3:=hN.fr hf3 (by simp)
  exact hN3.fr hu.1 (fun hm=>by have:=hF3 _ hm;have:=hN.lt;omega)
 refine ⟨fun w H'=>∃(i:Nat) (F':ay),w=[.int .i64 i]∧i<=14∧RK H' H2.size F' ⟨i8 r i,0,[],false,0,0,0⟩ ⟨4096,bB.take i⟩∧Up F3 H3 F' H'∧ac H' ⟨H2.size,0,none⟩=some (.pointer (some ⟨sb,0,none⟩))∧ac H' ⟨H2.size,1,none⟩=some (.pointer (some ⟨H1.size,0,none⟩)),fun w _=>match w with
  | [.int _ i]=>(14-i).toNat
  | _=>0,⟨0,F8,rfl,by decide,hK8,hu8,hd0,hd1⟩,?_⟩
 rintro w H9 ⟨i,F9,rfl,hi,hK9,hu9,hx0,hx1⟩ _
 refine ⟨_,rfl,?_⟩
 rw [ae]
 refine aA (fun hlt2=>?_) fun hlt2=>?_
 ·have hlt':i<bB.length:=by omega
  have hN9:=hNm hu9 i hlt'
  have e1:IntKind.wrap .i64 ((i:Int)+1)=((i+1:Nat):Int):=by rw [am (by omega) (by omega)];omega
  have e1':IntKind.wrap .i64 ((i:Int)+1)=(i:Int)+1:=am (by omega) (by omega)
  have e4:IntKind.wrap .i64 (4+(i:Int))=4+(i:Int):=am (by omega) (by omega)
  obtain ⟨tb,FT,hct,hT,hsubT,hbT,hupT⟩:=hK9.tb
  have etb:tb=H1.size:=by rw [hx1] at hct;simpa using hct.symm
  subst etb
  refine ⟨⟨by omega,hlt2⟩,_,by rw [ao,Int.toNat_natCast,Nat.mul_one,Nat.zero_add];exact hN9,tP hT fun HA FT' hTA huA=>⟨_,_,rfl,?_⟩⟩
  rw [vd hlt'] at hTA
  obtain ⟨FA,hKA,huA'⟩:=hupT HA FT' _ hTA huA
  have hbl9:=hK9.lt _ hK9.bmem
  have hy0:ac HA ⟨H2.size,0,none⟩=some (.pointer (some ⟨sb,0,none⟩)):=by rw [bz huA.1 hbT hbl9];exact hx0
  have hy1:ac HA ⟨H2.size,1,none⟩=some (.pointer (some ⟨H1.size,0,none⟩)):=by rw [bz huA.1 hbT hbl9];exact hx1
  refine bX (by decide) ⟨_,rfl,?_⟩
  refine ⟨fun w H'=>w=[.int .i64 (if i=0 then 4 else 16)]∧H'=HA,?_,?_⟩
  ·rw [bj,ae]
   refine aA (fun h0=>bX (by decide) ⟨_,rfl,?_,rfl⟩) fun h0=>⟨?_,rfl⟩
   ·rw [if_pos (by omega)];rfl
   ·rw [if_neg (by omega)];rfl
  rintro w HA' ⟨rfl,rfl⟩ _
  refine ⟨_,rfl,tH ⟨by omega,by omega⟩ ⟨_,rfl,bX (by decide) ⟨_,rfl,bX (by decide) ⟨_,rfl,bX (by decide) ⟨_,rfl,lm (by decide) ⟨_,rfl,?_⟩⟩⟩⟩⟩⟩
  rw [e1',e4]
  refine lm ⟨by omega,by omega⟩ ⟨_,rfl,?_⟩
  have fq:=(Fr.push [] HA' (.cells (aq (eE i)).toArray 36))
  have hlA:=hKA.lt
  refine tY (hKA.nil fq) (ws:=eE i) fK (fun p hp=>by cases hp;exact ⟨by simp,fun hm=>absurd (hlA _ hm) (Nat.lt_irrefl _)⟩) (by decide) fun HB FB hKB huB hce=>⟨rfl,?_⟩
  have hz0:ac HB ⟨H2.size,0,none⟩=some (.pointer (some ⟨sb,0,none⟩)):=by rw [hce,bz fq (by simp) (bN hy0)];exact hy0
  have hz1:ac HB ⟨H2.size,1,none⟩=some (.pointer (some ⟨H1.size,0,none⟩)):=by rw [hce,bz fq (by simp) (bN hy1)];exact hy1
  obtain ⟨sb',hb,FC,hcs,c0,hRC,hsub,hbn,hupC⟩:=hKB.hp
  have esb:sb'=sb:=by rw [hz0] at hcs;simpa using hcs.symm
  subst esb
  refine ⟨_,rfl,_,c0,bX ⟨by omega,by omega⟩ ⟨_,rfl,⟨⟨c0,trivial⟩,trivial⟩,ku hRC fun HD hRD hfD=>⟨_,rfl,trivial,?_⟩⟩⟩
  obtain ⟨FD,hKD,huD⟩:=hupC HD FC _ hRD ⟨hfD,fun _ h=>.inl h⟩
  rw [show (i:Int)+1=((i+1:Nat):Int) by omega]
  have hbl:=hKB.lt _ hKB.bmem
  refine ⟨⟨i+1,FD,rfl,by omega,hKD,?_,by rw [bz hfD hbn hbl];exact hz0,by rw [bz hfD hbn hbl];exact hz1⟩,by simp;omega⟩
  exact ((hu9.trans huA').trans ((Up.of_nil fq).trans huB)).trans huD
 ·have hi14:i=14:=by omega
  subst hi14
  refine bX (by decide) ⟨_,rfl,bX (by decide) ⟨_,rfl,bX (by decide) ⟨_,rfl,bX (by decide) ⟨_,rfl,bX (by decide) ⟨_,rfl,bX (by decide) ⟨_,rfl,bX (by decide) ⟨_,rfl,bX (by decide) ⟨_,rfl,?_⟩⟩⟩⟩⟩⟩⟩⟩
  have fq:=(Fr.push [] H9 (.cells (aq [80,72,72,72,4,8,12,4]).toArray 36))
  have hl9:=hK9.lt
  have hrd:Rd 1 (H9.push (.cells (aq [80,72,72,72,4,8,12,4]).toArray 36)) (some ⟨H9.size,0,none⟩) 8 (aq [80,72,72,72,4,8,12,4]):=fK (cs:=[80,72,72,72,4,8,12,4])
  have hRW:(i8 r 14).lay 19 0 [80,72,72,72,4,8,12,4]=bT words oops:=by rw [hrr];exact wL hz
  show ah PP yf _ _ (H9.push (.cells (aq [80,72,72,72,4,8,12,4]).toArray 36))
  generalize (H9.push (.cells (aq [80,72,72,72,4,8,12,4]).toArray 36))=H9' at fq hrd ⊢
  have hKq:=hK9.nil fq
  have hlq:mM H9' (some ⟨H9.size,0,none⟩) F9:=fun p hp=>by
   cases hp
   have h6:=hrd.2.2 _ rfl 0 (by decide)
   rw [ao] at h6
   exact ⟨bN (h6.trans (by rfl)),fun hm=>absurd (hl9 _ hm) (Nat.lt_irrefl _)⟩
  generalize ([80,72,72,72,4,8,12,4]:List Int)=W8 at hrd hRW
  generalize i8 r 14=R8 at hKq hRW
  have eT:(⟨4096,bB.take 14⟩:TB)=dH:=rfl
  rw [eT] at hKq
  refine tY hKq (ws:=W8) hrd hlq (by decide) fun HB FB hKB huB hce=>⟨rfl,?_⟩
  have hKB:RK HB H2.size FB ⟨R8.lay 19 0 W8,0,[],false,0,0,0⟩ dH:=hKB
  rw [hRW] at hKB
  have hz0:ac HB ⟨H2.size,0,none⟩=some (.pointer (some ⟨sb,0,none⟩)):=by rw [hce,bz fq (by simp) (bN hx0)];exact hx0
  obtain ⟨sb',FS,hcs,hS,hsubS,_,hupS⟩:=hKB.sp
  have esb:sb'=sb:=by rw [hz0] at hcs;simpa using hcs.symm
  subst esb
  refine xa hS fun HC hSC hfC=>⟨_,rfl,?_⟩
  have hwf:WFH (bT words oops):=hKB.wfs.h
  have hcl:((bT words oops).clsAt 19).2=0:=pS hwf hz
  have ecr:(SP.crown ⟨bT words oops,0,[],false,0,0,0⟩ 19)=(0,eW words oops):=by
   unfold SP.crown
   rw [if_neg (by simpa using hcl)]
   rfl
  rw [ecr] at hSC
  obtain ⟨FC,hKC,huC⟩:=hupS HC FS _ hSC ⟨hfC,fun _ h=>.inl h⟩
  have hall2:=Up.fresh hf3 ((hu9.trans ((Up.of_nil fq).trans huB)).trans huC) hF3
  exact h2 hz H2.size FC HC hKC hall2.1 hall2.2
end
end Go.Proofs.YtmkdkplipbocjaaGreatDoor
namespace Kw
open Go
structure Tight (W O:Int) (r:RH):Prop where
 words:r.words=W
 oops:r.oops=O
 cls:∀ x∈r.objs,∃ c:Int,4<=c∧c<=17∧x.cls=4*c
theorem sC {W O:Int}{r:RH} (h:Tight W O r) (k:Int):Tight W O (r.marks k).2:=by
 unfold RH.marks;split
 ·exact ⟨h.words,h.oops,h.cls⟩
 ·exact h
structure Tame (v:KV):Prop where
 rest:v.rest=[72,72,4,8,12,4]
 glob:∀ p∈v.glob,p.2=4
 cls:∀ c∈v.cls,c.selA=18∧c.metA=18∧c.sels=[]∧c.mets=[]
def KV.roles2 (v:KV):List jO:=(2,[]) :: (3,[]) :: v.roles
structure K2 (W O:Int) (s:SP) (t:TB) (v:KV):Prop where
 all:KAll s t v
 tame:Tame v
 tight:Tight W O s.h
 o2:eQ s.h 2 []
 o3:eQ s.h 3 []
theorem K2.view {W O:Int}{s:SP}{t:TB}{v:KV} (h:K2 W O s t v):∀ p∈v.roles2,eQ s.h p.1 p.2:=fun p hp=>by
 simp only [KV.roles2,List.mem_cons] at hp
 rcases hp with rfl | rfl | hp
 ·exact h.o2
 ·exact h.o3
 ·exact h.all.ks.view p hp
theorem og {W O:Int}{s:SP}{t:TB}{v:KV} (h:K2 W O s t v){p:jO} (hp:p∈v.roles2):Reaches s.h s.roots p.1:=by
 have hr:=h.all.ks.reach
 have hroot:=hr (19,v.rootW) (by simp [KV.roles])
 simp only [KV.roles2,List.mem_cons] at hp
 rcases hp with rfl | rfl | hp
 ·exact hroot.arr h.all.ks.view.root (by decide) (by decide) h.o2.there (by simp [KV.rootW,h.tame.rest])
 ·exact hroot.arr h.all.ks.view.root (by decide) (by decide) h.o3.there (by simp [KV.rootW,h.tame.rest])
 ·exact hr p hp
theorem K2.marks {W O:Int}{s:SP}{t:TB}{v:KV} (h:K2 W O s t v) (k:Int):K2 W O { s with h:=(s.h.marks k).2 } t v :=
 ⟨h.all.marks k,h.tame,sC h.tight k,h.o2.keep (gg k) trivial,h.o3.keep (gg k) trivial⟩
theorem K2.both {W O:Int}{s:SP}{t:TB}{v:KV} (h:K2 W O s t v){r':RH} (hk:bH s.h r' fun k=>Reaches s.h s.roots k∧k≠19):eQ r' 2 []∧eQ r' 3 [] :=
 ⟨h.o2.keep hk ⟨og h (p:=(2,[])) (by simp [KV.roles2]),by decide⟩,h.o3.keep hk ⟨og h (p:=(3,[])) (by simp [KV.roles2]),by decide⟩⟩
attribute [local irreducible] bT
end Kw
namespace Kw
open Go
theorem uD {W W':World}{may:MemPlace->Prop} (hf:Fr [] W.heap W'.heap) (ho:W'.os=W.os) (hout:W'.output=W.output):W.keptBut W' may:=by
 refine ⟨ho,hout,fun i hi=>?_⟩
 rw [hf.2 i hi (by simp)]
 cases h:W.heap[i]? with
 | none=>trivial
 | some o=>cases o <;> first | exact ⟨rfl,rfl,rfl,fun _ _=>rfl⟩ | exact .inr ⟨rfl,rfl⟩ | rfl
theorem post_law {H:Type}{enc:TypeId × Value->H}{P:Program}{f:Func}{s:ChangeSpec}{apart fresh handsOn:Bool}{W W':World}{args:Array Value}{v:Value}{ds gs:List (DataW H)}{before pa pv:List MemPlace}
  (hW:DataW.Whole enc P f.params.toList s.vars apart W args.toList ds gs before)
  (hres:∀ (b:Nat) (sp:Nat->Bool) (hd:Bool),DataW.TrodAll enc P W' b sp hd f.resultTypes.toList (v.resultList f.resultTypes.size) (s.fn H (ds++gs)).results [])
  (hargs:∀ sp:Nat->Bool,(∀ p∈before,sp p.block=true)->DataW.TrodAll enc P W' 0 sp true f.params.toList args.toList (s.fn H (ds++gs)).args pa)
  (hvars:∀ sp:Nat->Bool,(∀ p∈before,sp p.block=true)->DataW.TrodVars enc P W' sp s.vars (s.fn H (ds++gs)).vars pv)
  (hf:Fr [] W.heap W'.heap) (ho:W'.os=W.os) (hout:W'.output=W.output):s.post enc P f apart fresh handsOn false W args v W' :=
 ⟨ds,gs,before,[],pa,pv,hW,hres _ _ _,hargs _ (fun p hp=>by simpa using hW.lt p hp),hvars _ (fun p hp=>by simpa using hW.lt p hp),uD hf ho hout,fun h=>by cases h⟩
end Kw
namespace Go.Proofs.YtmkdkplipbocjaaGreatDoor
open Kw
theorem Qt:ownKnob Tryz.prog.godebug=none:=by kernel_rfl
theorem yA : Tryz.prog.globalNamed "kiln/kilnref13.Names" = some cN := by kernel_rfl
theorem yZ : Tryz.prog.globalNamed "kiln/word.kinds" = some aE := by kernel_rfl
theorem Cf:(Tryz.prog.globals[cN]?).map (·.type)=some 115:=by kernel_rfl
theorem Dm:(Tryz.prog.globals[aE]?).map (·.type)=some 284:=by kernel_rfl
theorem IH:Tryz.prog.underlying 115=some (.array 14 9):=by kernel_rfl
theorem K7:Tryz.prog.underlying 284=some (.array 4 3):=by kernel_rfl
theorem zt:Tryz.prog.underlying 3=some (.int .i64):=by kernel_rfl
theorem EO:Tryz.prog.underlying 9=some .string:=by kernel_rfl
theorem yi:Tryz.prog.cellsOf 3=1:=by kernel_rfl
theorem FG:Tryz.prog.cellsOf 9=1:=by kernel_rfl
theorem sO {W:World}{n:String}{g:Nat}{cs:Array Value}{i:Nat}{v:Value} (hg:PP.globalNamed n=some g) (hv:W.var? PP n=some cs) (h:cs[i]?=some v):ac W.heap ⟨g,i,none⟩=some v:=by
 have:=World.var?_cell hg hv i
 rw [h] at this
 exact this
open Go.Lib in
theorem jX {W:World} (h:laidMet PP Rows.classBootsRow.laid W):eO W.heap:=by
 obtain ⟨g, t, cs, fuel, p, hg, ht, hv, hd⟩ := laidMet.reads h (n := "kiln/kilnref13.Names") (d := Rows.laid_kiln_kilnref13_Names) (by simp [Rows.classBootsRow])
 obtain rfl:=Option.some.inj (yA.symm.trans hg)
 obtain rfl:=Option.some.inj (Cf.symm.trans ht)
 intro i hi
 have h14:i<14:=hi
 obtain ⟨fuel',d,q,he,hd'⟩:=array_elem IH hd i h14
 rw [FG,Nat.mul_one] at hd'
 obtain ⟨s,hcs,hx,_⟩:=DataW.trod_string EO hd'
 obtain ⟨hdx,_⟩:=Prod.mk.inj hx
 have hc:cs.toList[i]?=some (.string s):=by
  have:=congrArg (·[0]?) hcs
  simpa [List.getElem?_take,List.getElem?_drop] using this
 have hs:s=bB[i]:=by
  have e:some d=some (.lit (.string (bB[i]).data.toList):DataW Unit):=by
   rw [←he]
   rcases i with _ | _ | _ | _ | _ | _ | _ | _ | _ | _ | _ | _ | _ | _ | i
   all_goals first | rfl | omega
  rw [hdx] at e
  have e2:s.data.toList=(bB[i]).data.toList:=by simpa using e
  cases s with
  | mk sd =>
   have e3:sd=(bB[i]).data:=Array.ext' e2
   rw [e3]
 have hf:=sO yA hv (i:=i) (v:=.string s) (by rw [←hc];simp)
 rw [hs] at hf
 exact hf
open Go.Lib in
theorem jZ {W:World} (h:laidMet PP Rows.classBootsRow.laid W):dw W.heap:=by
 obtain ⟨g, t, cs, fuel, p, hg, ht, hv, hd⟩ := laidMet.reads h (n := "kiln/word.kinds") (d := Rows.laid_kiln_word_kinds) (by simp [Rows.classBootsRow])
 obtain rfl:=Option.some.inj (yZ.symm.trans hg)
 obtain rfl:=Option.some.inj (Dm.symm.trans ht)
 have one:∀ i (k:Int),i<4->([3,1,2,1]:List Int)[i]?=some k->ac W.heap ⟨aE,i,none⟩=some (.int .i64 k):=by
  intro i k hi hk
  obtain ⟨fuel',d,q,he,hd'⟩:=array_elem K7 hd i hi
  rw [yi,Nat.mul_one] at hd'
  obtain ⟨n,hcs,hx,_⟩:=DataW.trod_int zt hd'
  obtain ⟨hdx,_⟩:=Prod.mk.inj hx
  have hc:cs.toList[i]?=some (.int .i64 n):=by
   have:=congrArg (·[0]?) hcs
   simpa [List.getElem?_take,List.getElem?_drop] using this
  have hs:n=k:=by
   have e:some d=some (.lit (.int .i64 k):DataW Unit):=by
    rw [←he]
    rcases i with _ | _ | _ | _ | i
    all_goals first | omega | (cases hk;rfl)
   rw [hdx] at e
   simpa using e
  have hf:=sO yZ hv (i:=i) (v:=.int .i64 n) (by rw [←hc];simp)
  rw [hs] at hf
  exact hf
 exact ⟨one 0 3 (by decide) rfl,one 1 1 (by decide) rfl,one 2 2 (by decide) rfl,one 3 1 (by decide) rfl⟩
end Go.Proofs.YtmkdkplipbocjaaGreatDoor
namespace Go.Proofs.YtmkdkplipbocjaaGreatDoor
open Kw
structure Tw (H:aj) (bp br:Nat) (Fp Fq:ay) (s:SP) (t:TB) (v:KV):Prop where
 p:PK H bp Fp s t
 r:RK H br Fq s t
 dis:bi Fp Fq
 gk:aE∉Fq
 v:KAll s t v
section
variable {H:aj}{bp br:Nat}{Fp Fq:ay}{s:SP}{t:TB}{v:KV}{Q:QT}
theorem Tw.fr (h:Tw H bp br Fp Fq s t v){H':aj}{G:ay} (hf:Fr G H H') (h1:bi Fp G) (h2:bi Fq G) (h3:aE∉G):Tw H' bp br Fp Fq s t v :=
 ⟨h.p.fr hf h1 h3,h.r.fr hf h2,h.dis,h.gk,h.v⟩
theorem Tw.nil (h:Tw H bp br Fp Fq s t v){H':aj} (hf:Fr [] H H'):Tw H' bp br Fp Fq s t v:=h.fr hf (bi.nil_right _) (bi.nil_right _) (by simp)
theorem Tw.glt (h:Tw H bp br Fp Fq s t v):aE<H.size:=bN h.p.kinds.1
theorem Tw.r1 (h:Tw H bp br Fp Fq s t v){H1:aj}{Fp':ay} (hu:Up Fp H Fp' H1):RK H1 br Fq s t:=h.r.fr hu.1 h.dis.symm
theorem Tw.both (h:Tw H bp br Fp Fq s t v){H1 H2:aj}{Fp' Fq':ay}{s':SP}{t':TB}{v':KV} (hP:PK H1 bp Fp' s' t') (hu:Up Fp H Fp' H1) (hR:RK H2 br Fq' s' t') (hu2:Up Fq H1 Fq' H2) (hv:KAll s' t' v') :
  Tw H2 bp br Fp' Fq' s' t' v'∧Up (Fp++Fq) H (Fp'++Fq') H2:=by
 have hd1:bi Fp' Fq:=fun x hx hm=>by
  rcases hu.2 x hx with h1 | h1
  ·exact h.dis x h1 hm
  ·have:=h.r.lt x hm;omega
 have hd2:bi Fp' Fq':=fun x hx hm=>by
  rcases hu2.2 x hm with h1 | h1
  ·exact hd1 x hx h1
  ·have:=hP.lt x hx;omega
 have hs:=hu.1.1
 refine ⟨⟨hP.fr hu2.1 hd1 h.gk,hR,hd2,fun hm=>?_,hv⟩,⟨(hu.1.mono fun x hx=>by simp [hx]).trans (hu2.1.mono fun x hx=>by simp [hx]),fun x hx=>?_⟩⟩
 ·rcases hu2.2 _ hm with h1 | h1
  ·exact h.gk h1
  ·have:=h.glt;omega
 ·rcases List.mem_append.1 hx with hx | hx
  ·exact (hu.2 x hx).imp (fun h=>by simp [h]) id
  ·rcases hu2.2 x hx with h1 | h1
   ·exact .inl (by simp [h1])
   ·exact .inr (by omega)
theorem fQ.more {H H':aj}{a:Option Addr}{l:Nat}{F:ay} (h:fQ H a l F) (hs:H.size<=H'.size):fQ H' a l F:=h.imp id fun h p hp=>⟨Nat.lt_of_lt_of_le (h p hp).1 hs,(h p hp).2⟩
theorem eC {a:Option Addr}{l:Nat}{F:ay}{ys:List Value} (ho:fQ H a l F){H':aj} (hf:Fr F H H') (hk:Rd 1 H a l ys):Rd 1 H' a l ys:=ho.rd (F':=F) ⟨hf,fun _ h=>.inl h⟩ hk
end
attribute [local irreducible] bT eH fF
theorem yP {H:aj}{a:Addr}{v:Value} (h:ac H a=some v):a.block<H.size:=by
 unfold ac at h
 rcases Nat.lt_or_ge a.block H.size with h1 | h1
 ·exact h1
 ·rw [Array.getElem?_eq_none h1] at h;cases h
theorem jH {H H':aj} (hf:Fr [] H H'){a:Addr}{v:Value} (h:ac H a=some v):ac H' a=some v:=by
 have hb:=yP h
 unfold ac at h ⊢
 rw [hf.2 _ hb (by simp)]
 exact h
section
variable {H:aj}{Q:QT}
theorem gF {P:Prop} [Decidable P] {A B:Prop} (h1:P->A) (h2:¬ P->B):cond (decide P) A B:=by
 rw [ae];exact aA h1 h2
end
end Go.Proofs.YtmkdkplipbocjaaGreatDoor
namespace Go.Proofs.YtmkdkplipbocjaaGreatDoor
open Kw Go.Deep
theorem fM {Hh:Type}{enc:TypeId × Value->Hh}{W:World}{n:Nat}{fs:Array Field}{cs:List Value}{xs:List (DataW Hh × List MemPlace)} (hlen:xs.length=fs.size)
  (h:∀ (i:Nat) (f:Field),fs[i]?=some f->DataW.trod enc PP W 0 (fun _=>true) true n f.type ((cs.drop f.offset).take (PP.cellsOf f.type))=xs[i]?){j:Nat}{t:TypeId}{off:Nat}
  (hf:(fs[j]?).map (fun f=>(f.type,f.offset))=some (t,off)) (hc:PP.cellsOf t=1):∃ y,xs[j]?=some y∧DataW.trod enc PP W 0 (fun _=>true) true n t ((cs.drop off).take 1)=some y:=by
 obtain ⟨f,hf1,hf2⟩:=Option.map_eq_some_iff.1 hf
 obtain ⟨rfl,rfl⟩:=Prod.mk.inj hf2
 have hj:j<fs.size:=by
  rcases Nat.lt_or_ge j fs.size with h1 | h1
  ·exact h1
  ·rw [Array.getElem?_eq_none h1] at hf1;cases hf1
 have hx:xs[j]?=some (xs[j]'(by omega)):=List.getElem?_eq_getElem (by omega)
 refine ⟨_,hx,?_⟩
 have:=h j f hf1
 rw [hc,hx] at this
 exact this
theorem DK:laidOutB PP=true:=by kernel_rfl
theorem xY {W W':World} (hf:Fr [] W.heap W'.heap){x:MemPlace} (hx:x.block<W.heap.size):W.sameAt W' x:=by
 cases x with
 | cell b off =>
  show ac W'.heap ⟨b,off,none⟩=ac W.heap ⟨b,off,none⟩
  have e:W'.heap[b]?=W.heap[b]?:=hf.2 b hx (by simp)
  unfold ac
  dsimp only
  rw [e]
 | map b=>exact hf.2 _ hx (by simp)
theorem wB {Hh:Type}{enc:TypeId × Value->Hh}{W W':World} (hf:Fr [] W.heap W'.heap){t:TypeId} (hr:PP.readableRec t=true) (hrow:t<PP.types.size){v:Value}{d:DataW Hh}{p:List MemPlace}
  (h:DataW.Trod enc PP W 0 (fun _=>true) true t v d p){sp:Nat->Bool} (hs:∀ x∈p,sp x.block=true):DataW.Trod enc PP W' 0 sp true t v d p:=by
 have hlt:∀ x∈p,x.block<W.heap.size:=fun x hx=>by
  obtain ⟨n,hn⟩:=h
  exact DataW.trod_lt n _ _ _ hn x hx
 exact WideElems.Trod_stays DK hr hrow h (fun x hx=>xY hf (hlt x hx)) hs
end Go.Proofs.YtmkdkplipbocjaaGreatDoor
namespace Go.Proofs.YtmkdkplipbocjaaGreatDoor
open Kw
theorem pO:∀ l:List UInt8,Op.bytesLess l l=false
 | []=>rfl
 | a :: l=>by simp [Op.bytesLess,pO l]
theorem sm:∀ {a b c:List UInt8},Op.bytesLess a b=true->Op.bytesLess b c=true->Op.bytesLess a c=true
 | _,[],_,h,_=>by simp [Op.bytesLess] at h
 | _,_ :: _,[],_,h=>by simp [Op.bytesLess] at h
 | [],_ :: _,_ :: _,_,_=>rfl
 | x :: a,y :: b,z :: c,h1,h2=>by
  simp only [Op.bytesLess,Bool.or_eq_true,decide_eq_true_eq,Bool.and_eq_true,beq_iff_eq] at h1 h2 ⊢
  rcases h1 with h1 | ⟨rfl,h1⟩
  ·rcases h2 with h2 | ⟨rfl,_⟩
   ·exact .inl (UInt8.lt_trans h1 h2)
   ·exact .inl h1
  ·rcases h2 with h2 | ⟨rfl,h2⟩
   ·exact .inl h2
   ·exact .inr ⟨rfl,sm h1 h2⟩
theorem yu:∀ {a b:List UInt8},Op.bytesLess a b=false->Op.bytesLess b a=false->a=b
 | [],[],_,_=>rfl
 | [],_ :: _,h,_=>by simp [Op.bytesLess] at h
 | _ :: _,[],_,h=>by simp [Op.bytesLess] at h
 | x :: a,y :: b,h1,h2=>by
  simp only [Op.bytesLess,Bool.or_eq_false_iff,decide_eq_false_iff_not,Bool.and_eq_false_iff,beq_eq_false_iff_ne] at h1 h2
  have e:x=y:=UInt8.le_antisymm (UInt8.not_lt.1 h2.1) (UInt8.not_lt.1 h1.1)
  subst e
  have g1:Op.bytesLess a b=false:=by
   rcases h1.2 with h | h
   ·exact absurd rfl h
   ·exact h
  have g2:Op.bytesLess b a=false:=by
   rcases h2.2 with h | h
   ·exact absurd rfl h
   ·exact h
  rw [yu g1 g2]
def jn (a b:ByteArray):Prop:=Op.bytesLess a.toList b.toList=true
theorem ow (a:ByteArray):¬ jn a a:=by unfold jn;rw [pO];simp
theorem qz {a b c:ByteArray} (h1:jn a b) (h2:jn b c):jn a c:=sm h1 h2
theorem CB {a b:ByteArray} (h1:¬ jn a b) (h2:¬ jn b a):a=b:=by
 have:=yu (a:=a.toList) (b:=b.toList) (by simpa [jn] using h1) (by simpa [jn] using h2)
 exact pE.1 (by unfold cQ;rw [this];simp)
instance (a b:ByteArray):Decidable (jn a b):=by unfold jn;exact inferInstance
def bu (ts:List ByteArray) (x:ByteArray):Nat:=(ts.takeWhile fun y=>decide (jn y x)).length
theorem kB (ts:List ByteArray) (x:ByteArray):bu ts x<=ts.length:=by
 unfold bu
 exact (List.takeWhile_sublist _).length_le
theorem mV {ts:List ByteArray}{x:ByteArray}{j:Nat} (hj:j<bu ts x){y:ByteArray} (hy:ts[j]?=some y):jn y x:=by
 induction ts generalizing j with
 | nil=>simp at hy
 | cons a l ih =>
  unfold bu at hj
  rw [List.takeWhile_cons] at hj
  split at hj
  ·rename_i h
   cases j with
   | zero=>simp at hy;subst hy;simpa using h
   | succ j=>exact ih (j:=j) (by unfold bu;simpa using hj) (by simpa using hy)
  ·simp at hj
theorem mR {ts:List ByteArray} (hs:ts.Pairwise jn){x:ByteArray}{j:Nat} (hj:bu ts x<=j){y:ByteArray} (hy:ts[j]?=some y):¬ jn y x:=by
 induction ts generalizing j with
 | nil=>simp at hy
 | cons a l ih =>
  obtain ⟨h1,h2⟩:=List.pairwise_cons.1 hs
  unfold bu at hj
  rw [List.takeWhile_cons] at hj
  split at hj
  ·rename_i h
   cases j with
   | zero=>simp at hj
   | succ j=>exact ih h2 (j:=j) (by unfold bu;simpa using hj) (by simpa using hy)
  ·rename_i h
   have ha:¬ jn a x:=by simpa using h
   cases j with
   | zero=>simp at hy;subst hy;exact ha
   | succ j =>
    have hm:y∈l:=List.mem_of_getElem? (by simpa using hy)
    exact fun hl=>ha (qz (h1 y hm) hl)
theorem Bv {ts:List ByteArray} (hs:ts.Pairwise jn){x:ByteArray}{n:Nat} (hn:n<=ts.length) (h1:∀ j y,j<n->ts[j]?=some y->jn y x) (h2:∀ j y,n<=j->ts[j]?=some y->¬ jn y x):n=bu ts x:=by
 have hp:=kB ts x
 rcases Nat.lt_trichotomy n (bu ts x) with h | h | h
 ·have hl:n<ts.length:=by omega
  exact absurd (mV h (List.getElem?_eq_getElem hl)) (h2 n _ (Nat.le_refl _) (List.getElem?_eq_getElem hl))
 ·exact h
 ·have hl:bu ts x<ts.length:=by omega
  exact absurd (h1 _ _ h (List.getElem?_eq_getElem hl)) (mR hs (Nat.le_refl _) (List.getElem?_eq_getElem hl))
theorem pQ {ts:List ByteArray} (hs:ts.Pairwise jn):ts.Nodup:=List.Pairwise.imp (R:=jn) (S:=fun a b=>a≠b) (fun {a b} h e=>ow a (by rw [←e] at h;exact h)) hs
theorem gL {ts:List ByteArray} (hs:ts.Pairwise jn){x:ByteArray}:x∈ts↔ts[bu ts x]?=some x:=by
 constructor
 ·intro hx
  obtain ⟨j,hj,e⟩:=List.getElem_of_mem hx
  have ej:ts[j]?=some x:=by rw [List.getElem?_eq_getElem hj,e]
  have h1:¬ j<bu ts x:=fun h=>ow x (mV h ej)
  have h2:¬ bu ts x<j:=fun h=>by
   have hl:bu ts x<ts.length:=by omega
   have h3:=mR hs (Nat.le_refl _) (List.getElem?_eq_getElem hl)
   have h4:=(List.pairwise_iff_getElem.1 hs) (bu ts x) j hl hj h
   rw [e] at h4
   exact h3 h4
  have:bu ts x=j:=by omega
  rw [this];exact ej
 ·exact fun h=>List.mem_of_getElem? h
theorem ut {ts:List ByteArray} (hs:ts.Pairwise jn){x:ByteArray} (hx:x∉ts):(ts.take (bu ts x)++x :: ts.drop (bu ts x)).Pairwise jn:=by
 have hlow:∀ y∈ts.take (bu ts x),jn y x:=fun y hy=>by
  obtain ⟨j,hj,e⟩:=List.getElem_of_mem hy
  rw [List.getElem_take] at e
  have hj2:j<bu ts x:=by rw [List.length_take] at hj;omega
  exact mV hj2 (by rw [List.getElem?_eq_getElem (by have:=kB ts x;omega),e])
 have hhi:∀ y∈ts.drop (bu ts x),jn x y:=fun y hy=>by
  obtain ⟨j,hj,e⟩:=List.getElem_of_mem hy
  rw [List.getElem_drop] at e
  have hl:bu ts x+j<ts.length:=by rw [List.length_drop] at hj;omega
  have h1:=mR hs (Nat.le_add_right (bu ts x) j) (List.getElem?_eq_getElem hl)
  rw [e] at h1
  refine Classical.byContradiction fun h2=>hx ?_
  have:=CB h1 h2
  rw [←this,←e]
  exact List.getElem_mem hl
 have hs2:(ts.take (bu ts x)++ts.drop (bu ts x)).Pairwise jn:=by rw [List.take_append_drop];exact hs
 obtain ⟨g1,g2,g3⟩:=List.pairwise_append.1 hs2
 refine List.pairwise_append.2 ⟨g1,List.pairwise_cons.2 ⟨hhi,g2⟩,fun y hy z hz=>?_⟩
 rcases List.mem_cons.1 hz with rfl | hz
 ·exact hlow y hy
 ·exact g3 y hy z hz
def _root_.Kw.KV.setC (v:KV) (i:Nat) (c:CV):KV:={ v with cls:=v.cls.set i c }
def tv (v:KV):List jO:=[(19,v.rootW),(v.clsA,v.clsW),(v.globA,bw v.glob),(1,[]),(18,[])]
def fI (v:KV) (i:Nat) (X:List jO):List jO:=(tv v++cD (v.cls.take i) 0)++(X++cD (v.cls.drop (i+1)) (i+1))
theorem jz {v:KV}{i:Nat} (hi:i<v.cls.length):v.roles=fI v i (crole v.cls[i] i):=by
 have e:v.cls=v.cls.take i++v.cls[i] :: v.cls.drop (i+1):=by rw [List.getElem_cons_drop,List.take_append_drop]
 have e2:cD v.cls 0=cD (v.cls.take i) 0++(crole v.cls[i] i++cD (v.cls.drop (i+1)) (i+1)):=by
  conv=>lhs;rw [e]
  rw [im,cD,Nat.zero_add,List.length_take,Nat.min_eq_left (by omega)]
 unfold KV.roles fI tv
 rw [e2]
 simp
theorem wn {v:KV}{i:Nat} (hi:i<v.cls.length){c:CV} (ho:c.oop=(v.cls[i]).oop):(v.setC i c).clsW=v.clsW:=by
 unfold KV.clsW KV.setC
 simp only
 rw [List.map_set,ho]
 have:4*(v.cls[i]).oop=(v.cls.map fun c=>4*c.oop)[i]'(by simpa using hi):=by simp
 rw [this,List.set_getElem_self]
theorem iN {v:KV}{i:Nat} (hi:i<v.cls.length){c:CV} (ho:c.oop=(v.cls[i]).oop):(v.setC i c).roles=fI v i (crole c i):=by
 have hi2:i<(v.setC i c).cls.length:=by simpa [KV.setC] using hi
 rw [jz hi2]
 unfold fI tv
 rw [wn hi ho]
 have e1:(v.setC i c).cls.take i=v.cls.take i:=by simp [KV.setC,List.take_set_of_le]
 have e2:(v.setC i c).cls.drop (i+1)=v.cls.drop (i+1):=by simp [KV.setC,List.drop_set_of_lt]
 have e3:(v.setC i c).cls[i]=c:=by simp [KV.setC]
 rw [e1,e2,e3]
 rfl
def pm (p q:jO):Prop:=p.1=q.1->p.2=[]
theorem sT {A X Y B:List jO} (h:(A++(X++B)).Pairwise pm) (hY:Y.Pairwise pm) (h1:∀ p∈A,∀ q∈Y,pm p q) (h2:∀ p∈Y,∀ q∈B,pm p q):(A++(Y++B)).Pairwise pm:=by
 obtain ⟨g1,g2,g3⟩:=List.pairwise_append.1 h
 obtain ⟨k1,k2,k3⟩:=List.pairwise_append.1 g2
 refine List.pairwise_append.2 ⟨g1,List.pairwise_append.2 ⟨hY,k2,h2⟩,fun p hp q hq=>?_⟩
 rcases List.mem_append.1 hq with hq | hq
 ·exact h1 p hp q hq
 ·exact g3 p hp q (by simp [hq])
theorem oh {v:KV} (h:KShape v){i:Nat} (hi:i<v.cls.length){c:CV} (ho:c.oop=(v.cls[i]).oop) (hu:c.up=(v.cls[i]).up) (hw:c.ownA=(v.cls[i]).ownA) (hl:c.lay=(v.cls[i]).lay):KShape (v.setC i c):=by
 have get:∀ {j:Nat} (hj:j<(v.setC i c).cls.length),∃ hj':j<v.cls.length,((v.setC i c).cls[j]).oop=(v.cls[j]).oop∧((v.setC i c).cls[j]).up=(v.cls[j]).up∧((v.setC i c).cls[j]).ownA=(v.cls[j]).ownA:=fun {j} hj=>by
  have hj':j<v.cls.length:=by simpa [KV.setC] using hj
  refine ⟨hj',?_⟩
  by_cases e:i=j
  ·subst e;simp [KV.setC,ho,hu,hw]
  ·simp [KV.setC,List.getElem_set_ne e]
 have hlen:(v.setC i c).cls.length=v.cls.length:=by simp [KV.setC]
 refine ⟨h.rest,by rw [hlen];exact h.many0,by rw [hlen];exact h.many1,h.globs,fun h0=>?_,fun j hj h0=>?_,fun j hj h14=>?_,fun c' hc'=>?_⟩
 ·obtain ⟨hj',_,e2,e3⟩:=get h0
  rw [e2,e3];exact h.up0 hj'
 ·obtain ⟨hj',_,e2,_⟩:=get hj
  obtain ⟨k,hk,hkj,e⟩:=h.ups j hj' h0
  have hk':k<(v.setC i c).cls.length:=by omega
  obtain ⟨_,f1,_⟩:=get hk'
  exact ⟨k,hk',hkj,by rw [f1,e2];exact e⟩
 ·obtain ⟨hj',e1,_⟩:=get hj
  rw [e1];exact h.kern j hj' h14
 ·rcases List.mem_or_eq_of_mem_set hc' with h1 | rfl
  ·exact h.lay c' h1
  ·rw [hl];exact h.lay _ (List.getElem_mem hi)
theorem oG {v:KV}{t:TB} (h:KNames v t){i:Nat} (hi:i<v.cls.length){c:CV} (hn:c.name=(v.cls[i]).name) (hw:c.own=(v.cls[i]).own):KNames (v.setC i c) t:=by
 refine ⟨h.wf,fun c' hc'=>?_,fun c' hc'=>?_,h.glob,?_⟩
 ·rcases List.mem_or_eq_of_mem_set hc' with h1 | rfl
  ·exact h.name c' h1
  ·rw [hn];exact h.name _ (List.getElem_mem hi)
 ·rcases List.mem_or_eq_of_mem_set hc' with h1 | rfl
  ·exact h.own c' h1
  ·rw [hw];exact h.own _ (List.getElem_mem hi)
 ·have e:(v.setC i c).cls.map (·.name)=v.cls.map (·.name):=by
   unfold KV.setC
   simp only
   rw [List.map_set,hn]
   have:(v.cls[i]).name=(v.cls.map (·.name))[i]'(by simpa using hi):=by simp
   rw [this,List.set_getElem_self]
  rw [e];exact h.nodup
def _root_.Kw.CV.lists (c:CV) (a b:Int) (l m:List Int):CV:={ c with selA:=a,metA:=b,sels:=l,mets:=m }
theorem tW {s:SP}{v:KV} (hk:KS s v){i:Nat} (hi:i<v.cls.length):(∀ p∈tv v++cD (v.cls.take i) 0,p∈v.roles∧p.1≠(v.cls[i]).oop)∧(∀ p∈cD (v.cls.drop (i+1)) (i+1),p∈v.roles∧p.1≠(v.cls[i]).oop)∧(v.cls[i]).ownA≠(v.cls[i]).oop:=by
 have hs:(v.roles).Pairwise pm:=hk.sep
 have er:=jz hi
 rw [er] at hs
 unfold fI at hs er
 obtain ⟨g1,g2,g3⟩:=List.pairwise_append.1 hs
 obtain ⟨k1,k2,k3⟩:=List.pairwise_append.1 g2
 have hc:((v.cls[i]).oop,(v.cls[i]).slots i)∈crole v.cls[i] i:=by simp [crole]
 have hne:(v.cls[i]).slots i≠[]:=by simp [CV.slots]
 refine ⟨fun p hp=>?_,fun p hp=>?_,fun e=>?_⟩
 ·have hm:p∈v.roles:=by rw [er];exact List.mem_append.2 (.inl hp)
  refine ⟨hm,fun e=>?_⟩
  have h0:=g3 p hp _ (List.mem_append.2 (.inl hc)) e
  have h1:=hk.view p hm
  rw [e] at h1
  have:=h1.uniq (hk.view.cls hi)
  rw [h0] at this
  exact hne this.symm
 ·have hm:p∈v.roles:=by rw [er];exact List.mem_append.2 (.inr (List.mem_append.2 (.inr hp)))
  exact ⟨hm,fun e=>hne (k3 _ hc p hp e.symm)⟩
 ·simp only [crole] at k1
  exact hne ((List.pairwise_cons.1 k1).1 ((v.cls[i]).ownA,(v.cls[i]).own.map bD) (by simp) e.symm)
theorem AM {s s':SP}{v:KV} (hk:KS s v){i:Nat} (hi:i<v.cls.length){a b:Int}{l m:List Int} (wf':WFS s') (gc':gi s'.h) (op':s'.op=false) (king':s'.king=19)
  (hk':∀ p∈v.roles,p.1≠(v.cls[i]).oop->eQ s'.h p.1 p.2) (hc:eQ s'.h (v.cls[i]).oop (((v.cls[i]).lists a b l m).slots i)) (ha:eQ s'.h a l) (hb:eQ s'.h b m)
  (na:∀ p∈v.roles,p.1=a->p.2=[]∧l=[]) (nb:∀ p∈v.roles,p.1=b->p.2=[]∧m=[]) (nab:a=b->l=[]):KS s' (v.setC i ((v.cls[i]).lists a b l m)):=by
 have hsep:(v.roles).Pairwise pm:=hk.sep
 have er:=jz hi
 obtain ⟨o1,o2,o3⟩:=tW hk hi
 have mo:((v.cls[i]).ownA,(v.cls[i]).own.map bD)∈v.roles:=by rw [er];unfold fI;simp [crole]
 have mc:((v.cls[i]).oop,(v.cls[i]).slots i)∈v.roles:=by rw [er];unfold fI;simp [crole]
 have hne:(v.cls[i]).slots i≠[]:=by simp [CV.slots]
 have hca:(v.cls[i]).oop≠a:=fun e=>hne (na _ mc e).1
 have hcb:(v.cls[i]).oop≠b:=fun e=>hne (nb _ mc e).1
 refine ⟨wf',gc',op',king',?_,?_,oh hk.shape hi rfl rfl rfl rfl⟩
 ·intro p hp
  rw [iN (c:=(v.cls[i]).lists a b l m) hi rfl] at hp
  unfold fI at hp
  rcases List.mem_append.1 hp with hp | hp
  ·exact hk' p (o1 p hp).1 (o1 p hp).2
  rcases List.mem_append.1 hp with hp | hp
  ·simp only [crole,List.mem_cons,List.not_mem_nil,or_false] at hp
   rcases hp with rfl | rfl | rfl | rfl
   ·exact hc
   ·exact hk' _ mo o3
   ·exact ha
   ·exact hb
  ·exact hk' p (o2 p hp).1 (o2 p hp).2
 ·show ((v.setC i ((v.cls[i]).lists a b l m)).roles).Pairwise pm
  rw [iN (c:=(v.cls[i]).lists a b l m) hi rfl]
  rw [er] at hsep
  unfold fI at hsep ⊢
  obtain ⟨g1,g2,g3⟩:=List.pairwise_append.1 hsep
  obtain ⟨k1,k2,k3⟩:=List.pairwise_append.1 g2
  have cc:((v.cls[i]).oop,(v.cls[i]).slots i)∈crole v.cls[i] i:=by simp [crole]
  have co:((v.cls[i]).ownA,(v.cls[i]).own.map bD)∈crole v.cls[i] i:=by simp [crole]
  refine sT hsep ?_ (fun p hp q hq=>?_) (fun p hp q hq=>?_)
  ·simp only [crole]
   refine List.pairwise_cons.2 ⟨fun q hq=>?_,List.pairwise_cons.2 ⟨fun q hq=>?_,List.pairwise_cons.2 ⟨fun q hq=>?_,by simp⟩⟩⟩
   ·simp only [List.mem_cons,List.not_mem_nil,or_false] at hq
    rcases hq with rfl | rfl | rfl
    ·exact fun e=>absurd e.symm o3
    ·exact fun e=>absurd e hca
    ·exact fun e=>absurd e hcb
   ·simp only [List.mem_cons,List.not_mem_nil,or_false] at hq
    rcases hq with rfl | rfl
    ·exact fun e=>(na _ mo e).1
    ·exact fun e=>(nb _ mo e).1
   ·simp only [List.mem_cons,List.not_mem_nil,or_false] at hq
    subst hq
    exact fun e=>nab e
  ·simp only [crole,List.mem_cons,List.not_mem_nil,or_false] at hq
   rcases hq with rfl | rfl | rfl | rfl
   ·exact fun e=>absurd e (o1 p hp).2
   ·exact g3 p hp _ (List.mem_append.2 (.inl co))
   ·exact fun e=>(na p (o1 p hp).1 e).1
   ·exact fun e=>(nb p (o1 p hp).1 e).1
  ·simp only [crole,List.mem_cons,List.not_mem_nil,or_false] at hp
   rcases hp with rfl | rfl | rfl | rfl
   ·exact fun e=>absurd e.symm (o2 q hq).2
   ·exact k3 _ co q hq
   ·exact fun e=>(na q (o2 q hq).1 e.symm).2
   ·exact fun e=>(nb q (o2 q hq).1 e.symm).2
noncomputable def de (s:SP) (c:Int) (kp l m:List Int):Int × SP :=
 if ((s.keepW kp).2.array l).1.2≠0 then (((s.keepW kp).2.array l).1.2,{ ((s.keepW kp).2.array l).2 with stack:=[] })
 else if (((s.keepW kp).2.array l).2.array m).1.2≠0 then ((((s.keepW kp).2.array l).2.array m).1.2,{ (((s.keepW kp).2.array l).2.array m).2 with stack:=[] })
 else (0,{ (((s.keepW kp).2.array l).2.array m).2 with h:=(((((s.keepW kp).2.array l).2.array m).2.h.put c 3 ((s.keepW kp).2.array l).1.1).2.put c 4 (((s.keepW kp).2.array l).2.array m).1.1).2,stack:=[] })
theorem kQ {s:SP}{v:KV} (hk:KS s v) (hst:s.stack=[]){kp:List Int} (hkp:∀ w∈kp,dG w) (hl:kp.length<=1):s.keepW kp=(0,{ s with stack:=kp })∧KS { s with stack:=kp } v:=by
 constructor
 ·unfold SP.keepW
  rw [if_neg (by rintro ⟨w,hw,hn⟩;exact hn (hkp w hw)),if_neg (by rw [hst];simp;omega),hst]
  simp
 ·exact ⟨{ hk.wf with many:=by simp only;omega,words:=hkp },hk.gc,hk.op,hk.king,hk.view,hk.sep,hk.shape⟩
theorem oA {s:SP}{v:KV} (hk:KS s v){o:Int}{ws:List Int} (ha:ws=[]∨¬ Reaches s.h s.roots o){s2:SP} (hk2:KS s2 v) (hA:eQ s2.h o ws):∀ p∈v.roles,p.1=o->p.2=[]∧ws=[]:=by
 intro p hp e
 rcases ha with rfl | hn
 ·have h1:=hk2.view p hp
  rw [e] at h1
  exact ⟨h1.uniq hA,rfl⟩
 ·exact absurd e (hk.fresh hn p hp)
theorem qA {s:SP}{t:TB}{v:KV} (h:KAll s t v){i:Nat} (hi:i<v.cls.length){kp l m:List Int} (hkp:∀ w∈kp,dG w) (hk1:kp.length<=1) (hl:∀ w∈l,dG w) (hm:∀ w∈m,dG w) (hlm:l.length=m.length) :
  ((de s (v.cls[i]).oop kp l m).1≠0->KAll (de s (v.cls[i]).oop kp l m).2 t v) ∧
  ((de s (v.cls[i]).oop kp l m).1=0->∃ a b,KAll (de s (v.cls[i]).oop kp l m).2 t (v.setC i ((v.cls[i]).lists a b l m))):=by
 obtain ⟨hk,hn,hst⟩:=h
 obtain ⟨ek,hk0⟩:=kQ hk hst hkp hk1
 unfold de
 rw [ek]
 simp only
 obtain ⟨A1,A2,⟨la,A3,A3'⟩,A4⟩:=dg hk0 (by simp only;omega) hl
 generalize hRA:SP.array { s with stack:=kp } l=RA at A1 A2 A3 A4 ⊢
 by_cases e1:RA.1.2=0
 rotate_left
 ·rw [if_pos (by simpa using e1)]
  exact ⟨fun _=>⟨A1.nostack,hn,rfl⟩,fun h=>absurd h e1⟩
 rw [if_neg (by simpa using e1)]
 obtain ⟨a,ea,a1,a2,hAa,hra,hfa⟩:=A4 e1
 obtain ⟨B1,B2,⟨lb,B3,B3'⟩,B4⟩:=dg A1 (by rw [A3];simp only [List.length_append];omega) hm
 generalize hRB:SP.array RA.2 m=RB at B1 B2 B3 B4 ⊢
 by_cases e2:RB.1.2=0
 rotate_left
 ·rw [if_pos (by simpa using e2)]
  exact ⟨fun _=>⟨B1.nostack,hn,rfl⟩,fun h=>absurd h e2⟩
 rw [if_neg (by simpa using e2)]
 obtain ⟨b,eb,b1,b2,hAb,hrb,hfb⟩:=B4 e2
 refine ⟨fun h=>absurd rfl h,fun _=>⟨a,b,?_⟩⟩
 have hAa2:eQ RB.2.h a l:=hAa.keep B2 hra
 have hcl:=B1.view.cls hi
 have hlen:((v.cls[i]).slots i).length=7:=rfl
 have wa:=cq a1 a2
 have wb:=cq b1 b2
 have na:=oA hk0 hfa A1 hAa
 have nb:=oA A1 hfb B1 hAb
 have mc:((v.cls[i]).oop,(v.cls[i]).slots i)∈v.roles:=by rw [jz hi];unfold fI;simp [crole]
 have hne:(v.cls[i]).slots i≠[]:=by simp [CV.slots]
 have hca:a≠(v.cls[i]).oop:=fun e=>hne (na _ mc e.symm).1
 have hcb:b≠(v.cls[i]).oop:=fun e=>hne (nb _ mc e.symm).1
 obtain ⟨p1,_⟩:=jK hcl (i:=3) (w:=4*a) (by decide) (by rw [hlen];decide) wa
 obtain ⟨p2,_⟩:=jK p1 (i:=4) (w:=4*b) (by decide) (by simp [hlen]) wb
 have q1:=gD (r:=RB.2.h) (v.cls[i]).oop 3 (4*a)
 have q2:=gD (r:=(RB.2.h.put (v.cls[i]).oop 3 (4*a)).2) (v.cls[i]).oop 4 (4*b)
 have q:=q1.trans q2
 rw [ea,eb]
 refine ⟨?_,oG hn hi rfl rfl,rfl⟩
 refine AM B1 hi (s':={ RB.2 with h:=((RB.2.h.put (v.cls[i]).oop 3 (4*a)).2.put (v.cls[i]).oop 4 (4*b)).2,stack:=[] }) ⟨il (il B1.wf.h _ _ _) _ _ _,B1.wf.king0,B1.wf.king1,by simp,by simp⟩ (mg (mg B1.gc _ _ _) _ _ _) B1.op B1.king (fun p hp hne'=>(B1.view p hp).keep q hne') ?_ (hAa2.keep q hca) (hAb.keep q hcb) na nb ?_
 ·exact p2
 ·rintro rfl
  rcases hfb with rfl | hnr
  ·simpa using hlm
  ·exact absurd hra hnr
theorem y6 {s:SP}{t:TB}{v:KV} (h:KAll s t v){i:Nat} (hi:i<v.cls.length){j:Nat} (hj:j<(v.cls[i]).mets.length){w:Int} (hw:dG w) :
  (s.h.put (v.cls[i]).metA (j:Int) w).1=0∧KAll { s with h:=(s.h.put (v.cls[i]).metA (j:Int) w).2 } t (v.setC i ((v.cls[i]).lists (v.cls[i]).selA (v.cls[i]).metA (v.cls[i]).sels ((v.cls[i]).mets.set j w))):=by
 obtain ⟨hk,hn,hst⟩:=h
 have hma:=hk.view.met hi
 obtain ⟨p1,p2⟩:=jK hma (i:=(j:Int)) (w:=w) (by omega) (by omega) hw
 have pk:=gD (r:=s.h) (v.cls[i]).metA (j:Int) w
 rw [Int.toNat_natCast] at p1
 have hsep:(v.roles).Pairwise pm:=hk.sep
 have er:=jz hi
 have hne:(v.cls[i]).mets≠[]:=fun e=>by rw [e] at hj;simp at hj
 rw [er] at hsep
 unfold fI at hsep er
 obtain ⟨g1,g2,g3⟩:=List.pairwise_append.1 hsep
 obtain ⟨k1,k2,k3⟩:=List.pairwise_append.1 g2
 have cm:((v.cls[i]).metA,(v.cls[i]).mets)∈crole v.cls[i] i:=by simp [crole]
 have hA:∀ p∈tv v++cD (v.cls.take i) 0,p∈v.roles∧p.1≠(v.cls[i]).metA:=fun p hp=>by
  have hm:p∈v.roles:=by rw [er];exact List.mem_append.2 (.inl hp)
  refine ⟨hm,fun e=>?_⟩
  have h0:=g3 p hp _ (List.mem_append.2 (.inl cm)) e
  have h1:=hk.view p hm
  rw [e] at h1
  have:=h1.uniq hma
  rw [h0] at this
  exact hne this.symm
 have hB:∀ p∈cD (v.cls.drop (i+1)) (i+1),p∈v.roles∧p.1≠(v.cls[i]).metA:=fun p hp=>by
  have hm:p∈v.roles:=by rw [er];exact List.mem_append.2 (.inr (List.mem_append.2 (.inr hp)))
  exact ⟨hm,fun e=>hne (k3 _ cm p hp e.symm)⟩
 have inX:∀ p∈crole v.cls[i] i,p∈v.roles:=fun p hp=>by rw [er];exact List.mem_append.2 (.inr (List.mem_append.2 (.inl hp)))
 have hX:∀ p,p∈[((v.cls[i]).oop,(v.cls[i]).slots i),((v.cls[i]).ownA,(v.cls[i]).own.map bD),((v.cls[i]).selA,(v.cls[i]).sels)]->p.1≠(v.cls[i]).metA:=fun p hp e=>by
  have h0:p.2=[]:=by
   simp only [crole] at k1
   obtain ⟨x1,k1⟩:=List.pairwise_cons.1 k1
   obtain ⟨x2,k1⟩:=List.pairwise_cons.1 k1
   obtain ⟨x3,k1⟩:=List.pairwise_cons.1 k1
   simp only [List.mem_cons,List.not_mem_nil,or_false] at hp
   rcases hp with rfl | rfl | rfl
   ·exact x1 ((v.cls[i]).metA,(v.cls[i]).mets) (by simp) e
   ·exact x2 ((v.cls[i]).metA,(v.cls[i]).mets) (by simp) e
   ·exact x3 ((v.cls[i]).metA,(v.cls[i]).mets) (by simp) e
  have hm:p∈v.roles:=inX p (by simp only [List.mem_cons,List.not_mem_nil,or_false] at hp;rcases hp with rfl | rfl | rfl <;> simp [crole])
  have h1:=hk.view p hm
  rw [e] at h1
  have:=h1.uniq hma
  rw [h0] at this
  exact hne this.symm
 refine ⟨p2,⟨{ hk.wf with h:=il hk.wf.h _ _ _ },mg hk.gc _ _ _,hk.op,hk.king,?_,?_,oh hk.shape hi rfl rfl rfl rfl⟩,oG hn hi rfl rfl,hst⟩
 ·intro p hp
  rw [iN (c:=(v.cls[i]).lists (v.cls[i]).selA (v.cls[i]).metA (v.cls[i]).sels ((v.cls[i]).mets.set j w)) hi rfl] at hp
  unfold fI at hp
  rcases List.mem_append.1 hp with hp | hp
  ·exact (hk.view p (hA p hp).1).keep pk (hA p hp).2
  rcases List.mem_append.1 hp with hp | hp
  ·simp only [crole,List.mem_cons,List.not_mem_nil,or_false] at hp
   rcases hp with rfl | rfl | rfl | rfl
   ·exact (hk.view.cls hi).keep pk (hX ((v.cls[i]).oop,(v.cls[i]).slots i) (by simp))
   ·exact (hk.view.own hi).keep pk (hX ((v.cls[i]).ownA,(v.cls[i]).own.map bD) (by simp))
   ·exact (hk.view.sel hi).keep pk (hX ((v.cls[i]).selA,(v.cls[i]).sels) (by simp))
   ·exact p1
  ·exact (hk.view p (hB p hp).1).keep pk (hB p hp).2
 ·show ((v.setC i ((v.cls[i]).lists _ _ _ _)).roles).Pairwise pm
  rw [iN (c:=(v.cls[i]).lists (v.cls[i]).selA (v.cls[i]).metA (v.cls[i]).sels ((v.cls[i]).mets.set j w)) hi rfl]
  unfold fI
  simp only [crole] at k1
  obtain ⟨x1,k1⟩:=List.pairwise_cons.1 k1
  obtain ⟨x2,k1⟩:=List.pairwise_cons.1 k1
  obtain ⟨x3,_⟩:=List.pairwise_cons.1 k1
  refine sT hsep ?_ (fun p hp q hq=>?_) (fun p hp q hq=>?_)
  ·simp only [crole]
   refine List.pairwise_cons.2 ⟨fun q hq=>?_,List.pairwise_cons.2 ⟨fun q hq=>?_,List.pairwise_cons.2 ⟨fun q hq=>?_,by simp⟩⟩⟩
   ·simp only [List.mem_cons,List.not_mem_nil,or_false] at hq
    rcases hq with rfl | rfl | rfl
    ·exact x1 ((v.cls[i]).ownA,(v.cls[i]).own.map bD) (by simp)
    ·exact x1 ((v.cls[i]).selA,(v.cls[i]).sels) (by simp)
    ·exact x1 ((v.cls[i]).metA,(v.cls[i]).mets) (by simp)
   ·simp only [List.mem_cons,List.not_mem_nil,or_false] at hq
    rcases hq with rfl | rfl
    ·exact x2 ((v.cls[i]).selA,(v.cls[i]).sels) (by simp)
    ·exact x2 ((v.cls[i]).metA,(v.cls[i]).mets) (by simp)
   ·simp only [List.mem_cons,List.not_mem_nil,or_false] at hq
    subst hq
    exact x3 ((v.cls[i]).metA,(v.cls[i]).mets) (by simp)
  ·simp only [crole,List.mem_cons,List.not_mem_nil,or_false] at hq
   rcases hq with rfl | rfl | rfl | rfl
   ·exact g3 p hp _ (List.mem_append.2 (.inl (show ((v.cls[i]).oop,(v.cls[i]).slots i)∈crole v.cls[i] i by simp [crole])))
   ·exact g3 p hp _ (List.mem_append.2 (.inl (show ((v.cls[i]).ownA,(v.cls[i]).own.map bD)∈crole v.cls[i] i by simp [crole])))
   ·exact g3 p hp _ (List.mem_append.2 (.inl (show ((v.cls[i]).selA,(v.cls[i]).sels)∈crole v.cls[i] i by simp [crole])))
   ·exact fun e=>absurd e (hA p hp).2
  ·simp only [crole,List.mem_cons,List.not_mem_nil,or_false] at hp
   rcases hp with rfl | rfl | rfl | rfl
   ·exact k3 ((v.cls[i]).oop,(v.cls[i]).slots i) (by simp [crole]) q hq
   ·exact k3 ((v.cls[i]).ownA,(v.cls[i]).own.map bD) (by simp [crole]) q hq
   ·exact k3 ((v.cls[i]).selA,(v.cls[i]).sels) (by simp [crole]) q hq
   ·exact fun e=>absurd e.symm (hB q hq).2
end Go.Proofs.YtmkdkplipbocjaaGreatDoor
