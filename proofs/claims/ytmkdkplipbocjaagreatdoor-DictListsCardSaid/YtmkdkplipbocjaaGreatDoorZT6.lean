/- Lemmas for RDLists: functions of the program as predicate transformers, and their contracts. -/
import Derived.Test.YtmkdkplipbocjaaGreatDoorZT5
import Derived.JoinedOf
set_option linter.all false
set_option maxRecDepth 100000
set_option maxHeartbeats 4000000
namespace Go.Proofs.YtmkdkplipbocjaaGreatDoor
open Kw
variable {Q:QT}{H:aj}
abbrev Qq:Nat:=9
def fk:tI :=
 fun | 6=>some [(9,80),(10,80),(11,3)] | 13=>some [(9,80),(10,80),(13,3)] | 16=>some [(9,80),(10,80),(14,3)] | 21=>some [(15,3)] | 27=>some [(17,3)] | 30=>some [(18,3)] | 34=>some [(16,80),(19,3)] | 38=>some [(20,37),(21,3)] | 43=>some [(22,3)] | 47=>some [(24,3)] | _=>none
def dJ (Q:QT) (t:Array Value) (H:aj):Prop :=
 ev PP fk (MJ 7 (FP Tryz.f9)) (Ql PP Tryz.f9 Q) ⟨t,[]⟩ H
def k9 (n1:Int) (n2:Int) (a3:Option Addr) (l3:Nat) (c3:Nat) (Q:QT) (H:aj):Prop :=
 ah PP 31 #[iV n1,iV n2] (fun v4 H1=>∃ p5 b6,v4=.tuple #[pV p5,.bool b6]∧cond (Option.isNone p5) (cond b6 (cS 32 #[] (fun v7 H2=>∃ b8,v7=.bool b8∧Q (.bool b8) H2) H1) (Q (.bool false) H1)) (∃(I9:IT) (μ9:MT),I9 [lV none 0 0,lV none 0 0,iV 0] H1∧∀ w10 H3,I9 w10 H3->∀ g_11:Nat->Value,∃ a12 l12 c12 a13 l13 c13 n14,w10=[lV a12 l12 c12,lV a13 l13 c13,iV n14]∧cond (decide (n14<(l3:Int))) (cond (decide (n14<1099511627776)) (((0:Int)<=n14∧n14<(l3:Int))∧∃ q15,a3=some q15∧∃ n16,ac H3 (q15.add (Int.toNat n14*6))=some (iV n16)∧∃ n17,ac H3 ((q15.add (Int.toNat n14*6)).add 1)=some (iV n17)∧∃ n18,ac H3 ((q15.add (Int.toNat n14*6)).add 2)=some (iV n18)∧∃ n19,ac H3 ((q15.add (Int.toNat n14*6)).add 3)=some (iV n19)∧∃ s20,ac H3 ((q15.add (Int.toNat n14*6)).add 4)=some (sV s20)∧∃ s21,ac H3 ((q15.add (Int.toNat n14*6)).add 5)=some (sV s21)∧cS 38 #[pV p5,.agg #[iV n16,iV n17,iV n18,iV n19,sV s20,sV s21]] (fun v22 H4=>∃ b23,v22=.bool b23∧cond (!b23) (Q (.bool false) H4) (cond ((Int.tmod n14 4) == 3) (cond (decide ((l12:Int)<2000)) (∃ q24,p5=some q24∧∃ p25,ac H4 (q24.add 2)=some (pV p25)∧cS 40 #[pV p25] (fun v26 H5=>∃ a27 l27 c27,v26=lV a27 l27 c27∧∃(I28:IT) (μ28:MT),I28 [lV a12 l12 c12,lV a13 l13 c13,iV 0] H5∧∀ w29 H6,I28 w29 H6->∀ g_30:Nat->Value,∃ a31 l31 c31 a32 l32 c32 n33,w29=[lV a31 l31 c31,lV a32 l32 c32,iV n33]∧cond (decide (n33<(l27:Int))) (∃(I34:IT) (μ34:MT),I34 [lV a31 l31 c31,lV a32 l32 c32,iV 0] H6∧∀ w35 H7,I34 w35 H7->∀ g_36:Nat->Value,∃ a37 l37 c37 a38 l38 c38 n39,w35=[lV a37 l37 c37,lV a38 l38 c38,iV n39]∧cond (decide (n39<2)) (∃ q40,p5=some q40∧∃ p41,ac H7 (q40.add 1)=some (pV p41)∧((0:Int)<=n33∧n33<(l27:Int))∧∃ q42,a27=some q42∧∃ n43,ac H7 (q42.add (Int.toNat n33*1))=some (iV n43)∧cS 41 #[pV p41,iV n43] (fun v44 H8=>∃ a45 l45 c45,v44=lV a45 l45 c45∧True∧True∧bk PP (Builtin.append_ #[80,80] 80 #[lV a37 l37 c37,lV (some (A0 H8.size)) 1 1]) (fun v46 H9=>∃ a47 l47 c47,v46=lV a47 l47 c47∧True∧∃ q48,p5=some q48∧∃ p49,ac H9 (q48.add 3)=some (pV p49)∧((0:Int)<=n33∧n33<(l27:Int))∧∃ q50,a27=some q50∧∃ n51,ac H9 (q50.add (Int.toNat n33*1))=some (iV n51)∧cS 42 #[pV p49,iV n51] (fun v52 H10=>∃ a53 l53 c53,v52=lV a53 l53 c53∧True∧True∧bk PP (Builtin.append_ #[80,80] 80 #[lV a38 l38 c38,lV (some (A0 H10.size)) 1 1]) (fun v54 H11=>∃ a55 l55 c55,v54=lV a55 l55 c55∧True∧I34 [lV a47 l47 c47,lV a55 l55 c55,iV (wW (n39+1))] H11∧μ34 [lV a47 l47 c47,lV a55 l55 c55,iV (wW (n39+1))] H11<μ34 w35 H7) (H10.push (.cells #[lV a53 l53 c53] 37))) H9) (H8.push (.cells #[lV a45 l45 c45] 37))) H7) (I28 [lV a37 l37 c37,lV a38 l38 c38,iV (wW (n33+1))] H7∧μ28 [lV a37 l37 c37,lV a38 l38 c38,iV (wW (n33+1))] H7<μ28 w29 H6)) (I9 [lV a31 l31 c31,lV a32 l32 c32,iV (wW (n14+1))] H6∧μ9 [lV a31 l31 c31,lV a32 l32 c32,iV (wW (n14+1))] H6<μ9 w10 H3)) H4) (I9 [lV a12 l12 c12,lV a13 l13 c13,iV (wW (n14+1))] H4∧μ9 [lV a12 l12 c12,lV a13 l13 c13,iV (wW (n14+1))] H4<μ9 w10 H3)) (I9 [lV a12 l12 c12,lV a13 l13 c13,iV (wW (n14+1))] H4∧μ9 [lV a12 l12 c12,lV a13 l13 c13,iV (wW (n14+1))] H4<μ9 w10 H3))) H3) (∃(I56:IT) (μ56:MT),I56 [iV 0] H3∧∀ w57 H12,I56 w57 H12->∀ g_58:Nat->Value,∃ n59,w57=[iV n59]∧cond (decide (n59<(l12:Int))) (((0:Int)<=n59∧n59<(l12:Int))∧∃ q60,a12=some q60∧∃ a61 l61 c61,ac H12 (q60.add (Int.toNat n59*1))=some (lV a61 l61 c61)∧((0:Int)<=n59∧n59<(l13:Int))∧∃ q62,a13=some q62∧∃ a63 l63 c63,ac H12 (q62.add (Int.toNat n59*1))=some (lV a63 l63 c63)∧cS 43 #[lV a61 l61 c61,lV a63 l63 c63] (fun v64 H13=>∃ b65,v64=.bool b65∧True∧cond (!b65) (Q (.bool false) H13) (I56 [iV (wW (n59+1))] H13∧μ56 [iV (wW (n59+1))] H13<μ56 w57 H12)) H12) (dJ Q #[iV n1,iV n2,lV a3 l3 c3,.tuple #[],.tuple #[],.tuple #[],(g_58 6),pV p5,.bool b6,lV a12 l12 c12,lV a13 l13 c13,iV n14,(g_11 12),(g_11 13),(g_11 14),iV n59,lV none 0 0,.tuple #[],.tuple #[],.tuple #[],.tuple #[],.tuple #[],.tuple #[],.tuple #[],.tuple #[],.tuple #[pV p5,.bool b6],iV n1,iV n2,.tuple #[pV p5,.bool b6],pV p5,.bool b6,pV p5,.bool false,.tuple #[],.tuple #[],.tuple #[],.tuple #[],iV n14,lV a3 l3 c3,iV (l3:Int),.bool (decide (n14<(l3:Int))),.bool true,iV n14,.bool (decide (n14<1099511627776)),.bool false,(g_11 45),(g_11 46),(g_11 47),(g_11 48),(g_11 49),(g_11 50),(g_11 51),(g_11 52),(g_11 53),(g_11 54),(g_11 55),(g_11 56),(g_11 57),(g_11 58),(g_11 59),(g_11 60),(g_11 61),(g_11 62),(g_11 63),(g_11 64),(g_11 65),(g_11 66),(g_11 67),(g_11 68),(g_11 69),(g_11 70),(g_11 71),(g_11 72),(g_11 73),(g_11 74),(g_11 75),(g_11 76),(g_11 77),(g_11 78),(g_11 79),(g_11 80),(g_11 81),(g_11 82),(g_11 83),(g_11 84),(g_11 85),(g_11 86),(g_11 87),(g_11 88),(g_11 89),(g_11 90),(g_11 91),(g_11 92),(g_11 93),(g_11 94),(g_11 95),(g_11 96),(g_11 97),(g_11 98),(g_11 99),(g_11 100),iV n59,lV a12 l12 c12,iV (l12:Int),.bool false,(g_58 105),(g_58 106),(g_58 107),(g_58 108),(g_58 109),(g_58 110),(g_58 111),(g_58 112),(g_58 113),(g_58 114),(g_58 115),(g_58 116),.tuple #[],.tuple #[],.tuple #[],.tuple #[],.tuple #[],.tuple #[],.tuple #[],.tuple #[],.tuple #[],.tuple #[],.tuple #[],.tuple #[],.tuple #[],.tuple #[],.tuple #[],.tuple #[],.tuple #[],.tuple #[],.tuple #[],.tuple #[],.tuple #[],.tuple #[],.tuple #[],.tuple #[],.tuple #[],.tuple #[],.tuple #[],.tuple #[],.tuple #[],.tuple #[],.tuple #[],.tuple #[],.tuple #[],.tuple #[],.tuple #[],.tuple #[],.tuple #[],.tuple #[],.tuple #[],.tuple #[],.tuple #[],.tuple #[],.tuple #[],.tuple #[],.tuple #[],.tuple #[],.tuple #[],.tuple #[],.tuple #[],.tuple #[],.tuple #[],.tuple #[],.tuple #[],.tuple #[],.tuple #[],.tuple #[],.tuple #[],.tuple #[],.tuple #[],.tuple #[],.tuple #[],.tuple #[],.tuple #[],.tuple #[],.tuple #[],.tuple #[],.tuple #[],.tuple #[],.tuple #[],.tuple #[],.tuple #[],.tuple #[],.tuple #[],.tuple #[],.tuple #[],.tuple #[],.tuple #[],.tuple #[],.tuple #[],.tuple #[],.tuple #[],.tuple #[],.tuple #[],.tuple #[],.tuple #[],.tuple #[],.tuple #[],.tuple #[],.tuple #[],.tuple #[],.tuple #[],.tuple #[],.tuple #[],.tuple #[],.tuple #[],.tuple #[],.tuple #[],.tuple #[],.tuple #[],.tuple #[],.tuple #[],.tuple #[],.tuple #[],.tuple #[],.tuple #[],.tuple #[],.tuple #[],.tuple #[],.tuple #[],.tuple #[],.tuple #[],.tuple #[],.tuple #[],.tuple #[],.tuple #[],.tuple #[],.tuple #[],.tuple #[],.tuple #[],.tuple #[],.tuple #[],.tuple #[]] H12))) (∃(I66:IT) (μ66:MT),I66 [iV 0] H3∧∀ w67 H14,I66 w67 H14->∀ g_68:Nat->Value,∃ n69,w67=[iV n69]∧cond (decide (n69<(l12:Int))) (((0:Int)<=n69∧n69<(l12:Int))∧∃ q70,a12=some q70∧∃ a71 l71 c71,ac H14 (q70.add (Int.toNat n69*1))=some (lV a71 l71 c71)∧((0:Int)<=n69∧n69<(l13:Int))∧∃ q72,a13=some q72∧∃ a73 l73 c73,ac H14 (q72.add (Int.toNat n69*1))=some (lV a73 l73 c73)∧cS 43 #[lV a71 l71 c71,lV a73 l73 c73] (fun v74 H15=>∃ b75,v74=.bool b75∧True∧cond (!b75) (Q (.bool false) H15) (I66 [iV (wW (n69+1))] H15∧μ66 [iV (wW (n69+1))] H15<μ66 w67 H14)) H14) (dJ Q #[iV n1,iV n2,lV a3 l3 c3,.tuple #[],.tuple #[],.tuple #[],(g_68 6),pV p5,.bool b6,lV a12 l12 c12,lV a13 l13 c13,iV n14,(g_11 12),(g_11 13),(g_11 14),iV n69,lV none 0 0,.tuple #[],.tuple #[],.tuple #[],.tuple #[],.tuple #[],.tuple #[],.tuple #[],.tuple #[],.tuple #[pV p5,.bool b6],iV n1,iV n2,.tuple #[pV p5,.bool b6],pV p5,.bool b6,pV p5,.bool false,.tuple #[],.tuple #[],.tuple #[],.tuple #[],iV n14,lV a3 l3 c3,iV (l3:Int),.bool (decide (n14<(l3:Int))),.bool false,.tuple #[],.tuple #[],.bool false,(g_11 45),(g_11 46),(g_11 47),(g_11 48),(g_11 49),(g_11 50),(g_11 51),(g_11 52),(g_11 53),(g_11 54),(g_11 55),(g_11 56),(g_11 57),(g_11 58),(g_11 59),(g_11 60),(g_11 61),(g_11 62),(g_11 63),(g_11 64),(g_11 65),(g_11 66),(g_11 67),(g_11 68),(g_11 69),(g_11 70),(g_11 71),(g_11 72),(g_11 73),(g_11 74),(g_11 75),(g_11 76),(g_11 77),(g_11 78),(g_11 79),(g_11 80),(g_11 81),(g_11 82),(g_11 83),(g_11 84),(g_11 85),(g_11 86),(g_11 87),(g_11 88),(g_11 89),(g_11 90),(g_11 91),(g_11 92),(g_11 93),(g_11 94),(g_11 95),(g_11 96),(g_11 97),(g_11 98),(g_11 99),(g_11 100),iV n69,lV a12 l12 c12,iV (l12:Int),.bool false,(g_68 105),(g_68 106),(g_68 107),(g_68 108),(g_68 109),(g_68 110),(g_68 111),(g_68 112),(g_68 113),(g_68 114),(g_68 115),(g_68 116),.tuple #[],.tuple #[],.tuple #[],.tuple #[],.tuple #[],.tuple #[],.tuple #[],.tuple #[],.tuple #[],.tuple #[],.tuple #[],.tuple #[],.tuple #[],.tuple #[],.tuple #[],.tuple #[],.tuple #[],.tuple #[],.tuple #[],.tuple #[],.tuple #[],.tuple #[],.tuple #[],.tuple #[],.tuple #[],.tuple #[],.tuple #[],.tuple #[],.tuple #[],.tuple #[],.tuple #[],.tuple #[],.tuple #[],.tuple #[],.tuple #[],.tuple #[],.tuple #[],.tuple #[],.tuple #[],.tuple #[],.tuple #[],.tuple #[],.tuple #[],.tuple #[],.tuple #[],.tuple #[],.tuple #[],.tuple #[],.tuple #[],.tuple #[],.tuple #[],.tuple #[],.tuple #[],.tuple #[],.tuple #[],.tuple #[],.tuple #[],.tuple #[],.tuple #[],.tuple #[],.tuple #[],.tuple #[],.tuple #[],.tuple #[],.tuple #[],.tuple #[],.tuple #[],.tuple #[],.tuple #[],.tuple #[],.tuple #[],.tuple #[],.tuple #[],.tuple #[],.tuple #[],.tuple #[],.tuple #[],.tuple #[],.tuple #[],.tuple #[],.tuple #[],.tuple #[],.tuple #[],.tuple #[],.tuple #[],.tuple #[],.tuple #[],.tuple #[],.tuple #[],.tuple #[],.tuple #[],.tuple #[],.tuple #[],.tuple #[],.tuple #[],.tuple #[],.tuple #[],.tuple #[],.tuple #[],.tuple #[],.tuple #[],.tuple #[],.tuple #[],.tuple #[],.tuple #[],.tuple #[],.tuple #[],.tuple #[],.tuple #[],.tuple #[],.tuple #[],.tuple #[],.tuple #[],.tuple #[],.tuple #[],.tuple #[],.tuple #[],.tuple #[],.tuple #[],.tuple #[],.tuple #[],.tuple #[]] H14)))) H
theorem Ps {n1:Int}{n2:Int}{a3:Option Addr}{l3:Nat}{c3:Nat} (h:k9 n1 n2 a3 l3 c3 Q H):ah PP 9 #[.int .i64 n1,.int .i64 n2,.slice a3 l3 c3] Q H :=
 aN good Tryz.func9 rfl (Ls:=fk) (by kernel_rfl) h
def cV (p1:Option Addr) (a2:Option Addr) (l2:Nat) (a3:Option Addr) (l3:Nat) (c3:Nat) (Q:QT) (H:aj):Prop :=
 ∃(I4:IT) (μ4:MT),I4 [iV 0] H∧∀ w5 H1,I4 w5 H1->∀ g_6:Nat->Value,∃ n7,w5=[iV n7]∧cond (decide (n7<(l2:Int))) (∃(I8:IT) (μ8:MT),I8 [iV 0] H1∧∀ w9 H2,I8 w9 H2->∀ g_10:Nat->Value,∃ n11,w9=[iV n11]∧((0:Int)<=n7∧n7<(l2:Int))∧∃ q12,a2=some q12∧∃ a13 l13 c13,ac H2 (q12.add (Int.toNat n7*1))=some (lV a13 l13 c13)∧cond (decide (n11<(l13:Int))) (((0:Int)<=n7∧n7<(l2:Int))∧∃ q14,a2=some q14∧∃ a15 l15 c15,ac H2 (q14.add (Int.toNat n7*1))=some (lV a15 l15 c15)∧cS 44 #[iV n7] (fun v16 H3=>∃ s17,v16=sV s17∧((ac H3 (q14.add (Int.toNat n7*1))=some (lV a15 l15 c15)∧True)∧True)∧((0:Int)<=n11∧n11<(l15:Int))∧∃ q18,a15=some q18∧Wr H3 (q18.add (Int.toNat n11*1))∧True∧I8 [iV (wW (n11+1))] (au H3 (q18.add (Int.toNat n11*1)) (sV s17))∧μ8 [iV (wW (n11+1))] (au H3 (q18.add (Int.toNat n11*1)) (sV s17))<μ8 w9 H2) H2) (I4 [iV (wW (n7+1))] H2∧μ4 [iV (wW (n7+1))] H2<μ4 w5 H1)) (∃(I19:IT) (μ19:MT),I19 [lV a3 l3 c3,iV 0] H1∧∀ w20 H4,I19 w20 H4->∀ g_21:Nat->Value,∃ a22 l22 c22 n23,w20=[lV a22 l22 c22,iV n23]∧cond (decide (n23<(l2:Int))) (((0:Int)<=n23∧n23<(l2:Int))∧∃ q24,a2=some q24∧∃ a25 l25 c25,ac H4 (q24.add (Int.toNat n23*1))=some (lV a25 l25 c25)∧cS 44 #[iV n23] (fun v26 H5=>∃ s27,v26=sV s27∧((ac H5 (q24.add (Int.toNat n23*1))=some (lV a25 l25 c25)∧True)∧True)∧cond (decide ((((⟨#[103]⟩:ByteArray).size+s27.size:Nat):Int) > IntKind.i64.max)) False (((ac (H5.push (.cells #[sV ((⟨#[103]⟩:ByteArray)++s27)] 9)) (q24.add (Int.toNat n23*1))=some (lV a25 l25 c25)∧True)∧True)∧bk PP (Builtin.append_ #[37,37] 37 #[lV a25 l25 c25,lV (some (A0 H5.size)) 1 1]) (fun v28 H6=>∃ a29 l29 c29,v28=lV a29 l29 c29∧True∧∃(I30:IT) (μ30:MT),I30 [lV a29 l29 c29,iV 0] H6∧∀ w31 H7,I30 w31 H7->∀ g_32:Nat->Value,∃ a33 l33 c33 n34,w31=[lV a33 l33 c33,iV n34]∧cond (decide (n34<40)) (cS 44 #[iV n23] (fun v35 H8=>∃ s36,v35=sV s36∧cond (decide ((((⟨#[103]⟩:ByteArray).size+s36.size:Nat):Int) > IntKind.i64.max)) False (bk PP (Builtin.append_ #[37,37] 37 #[lV a33 l33 c33,lV (some (A0 H8.size)) 1 1]) (fun v37 H9=>∃ a38 l38 c38,v37=lV a38 l38 c38∧I30 [lV a38 l38 c38,iV (wW (n34+1))] H9∧μ30 [lV a38 l38 c38,iV (wW (n34+1))] H9<μ30 w31 H7) (H8.push (.cells #[sV ((⟨#[103]⟩:ByteArray)++s36)] 9)))) H7) (bk PP (Builtin.append_ #[80,80] 80 #[lV a22 l22 c22,lV (some (A0 H7.size)) 1 1]) (fun v39 H10=>∃ a40 l40 c40,v39=lV a40 l40 c40∧I19 [lV a40 l40 c40,iV (wW (n23+1))] H10∧μ19 [lV a40 l40 c40,iV (wW (n23+1))] H10<μ19 w20 H4) (H7.push (.cells #[lV a33 l33 c33] 37)))) (H5.push (.cells #[sV ((⟨#[103]⟩:ByteArray)++s27)] 9)))) H4) (∃(I41:IT) (μ41:MT),I41 [iV 0] H4∧∀ w42 H11,I41 w42 H11->∀ g_43:Nat->Value,∃ n44,w42=[iV n44]∧cond (decide (n44<(l22:Int))) (((0:Int)<=n44∧n44<(l2:Int))∧∃ q45,a2=some q45∧∃ a46 l46 c46,ac H11 (q45.add (Int.toNat n44*1))=some (lV a46 l46 c46)∧∃(I47:IT) (μ47:MT),I47 [iV 0] H11∧∀ w48 H12,I47 w48 H12->∀ g_49:Nat->Value,∃ n50,w48=[iV n50]∧((0:Int)<=n44∧n44<(l22:Int))∧∃ q51,a22=some q51∧∃ a52 l52 c52,ac H12 (q51.add (Int.toNat n44*1))=some (lV a52 l52 c52)∧cond (decide (n50<(l52:Int))) (cond (decide (n50<(l46:Int))) (((0:Int)<=n44∧n44<(l22:Int))∧∃ q53,a22=some q53∧∃ a54 l54 c54,ac H12 (q53.add (Int.toNat n44*1))=some (lV a54 l54 c54)∧((0:Int)<=n50∧n50<(l54:Int))∧∃ q55,a54=some q55∧∃ s56,ac H12 (q55.add (Int.toNat n50*1))=some (sV s56)∧cS 44 #[iV n44] (fun v57 H13=>∃ s58,v57=sV s58∧((ac H13 (q55.add (Int.toNat n50*1))=some (sV s56)∧True)∧((ac H13 (q53.add (Int.toNat n44*1))=some (lV a54 l54 c54)∧True)∧True))∧cond (!(cQ s56 s58)) (Q (.bool false) H13) (((0:Int)<=n44∧n44<(l2:Int))∧∃ q59,a2=some q59∧∃ a60 l60 c60,ac H13 (q59.add (Int.toNat n44*1))=some (lV a60 l60 c60)∧((0:Int)<=n50∧n50<(l60:Int))∧∃ q61,a60=some q61∧∃ s62,ac H13 (q61.add (Int.toNat n50*1))=some (sV s62)∧cS 44 #[iV n44] (fun v63 H14=>∃ s64,v63=sV s64∧((ac H14 (q61.add (Int.toNat n50*1))=some (sV s62)∧True)∧((ac H14 (q59.add (Int.toNat n44*1))=some (lV a60 l60 c60)∧True)∧True))∧cond (!(cQ s62 s64)) (Q (.bool false) H14) (cond (decide (n50 ≥ (l46:Int))) (((0:Int)<=n44∧n44<(l22:Int))∧∃ q65,a22=some q65∧∃ a66 l66 c66,ac H14 (q65.add (Int.toNat n44*1))=some (lV a66 l66 c66)∧((0:Int)<=n50∧n50<(l66:Int))∧∃ q67,a66=some q67∧∃ s68,ac H14 (q67.add (Int.toNat n50*1))=some (sV s68)∧cS 44 #[iV n44] (fun v69 H15=>∃ s70,v69=sV s70∧((ac H15 (q67.add (Int.toNat n50*1))=some (sV s68)∧True)∧((ac H15 (q65.add (Int.toNat n44*1))=some (lV a66 l66 c66)∧True)∧True))∧cond (decide ((((⟨#[103]⟩:ByteArray).size+s70.size:Nat):Int) > IntKind.i64.max)) False (cond (!(cQ s68 ((⟨#[103]⟩:ByteArray)++s70))) (Q (.bool false) H15) (I47 [iV (wW (n50+1))] H15∧μ47 [iV (wW (n50+1))] H15<μ47 w48 H12))) H14) (I47 [iV (wW (n50+1))] H14∧μ47 [iV (wW (n50+1))] H14<μ47 w48 H12))) H13)) H12) (cond (decide (n50 ≥ (l46:Int))) (((0:Int)<=n44∧n44<(l22:Int))∧∃ q71,a22=some q71∧∃ a72 l72 c72,ac H12 (q71.add (Int.toNat n44*1))=some (lV a72 l72 c72)∧((0:Int)<=n50∧n50<(l72:Int))∧∃ q73,a72=some q73∧∃ s74,ac H12 (q73.add (Int.toNat n50*1))=some (sV s74)∧cS 44 #[iV n44] (fun v75 H16=>∃ s76,v75=sV s76∧((ac H16 (q73.add (Int.toNat n50*1))=some (sV s74)∧True)∧((ac H16 (q71.add (Int.toNat n44*1))=some (lV a72 l72 c72)∧True)∧True))∧cond (decide ((((⟨#[103]⟩:ByteArray).size+s76.size:Nat):Int) > IntKind.i64.max)) False (cond (!(cQ s74 ((⟨#[103]⟩:ByteArray)++s76))) (Q (.bool false) H16) (I47 [iV (wW (n50+1))] H16∧μ47 [iV (wW (n50+1))] H16<μ47 w48 H12))) H12) (I47 [iV (wW (n50+1))] H12∧μ47 [iV (wW (n50+1))] H12<μ47 w48 H12))) (I41 [iV (wW (n44+1))] H12∧μ41 [iV (wW (n44+1))] H12<μ41 w42 H11)) (cS 45 #[pV p1] (fun v77 H17=>∃ b78,v77=.bool b78∧cond b78 (cS 32 #[] (fun v79 H18=>∃ b80,v79=.bool b80∧Q (.bool b80) H18) H17) (Q (.bool false) H17)) H11)))
theorem eG {p1:Option Addr}{a2:Option Addr}{l2:Nat}{c2:Nat}{a3:Option Addr}{l3:Nat}{c3:Nat}{Ya Yb Yc Yd Ye Yf Yg Yi Yk Yl Ym Yn Yo Yp Yr Ys Yt Yu Yv Yw Yx Yy Yz YA YB YC YD YE YF YG YH YI YJ YK YL YM YN YO YP YQ YR YS YT YU YV YW YX YY YZ Y0 Y1 Y2 Y3 Y4 Y5 Y6 Y7 Y8 Y9 Za Zb Zc Zd Ze Zf Zg Zh Zi Zj Zk Zl Zm Zn Zo Zp Zq Zr Zs Zt Zu Zv Zw Zx Zy Zz ZA ZB ZC ZD ZE ZF ZG ZH ZI ZJ ZK ZL ZM ZN ZO ZP ZQ ZR ZS ZT ZU ZV ZW ZX ZY ZZ Z0 Z1 Z2 Z3 Z4 Z5 Z6 Z7 Z8 Z9 Xa Xb Xc Xd Xe Xf Xg Xh Xi Xj Xk Xl Xm Xn Xo Xp Xq Xr Xs Xt Xu Xv Xw Xx Xy Xz XA XB XC XD XE XF XG XH XI XJ XK XL XM XN XO XP XQ XR XS XT XU XV XW XX XY XZ X0 X1 X2 X3 X4 X5 X6 X7 X8 X9 Wa Wb Wc Wd We Wf Wg Wh Wi Wj Wk Wl Wm Wn Wo Wp Wq Ws Wt Wu Wv Ww Wx Wy Wz WA WB WC WD WE WF WG WH WI WJ WK WL WM WN WO WP WQ WR WS WT WU WV WW WX WY WZ W4 W5:Value} (h:cV p1 a2 l2 a3 l3 c3 Q H):dJ Q #[Ya,Yb,Yc,Yd,Ye,Yf,Yg,.pointer p1,Yi,.slice a2 l2 c2,Yk,Yl,Ym,Yn,Yo,Yp,.slice a3 l3 c3,Yr,Ys,Yt,Yu,Yv,Yw,Yx,Yy,Yz,YA,YB,YC,YD,YE,YF,YG,YH,YI,YJ,YK,YL,YM,YN,YO,YP,YQ,YR,YS,YT,YU,YV,YW,YX,YY,YZ,Y0,Y1,Y2,Y3,Y4,Y5,Y6,Y7,Y8,Y9,Za,Zb,Zc,Zd,Ze,Zf,Zg,Zh,Zi,Zj,Zk,Zl,Zm,Zn,Zo,Zp,Zq,Zr,Zs,Zt,Zu,Zv,Zw,Zx,Zy,Zz,ZA,ZB,ZC,ZD,ZE,ZF,ZG,ZH,ZI,ZJ,ZK,ZL,ZM,ZN,ZO,ZP,ZQ,ZR,ZS,ZT,ZU,ZV,ZW,ZX,ZY,ZZ,Z0,Z1,Z2,Z3,Z4,Z5,Z6,Z7,Z8,Z9,Xa,Xb,Xc,Xd,Xe,Xf,Xg,Xh,Xi,Xj,Xk,Xl,Xm,Xn,Xo,Xp,Xq,Xr,Xs,Xt,Xu,Xv,Xw,Xx,Xy,Xz,XA,XB,XC,XD,XE,XF,XG,XH,XI,XJ,XK,XL,XM,XN,XO,XP,XQ,XR,XS,XT,XU,XV,XW,XX,XY,XZ,X0,X1,X2,X3,X4,X5,X6,X7,X8,X9,Wa,Wb,Wc,Wd,We,Wf,Wg,Wh,Wi,Wj,Wk,Wl,Wm,Wn,Wo,Wp,Wq,Ws,Wt,Wu,Wv,Ww,Wx,Wy,Wz,WA,WB,WC,WD,WE,WF,WG,WH,WI,WJ,WK,WL,WM,WN,WO,WP,WQ,WR,WS,WT,WU,WV,WW,WX,WY,WZ,W4,W5] H :=
 Qz (by kernel_rfl) h
end Go.Proofs.YtmkdkplipbocjaaGreatDoor
namespace Go.Proofs.YtmkdkplipbocjaaGreatDoor
open Kw
structure AQ (H:aj) (a0:Option Addr) (l:Nat) (K U:ay) (hs:Nat->Hd) (fs:Nat->ay) (xs:Nat->List Value):Prop where
 ltK:∀ b∈K,b<H.size
 ltU:∀ b∈U,b<H.size
 dUK:bi U K
 sub:∀ i,i<l->∀ b∈fs i,b∈U
 dis:∀ i j,i<l->j<l->i≠j->bi (fs i) (fs j)
 cell:∀ i,i<l->∃ b,a0=some ⟨b,0,none⟩∧b∈K∧ac H ⟨b,i,none⟩=some (Ci (hs i))
 own:∀ i,i<l->bv 1 H (hs i).1 (hs i).2.1 (hs i).2.2 (xs i) (fs i)
 bnd:∀ i,i<l->(hs i).2.1<=100000000
section
variable {H H':aj}{a0:Option Addr}{l:Nat}{K U:ay}{hs:Nat->Hd}{fs:Nat->ay}{xs:Nat->List Value}{Q:QT}
theorem AQ.keep (h:AQ H a0 l K U hs fs xs){G:ay} (f:Fr G H H') (hK:∀ b∈G,b∉K) (hU:∀ b∈G,b∉U):AQ H' a0 l K U hs fs xs :=
 ⟨fun b hb=>Nat.lt_of_lt_of_le (h.ltK b hb) f.1,fun b hb=>Nat.lt_of_lt_of_le (h.ltU b hb) f.1,h.dUK,h.sub,h.dis,fun i hi=>by
  obtain ⟨b,h1,h2,h3⟩:=h.cell i hi
  exact ⟨b,h1,h2,by rw [bz f (fun hm=>hK _ hm h2) (h.ltK b h2)];exact h3⟩,fun i hi=>(h.own i hi).fr f fun b hb hm=>hU b hm (h.sub i hi b hb),h.bnd⟩
theorem AQ.nil (h:AQ H a0 l K U hs fs xs) (f:Fr [] H H'):AQ H' a0 l K U hs fs xs:=h.keep f (by simp) (by simp)
theorem AQ.set (h:AQ H a0 l K U hs fs xs){i:Nat} (hi:i<l) (f:Fr (fs i) H H'){y:List Value} (ho:bv 1 H' (hs i).1 (hs i).2.1 (hs i).2.2 y (fs i)):AQ H' a0 l K U hs fs (upd xs i y):=by
 have nk:∀ b∈fs i,b∉K:=fun b hb=>h.dUK b (h.sub i hi b hb)
 refine ⟨fun b hb=>Nat.lt_of_lt_of_le (h.ltK b hb) f.1,fun b hb=>Nat.lt_of_lt_of_le (h.ltU b hb) f.1,h.dUK,h.sub,h.dis,fun j hj=>?_,fun j hj=>?_,h.bnd⟩
 ·obtain ⟨b,h1,h2,h3⟩:=h.cell j hj
  exact ⟨b,h1,h2,by rw [bz f (fun hm=>nk _ hm h2) (h.ltK b h2)];exact h3⟩
 ·by_cases e:j=i
  ·subst e
   rw [nE];exact ho
  ·rw [nX _ _ e]
   exact (h.own j hj).fr f (h.dis j i hj hi e)
theorem AQ.head (h:AQ H a0 l K U hs fs xs){b i:Nat} (hb:a0=some ⟨b,0,none⟩) (hi:i<l):ac H ((⟨b,0,none⟩:Addr).add (i*1))=some (Ci (hs i)):=by
 obtain ⟨b',h1,_,h3⟩:=h.cell i hi
 rw [hb] at h1
 cases h1
 rw [Nat.mul_one,ao,Nat.zero_add]
 exact h3
theorem AQ.same (h:AQ H a0 l K U hs fs xs){i:Nat}:upd xs i (xs i)=xs:=by
 funext j
 unfold upd
 split
 ·rename_i e;rw [e]
 ·rfl
structure QH (H0 H:aj) (a0:Option Addr) (l:Nat) (K U:ay) (hs:Nat->Hd) (fs:Nat->ay) (xs:Nat->List Value) (g:Nat->Value) (i:Nat) (a:Option Addr) (cc:Nat):Prop where
 ap:AQ H a0 l K U hs fs xs
 fr:Fr U H0 H
 mo:∃(hm:Nat->Hd) (fm:Nat->ay) (GT:ay),bv 1 H a i cc ((List.range i).map fun j=>Ci (hm j)) GT∧(∀ b∈GT,H0.size<=b)∧∀ j,j<i->bv 1 H (hm j).1 (hm j).2.1 (hm j).2.2 (xs j++List.replicate 41 (g j)) (fm j)∧(∀ b∈fm j,b∈fs j∨H0.size<=b)∧bi (fm j) GT
theorem QH.start (h:AQ H a0 l K U hs fs xs) (g:Nat->Value):QH H H a0 l K U hs fs xs g 0 none 0:=⟨h,Fr.refl _ _,fun _=>(none,0,0),fun _=>[],[],bv.nil 1 H,by simp,fun j hj=>by omega⟩
theorem QH.app {P:Program}{T T' T0 bs:Nat}{z:Value}{e0:TypeId}{Q:QT}{H0:aj}{g:Nat->Value}{i cc:Nat}{a:Option Addr} (hlt:(∀ b∈K,b<H0.size)∧∀ b∈U,b<H0.size)
  (h:QH H0 H a0 l K U hs fs xs g i a cc) (hi:i<l){a2:Option Addr}{l2 c2:Nat}{GL:ay} (gr:Grown H H' (hs i) (fs i) (xs i) (List.replicate 41 (g i)) a2 c2 GL) (hl2:l2=(hs i).2.1+41)
  (hs1:aF P T=some (1,bs,some z)) (hz:z.cells.size=1) (hT:ii P T'=true) (hl:i<274877906944) (hbs:bs<=128) (hbs0:bs≠0)
  (hq:∀ a' c' H2,QH H0 H2 a0 l K U hs fs xs g (i+1) a' c'->Q (.slice a' (i+1) c') H2) :
  bk P (Builtin.append_ #[T,T'] T0 #[.slice a i cc,.slice (some ⟨H'.size,0,none⟩) 1 1]) Q (H'.push (.cells #[.slice a2 l2 c2] e0)):=by
 obtain ⟨hm,fm,GT,ho,hG,hj⟩:=h.mo
 have hs0:=h.fr.1
 have hs2:=gr.up.1.1
 have subU:∀ b∈fs i,b∈U:=h.ap.sub i hi
 have fsub:∀ b∈fs i,b<H0.size:=fun b hb=>hlt.2 b (subU b hb)
 have hltG:=ho.lt
 have ho':=ho.fr gr.up.1 fun b hb hm=>by have:=hG b hb;have:=fsub b hm;omega
 have ap':AQ H' a0 l K U hs fs xs:=by
  have:=h.ap.set hi gr.up.1 gr.old
  rw [h.ap.same] at this
  exact this
 refine bg hs1 hz hT ho' rfl (by simp [cC]) hl hbs hbs0 fun a' c' GT' H2 hoN hu hltN=>hq a' c' H2 ?_
 have hGT':∀ b∈GT',H0.size<=b:=fun b hb=>by
  rcases hu.2 b hb with h1 | h1
  ·exact hG b h1
  ·omega
 have frU:Fr U H0 H':=⟨by omega,fun b hb hn=>by rw [gr.up.1.2 b (by omega) fun hm=>hn (subU b hm),h.fr.2 b hb hn]⟩
 refine ⟨ap'.keep hu.1 (fun b hb hk=>by have:=hG b hb;have:=hlt.1 b hk;omega) (fun b hb hk=>by have:=hG b hb;have:=hlt.2 b hk;omega),⟨by have:=hu.1.1;omega,fun b hb hn=>by rw [hu.1.2 b (by omega) fun hm=>by have:=hG b hm;omega,frU.2 b hb hn]⟩,?_⟩
 have ltGL:=gr.new.lt
 have dGL:bi GL GT:=fun b hb hm=>by
  rcases gr.up.2 b hb with h1 | h1
  ·have:=fsub b h1;have:=hG b hm;omega
  ·have:=hltG b hm;omega
 have dNew:∀ {F:ay},(∀ b∈F,b<H'.size)->bi F GT->bi F GT':=fun hF hd b hb hm=>by
  rcases hu.2 b hm with h1 | h1
  ·exact hd b hb h1
  ·have:=hF b hb;omega
 refine ⟨upd hm i (a2,l2,c2),upd fm i GL,GT',?_,hGT',fun j hji=>?_⟩
 ·have e:(List.range (i+1)).map (fun j=>Ci (upd hm i (a2,l2,c2) j))=(List.range i).map (fun j=>Ci (hm j))++[.slice a2 l2 c2]:=by
   rw [List.range_succ,List.map_append,List.map_singleton,nE]
   congr 1
   refine List.map_congr_left fun j hj=>?_
   rw [nX _ _ (by have:=List.mem_range.1 hj;omega)]
  rw [e]
  exact hoN
 ·by_cases e:j=i
  ·subst e
   rw [nE,nE,hl2]
   refine ⟨?_,fun b hb=>?_,dNew ltGL dGL⟩
   ·have:=gr.new.fr hu.1 dGL
    simpa using this
   ·rcases gr.up.2 b hb with h1 | h1
    ·exact .inl h1
    ·exact .inr (by omega)
  ·rw [nX _ _ e,nX _ _ e]
   obtain ⟨q1,q2,q3⟩:=hj j (by omega)
   have ltm:=q1.lt
   have d1:bi (fm j) (fs i):=fun b hb hm=>by
    rcases q2 b hb with h1 | h1
    ·exact h.ap.dis j i (by omega) hi e b h1 hm
    ·have:=fsub b hm;omega
   have q4:=q1.fr gr.up.1 d1
   exact ⟨q4.fr hu.1 q3,q2,dNew q4.lt q3⟩
theorem QH.more {H0:aj}{g:Nat->Value}{i cc:Nat}{a:Option Addr} (h:QH H0 H a0 l K U hs fs xs g i a cc)  (hi:i=l):∃ hm KM,More H a i hm (fun j=>xs j++List.replicate 41 (g j)) KM∧(∀ j,j<i->(hm j).2.1=(hs j).2.1+41):=by
 obtain ⟨hm,fm,GT,ho,hG,hj⟩:=h.mo
 refine ⟨hm,GT++(List.range i).flatMap fm,⟨fun j hji=>?_,fun j hji=>?_⟩,fun j hji=>?_⟩
 ·rcases ho.2.2 with ⟨_,h1,_⟩ | ⟨b,cs,rfl,rfl,_⟩
  ·have:=ho.2.1;omega
  ·refine ⟨b,rfl,by simp,?_⟩
   have:=ho.rd.2.2 _ rfl j (by omega)
   rw [ao,Nat.zero_add] at this
   rw [this]
   simp [List.getElem?_range hji]
 ·obtain ⟨q1,q2,q3⟩:=hj j hji
  refine ⟨q1.rd,fun p hp=>List.mem_append.2 (.inr (List.mem_flatMap.2 ⟨j,List.mem_range.2 hji,?_⟩))⟩
  rcases q1.2.2 with ⟨h1,_⟩ | ⟨b,cs,h1,h2,_⟩
  ·rw [h1] at hp;cases hp
  ·rw [h1] at hp;cases hp
   rw [h2];simp
 ·obtain ⟨q1,q2,q3⟩:=hj j hji
  have e1:=q1.len
  have e2:=(h.ap.own j (by omega)).len
  simp only [List.length_append,List.length_replicate] at e1
  omega
theorem mi {n:Int} (h:∀ H' s,s=vy [109,IntKind.wrap .u8 (eZ .i64 n 8),IntKind.wrap .u8 n]->Fr [] H H'->Q (.string s) H'):ah PP Md #[.int .i64 n] Q H:=by
 apply Gq
 unfold Rb A0 sV lV
 exact wI (e:=5) (by kernel_rfl) (by kernel_rfl) (by kernel_rfl) (bA.new H _ _) ⟨_,rfl,h _ _ rfl (Fr.push _ _ _)⟩
end
section
variable {H H':aj}{a0:Option Addr}{l:Nat}{K U:ay}{hs:Nat->Hd}{fs:Nat->ay}{xs:Nat->List Value}{Q:QT}
theorem ye {p1:Option Addr} (ap:AQ H a0 l K U hs fs xs) (hl:l<=100000) (h:∀ H',Fr U H H'->ah PP D9 #[.pointer p1] (fun v77 H17=>∃ b78:Bool,v77=.bool b78∧cond b78 (ah PP uR #[] (fun v79 H18=>∃ b80:Bool,v79=.bool b80∧Q (.bool b80) H18) H17) (Q (.bool false) H17)) H') :
  cV p1 a0 l none 0 0 Q H:=by
 have hsT:aF PP 37=some (1,16,some (.string (⟨#[]⟩:ByteArray))):=by kernel_rfl
 have hsTT:aF PP 80=some (1,24,some (.slice none 0 0)):=by kernel_rfl
 unfold cV A0 iV wW pV sV lV cS
 refine ⟨fun w H'=>∃(i:Nat) (xs':Nat->List Value),w=[.int .i64 i]∧i<=l∧AQ H' a0 l K U hs fs xs'∧(∀ j,j<i->xs' j=List.replicate (hs j).2.1 (tK j))∧Fr U H H',fun w _=>match w with
  | [.int _ i]=>((l:Int)-i).toNat
  | _=>0,⟨0,xs,rfl,by omega,ap,fun j hj=>by omega,Fr.refl _ _⟩,?_⟩
 clear ap
 rintro w H1 ⟨i,xs1,rfl,hi,aw1,hx1,fr1⟩ _
 refine ⟨_,rfl,gF (fun hlt=>?_) fun hge=>?_⟩
 ·have hi2:i<l:=by omega
  have hb:=aw1.bnd i hi2
  have e1:IntKind.wrap .i64 ((i:Int)+1)=((i+1:Nat):Int):=by rw [am (by omega) (by omega)];omega
  rw [e1,Int.toNat_natCast]
  obtain ⟨b,hbe,_,_⟩:=aw1.cell i hi2
  have bd2:((0:Int)<=(i:Int)∧(i:Int)<(l:Int)):=⟨by omega,hlt⟩
  refine ⟨fun w H'=>∃(j:Nat) (xs':Nat->List Value) (rest:List Value),w=[.int .i64 j]∧j<=(hs i).2.1∧AQ H' a0 l K U hs fs xs'∧(∀ k,k<i->xs' k=List.replicate (hs k).2.1 (tK k))∧xs' i=List.replicate j (tK i)++rest∧Fr U H H',fun w _=>match w with
   | [.int _ j]=>(((hs i).2.1:Int)-j).toNat
   | _=>0,⟨0,xs1,xs1 i,rfl,by omega,aw1,hx1,rfl,fr1⟩,?_⟩
  rintro w H2 ⟨j,xs2,rest,rfl,hj,aw2,hx2,hr2,fr2⟩ _
  refine ⟨_,rfl,bd2,_,hbe,_,_,_,aw2.head hbe hi2,gF (fun hlt2=>?_) fun hge2=>?_⟩
  ·have e4:IntKind.wrap .i64 ((j:Int)+1)=((j+1:Nat):Int):=by rw [am (by omega) (by omega)];omega
   rw [e4,Int.toNat_natCast]
   refine ⟨bd2,_,hbe,_,_,_,aw2.head hbe hi2,mi fun H3 s3 hs3 f3=>?_⟩
   have aw3:=aw2.nil f3
   have hjl:j<(hs i).2.1:=by omega
   have ho3:=aw3.own i hi2
   obtain ⟨bb,hbb,hw,hf,hput⟩:=bv.put ho3 hjl (.string s3)
   have es3:s3=uy i:=hs3
   refine ⟨_,rfl,⟨⟨aw3.head hbe hi2,trivial⟩,trivial⟩,⟨by omega,hlt2⟩,_,hbb,?_⟩
   rw [ao,Nat.zero_add,Nat.mul_one]
   have hlen:=ho3.len
   rw [hr2] at hlen
   simp only [List.length_append,List.length_replicate,Nat.mul_one] at hlen
   cases rest with
   | nil=>simp at hlen;omega
   | cons r rest =>
    refine ⟨hw,trivial,⟨j+1,_,rest,rfl,by omega,aw3.set hi2 hf hput,fun k hk=>?_,?_,?_⟩,by simp;omega⟩
    ·rw [nX _ _ (by omega)];exact hx2 k hk
    ·rw [nE,hr2,es3];exact Cg
    ·exact (fr2.trans (Fr.of_nil f3)).trans (hf.mono fun y hy=>aw3.sub i hi2 y hy)
  ·have ej:j=(hs i).2.1:=by omega
   have hlen:=(aw2.own i hi2).len
   rw [hr2] at hlen
   simp only [List.length_append,List.length_replicate,Nat.mul_one] at hlen
   have er:rest=[]:=List.eq_nil_of_length_eq_zero (by omega)
   refine ⟨⟨i+1,xs2,rfl,by omega,aw2,fun k hk=>?_,fr2⟩,by simp;omega⟩
   by_cases ek:k=i
   ·subst ek;rw [hr2,er,List.append_nil,ej]
   ·exact hx2 k (by omega)
 have eT:i=l:=by omega
 subst eT
 refine ⟨fun w H'=>∃(j:Nat) (a:Option Addr) (c:Nat),w=[.slice a j c,.int .i64 j]∧j<=i∧QH H1 H' a0 i K U hs fs xs1 nH j a c,fun w _=>match w with
  | [_,.int _ j]=>((i:Int)-j).toNat
  | _=>0,⟨0,none,0,rfl,by omega,QH.start aw1 _⟩,?_⟩
 generalize i=l at *
 rintro w H4 ⟨i,aT,cT,rfl,hi,hP⟩ _
 have aw4:=hP.ap
 refine ⟨_,_,_,_,rfl,gF (fun hlt=>?_) fun hge=>?_⟩
 ·have hi2:i<l:=by omega
  have hb:=aw4.bnd i hi2
  have e1:IntKind.wrap .i64 ((i:Int)+1)=((i+1:Nat):Int):=by rw [am (by omega) (by omega)];omega
  rw [e1,Int.toNat_natCast]
  obtain ⟨b,hbe,_,_⟩:=aw4.cell i hi2
  have bd2:((0:Int)<=(i:Int)∧(i:Int)<(l:Int)):=⟨by omega,hlt⟩
  refine ⟨bd2,_,hbe,_,_,_,aw4.head hbe hi2,mi fun H5 s2 hs2 f2=>?_⟩
  have es2:s2=uy i:=hs2
  have aw5:=aw4.nil f2
  have aw5p:=aw5.nil (Fr.push [] H5 (.cells #[.string ((⟨#[103]⟩:ByteArray)++s2)] 9))
  refine ⟨_,rfl,⟨⟨aw5.head hbe hi2,trivial⟩,trivial⟩,zu (by rw [es2];exact lX i) ⟨⟨⟨aw5p.head hbe hi2,trivial⟩,trivial⟩,?_⟩⟩
  refine ((Grown.start (aw4.own i hi2)).nil f2).app (by simp) hsT rfl (by kernel_rfl) rfl (by omega) (by decide) (by decide) fun a3 c3 G3 H6 g3=>⟨_,_,_,rfl,trivial,?_⟩
  refine ⟨fun w H'=>∃(j:Nat) (a:Option Addr) (c:Nat) (G:ay),w=[.slice a ((hs i).2.1+(1+j)) c,.int .i64 j]∧j<=40∧Grown H4 H' (hs i) (fs i) (xs1 i) (List.replicate (1+j) (nH i)) a c G,fun w _=>match w with
   | [_,.int _ j]=>((40:Int)-j).toNat
   | _=>0,⟨0,a3,c3,G3,rfl,by omega,?_⟩,?_⟩
  ·rw [es2] at g3;exact g3
  rintro w H7 ⟨j,a4,c4,G4,rfl,hj,g4⟩ _
  refine ⟨_,_,_,_,rfl,gF (fun hj2=>?_) fun hj2=>?_⟩
  ·have e4:IntKind.wrap .i64 ((j:Int)+1)=((j+1:Nat):Int):=by rw [am (by omega) (by omega)];omega
   rw [e4]
   refine mi fun H8 s5 hs5 f5=>⟨_,rfl,zu (by rw [hs5];exact lX i) ?_⟩
   refine (g4.nil f5).app (by simp) hsT rfl (by kernel_rfl) rfl (by omega) (by decide) (by decide) fun a6 c6 G6 H9 g6=>⟨_,_,_,rfl,⟨j+1,a6,c6,G6,rfl,by omega,?_⟩,by simp;omega⟩
   rw [hs5] at g6
   have e5:List.replicate (1+j) (nH i)++[nH i]=List.replicate (1+(j+1)) (nH i):=yB
   rw [←e5]
   exact g6
  ·have ej:j=40:=by omega
   subst ej
   refine QH.app ⟨aw1.ltK,aw1.ltU⟩ hP hi2 g4 rfl hsTT rfl (by kernel_rfl) (by omega) (by decide) (by decide) fun a7 c7 H10 hP7=>⟨_,_,_,rfl,⟨i+1,a7,c7,rfl,by omega,hP7⟩,by simp;omega⟩
 have eT:i=l:=by omega
 subst eT
 obtain ⟨hm,KM,mo,hlm⟩:=hP.more rfl
 have frT:=hP.fr
 clear hP
 refine ⟨fun w H'=>∃ j:Nat,w=[.int .i64 j]∧j<=i∧Fr [] H4 H',fun w _=>match w with
  | [.int _ j]=>((i:Int)-j).toNat
  | _=>0,⟨0,rfl,by omega,Fr.refl _ _⟩,?_⟩
 generalize i=l at *
 rintro w H5 ⟨i,rfl,hi,f1⟩ _
 refine ⟨_,rfl,gF (fun hlt=>?_) fun _=>h _ ((fr1.trans frT).trans (Fr.of_nil f1))⟩
 have hi2:i<l:=by omega
 have hb:=aw4.bnd i hi2
 have e1:IntKind.wrap .i64 ((i:Int)+1)=((i+1:Nat):Int):=by rw [am (by omega) (by omega)];omega
 rw [e1,Int.toNat_natCast]
 obtain ⟨b,hbe,_,_⟩:=aw4.cell i hi2
 obtain ⟨bm,hbm,_,_⟩:=mo.cell i hi2
 have bd:((0:Int)<=(i:Int)∧(i:Int)<(l:Int)):=⟨by omega,hlt⟩
 have hlmi:=hlm i hi2
 have hyi:xs1 i++List.replicate 41 (nH i)=List.replicate (hs i).2.1 (tK i)++List.replicate 41 (nH i):=by rw [hx1 i hi2]
 have aw5:=aw4.nil f1
 refine ⟨bd,_,hbe,_,_,_,aw5.head hbe hi2,?_⟩
 refine ⟨fun w H'=>∃ j:Nat,w=[.int .i64 j]∧j<=(hm i).2.1∧Fr [] H4 H',fun w _=>match w with
  | [.int _ j]=>(((hm i).2.1:Int)-j).toNat
  | _=>0,⟨0,rfl,by omega,f1⟩,?_⟩
 rintro w H6 ⟨j,rfl,hj,f2⟩ _
 have mo2:=mo.nil f2
 have aw2:=aw4.nil f2
 refine ⟨_,rfl,bd,_,hbm,_,_,_,mo2.head hbm hi2,gF (fun hlt2=>?_) fun _=>⟨⟨i+1,rfl,by omega,f2⟩,by simp;omega⟩⟩
 have e4:IntKind.wrap .i64 ((j:Int)+1)=((j+1:Nat):Int):=by rw [am (by omega) (by omega)];omega
 rw [e4,Int.toNat_natCast]
 have hjl:j<(hm i).2.1:=by omega
 obtain ⟨p,hp,hc⟩:=Pr (mo2.rd i hi2).1 hjl
 rw [EE hyi (by omega)] at hc
 have bdj:((0:Int)<=(j:Int)∧(j:Int)<((hm i).2.1:Int)):=⟨by omega,hlt2⟩
 have go:∀ {H':aj},Fr [] H4 H'->(∃ j_1:Nat,[Value.int .i64 ((j+1:Nat):Int)]=[.int .i64 (j_1:Int)]∧j_1<=(hm i).2.1∧Fr [] H4 H')∧((((hm i).2.1:Int)-((j+1:Nat):Int)).toNat)<(((hm i).2.1:Int)-(j:Int)).toNat:=fun f=>⟨⟨j+1,rfl,by omega,f⟩,by omega⟩
 refine gF (fun h3=>?_) fun h3=>gF (fun h4=>?_) fun h4=>go f2
 ·rw [if_pos (by omega)] at hc
  have hjs:j<(hs i).2.1:=by omega
  obtain ⟨p2,hp2,hc2⟩:=Pr (aw2.own i hi2).rd hjs
  rw [hx1 i hi2,List.getElem?_replicate_of_lt hjs] at hc2
  refine ⟨bd,_,hbm,_,_,_,mo2.head hbm hi2,bdj,_,hp,_,hc,mi fun H7 s3 hs3 f3=>?_⟩
  have aw3:=aw2.nil f3
  have mo3:=mo2.nil f3
  have hc3:=jH f3 hc2
  refine ⟨_,rfl,⟨⟨jH f3 hc,trivial⟩,⟨mo3.head hbm hi2,trivial⟩,trivial⟩,yO hs3.symm ⟨bd,_,hbe,_,_,_,aw3.head hbe hi2,⟨by omega,h3⟩,_,hp2,_,hc3,mi fun H8 s4 hs4 f4=>?_⟩⟩
  have aw4:=aw3.nil f4
  exact ⟨_,rfl,⟨⟨jH f4 hc3,trivial⟩,⟨aw4.head hbe hi2,trivial⟩,trivial⟩,yO hs4.symm (gF (fun h4=>by omega) fun _=>go ((f2.trans f3).trans f4))⟩
 ·rw [if_neg (by omega)] at hc
  refine ⟨bd,_,hbm,_,_,_,mo2.head hbm hi2,bdj,_,hp,_,hc,mi fun H7 s3 hs3 f3=>?_⟩
  have hs3':s3=uy i:=hs3
  exact ⟨_,rfl,⟨⟨jH f3 hc,trivial⟩,⟨(mo2.nil f3).head hbm hi2,trivial⟩,trivial⟩,zu (by rw [hs3'];exact lX i) (yO (by rw [hs3'];rfl) (go (f2.trans f3)))⟩
end
section
variable {H H1 H2:aj}{bb b mb rb br x:Nat}{F Fp Fq G:ay}{s:SP}{t:TB}{v:KV}{es:List ((Int × Int) × Value)}{seen:List (Int × Int)}{hits:Int}{n:Nat}{Q:QT}
theorem BA (hB:Bo H x bb b rb br mb Fp Fq G s t v es seen hits n) (h:∀ H',Fr [] H H'->Q (.bool true) H'):ah PP D9 #[.pointer (some ⟨x,0,none⟩)] Q H:=by
 have hm1:=hB.va.ks.shape.many1
 apply Iu
 unfold RI iV wW pV sV lV cS
 refine ⟨_,rfl,_,hB.x2,pN hB.r.k hB.va.ks fun al ll cl Gl H1 hol f1 hGl=>⟨_,_,_,rfl,?_⟩⟩
 have hll:ll=v.cls.length:=by have:=hol.len;simpa [aq,gh] using this.symm
 refine ⟨fun w H'=>∃ i:Nat,w=[.int .i64 i]∧i<=ll∧Fr [] H1 H',fun w _=>match w with
  | [.int _ i]=>((ll:Int)-i).toNat
  | _=>0,⟨0,rfl,Nat.zero_le _,Fr.refl _ _⟩,?_⟩
 rintro w H2 ⟨i,rfl,hi,f2⟩ _
 have hB2:=hB.nil (f1.trans f2)
 refine ⟨_,rfl,?_⟩
 rw [ae]
 refine aA (fun hlt=>?_) fun hlt=>?_
 ·have hlt':i<v.cls.length:=by omega
  have e:IntKind.wrap .i64 ((i:Int)+1)=((i+1:Nat):Int):=by rw [am (by omega) (by omega)];omega
  obtain ⟨p,rfl,hcell⟩:=jG hol f2 hlt'
  refine ⟨_,rfl,_,hB2.x3,⟨by omega,hlt⟩,_,rfl,_,by rw [Int.toNat_natCast];exact hcell,rI hB2.r.k hB2.va hB2.kd hB2.r.kp fun a l c Ga H3 ho f3 hGa=>⟨_,_,_,rfl,trivial,?_⟩⟩
  have hB3:=hB2.nil f3
  have hc3:=fX f3 hcell
  refine ⟨_,rfl,_,hB3.x1,⟨by omega,hlt⟩,_,rfl,_,by rw [Int.toNat_natCast];exact hc3,rP hB3.p.k hB3.va hB3.kd hB3.p.kp fun a' l' c' Gb H4 ho' f4 hGb=>⟨_,_,_,rfl,trivial,?_⟩⟩
  have hsl:=oH hB.kd hB.va.names.wf (v.cls[i]).oop
  have hl1:l=(qJ v t (v.cls[i]).oop).length:=by have:=ho.len;simpa [aO] using this.symm
  have hl2:l'=(qJ v t (v.cls[i]).oop).length:=by have:=ho'.len;simpa [aO] using this.symm
  have ho4:=ho.fr f4 (by simp)
  refine rJ ho'.rd ho4.rd (by omega) ⟨_,rfl,trivial,?_⟩
  rw [decide_eq_true rfl]
  simp only [Bool.not_true,cond_false]
  rw [e]
  refine ⟨fun w H'=>∃ j:Nat,w=[.int .i64 j]∧j<=l∧Fr [] H4 H',fun w _=>match w with
   | [.int _ j]=>((l:Int)-j).toNat
   | _=>0,⟨0,rfl,Nat.zero_le _,Fr.refl _ _⟩,?_⟩
  rintro w H5 ⟨j,rfl,hj,f5⟩ _
  have hB5:=(hB3.nil f4).nil f5
  have hc5:=fX f5 (fX f4 hc3)
  refine ⟨_,rfl,?_⟩
  rw [ae]
  refine aA (fun hjl=>?_) fun hjl=>?_
  ·have e5:IntKind.wrap .i64 ((j:Int)+1)=((j+1:Nat):Int):=by rw [am (by omega) (by omega)];omega
   obtain ⟨p2,hp2,rfl,q2⟩:=(ho4.fr f5 (by simp)).rd.str (i:=(j:Int)) (by omega) (by omega)
   generalize (qJ v t (v.cls[i]).oop)[((j:Int)).toNat]'hp2=y at q2
   rw [Int.toNat_natCast] at q2
   refine ⟨_,rfl,_,hB5.x1,⟨by omega,hlt⟩,_,rfl,_,by rw [Int.toNat_natCast];exact hc5,⟨by omega,hjl⟩,_,rfl,_,by rw [Int.toNat_natCast,Nat.mul_one];exact q2,xD hB5.p.k hB5.va hB5.kd hB5.p.kp fun H6 f6=>⟨_,_,rfl,trivial,?_⟩⟩
   have hB6:=hB5.nil f6
   refine ⟨_,rfl,_,hB6.x3,⟨by omega,hlt⟩,_,rfl,_,by rw [Int.toNat_natCast];exact fX f6 hc5,⟨by omega,hjl⟩,_,rfl,_,by rw [Int.toNat_natCast,Nat.mul_one];exact fX f6 q2,x9 hB6.r.k hB6.va hB6.kd hB6.r.kp fun H7 f7=>⟨_,_,rfl,trivial,?_⟩⟩
   rw [bf,ae,if_neg (fun hn=>hn rfl)]
   refine dW ⟨_,rfl,?_⟩
   rw [bf,ae,if_neg (fun hn=>hn rfl),e5]
   exact ⟨⟨j+1,rfl,by omega,(f5.trans f6).trans f7⟩,by simp;omega⟩
  ·exact ⟨⟨i+1,rfl,by omega,((f2.trans f3).trans f4).trans f5⟩,by simp;omega⟩
 ·refine ⟨_,rfl,_,hB2.x0,eL hB2.p.k fun sbp Fsp hcsp hSp _ _ _=>⟨_,rfl,xZ hSp fun H3 f3=>⟨_,_,rfl,?_⟩⟩⟩
  have hB3:=hB2.nil f3
  obtain ⟨sq,F1,hcs,hSq,_⟩:=hB3.r.k.sp
  refine ⟨_,rfl,_,hB3.x2,_,rfl,_,hcs,zi hSq fun H4 f4=>⟨_,_,rfl,?_⟩⟩
  refine dz (fun _=>dz (fun _=>?_) fun hn=>absurd rfl hn) fun hn=>absurd rfl hn
  have hB4:=hB3.nil f4
  obtain ⟨sb,hq,Fh,hcs4,hch,hRR,_⟩:=hB4.r.k.hp
  refine ⟨_,rfl,_,hB4.x0,_,rfl,_,hB4.x2,_,rfl,_,hcs4,_,rfl,_,hch,eL hB4.p.k fun sbp Fsp hcsp hSp _ _ _=>⟨_,rfl,⟨⟨hch,trivial⟩,⟨hcs4,trivial⟩,⟨hB4.x2,trivial⟩,trivial⟩,cU hSp fun hbp Fhp hRp _ _=>⟨_,rfl,⟨⟨hch,trivial⟩,⟨hcs4,trivial⟩,⟨hB4.x2,trivial⟩,trivial⟩,pR hRp ⟨_,rfl,⟨⟨hch,trivial⟩,⟨hcs4,trivial⟩,⟨hB4.x2,trivial⟩,trivial⟩,qH hRR ⟨_,rfl,trivial,dz (fun _=>?_) fun hn=>absurd rfl hn⟩⟩⟩⟩⟩
  refine ⟨_,rfl,_,hB4.x0,eL hB4.p.k fun sbp Fsp hcsp hSp _ _ _=>⟨_,rfl,trivial,jt hSp fun ak ck H5 _ f5=>⟨_,_,_,rfl,trivial,?_⟩⟩⟩
  have hst:s.stack.length=0:=by rw [hB.va.stack];rfl
  refine dz (fun _=>?_) fun hn=>absurd (by omega) hn
  have hB5:=hB4.nil f5
  obtain ⟨as_,ls_,cs_,hb,_⟩:=hB5.r.blk
  have q2:ac H5 ((⟨rb,0,none⟩:Addr).add 2)=some (.int .i64 hits):=by rw [ao];exact hb.cell 2
  refine ⟨_,rfl,_,hB5.x1,_,rfl,_,hB5.x3,_,rfl,_,q2,vq hB5.p ⟨_,rfl,⟨⟨q2,trivial⟩,⟨hB5.x3,trivial⟩,trivial⟩,?_⟩⟩
  rw [bj,decide_eq_true rfl]
  exact h _ ((((f1.trans f2).trans f3).trans f4).trans f5)
end
attribute [local irreducible] bT eH fF
theorem RV.get {α:Type}{V:α->List Value}{H:aj}{a:Option Addr}{l c:Nat}{zs:List α}{F:ay} (h:dv 1 (RV V) H a l c zs F){i:Nat} (hi:i<zs.length):∃ b al ll cl,a=some ⟨b,0,none⟩∧ac H ((⟨b,0,none⟩:Addr).add (i*1))=some (.slice al ll cl)∧Rd 1 H al ll (V zs[i]):=by
 obtain ⟨⟨pb,po,ps⟩,ys,G,h1,h2,h3,h4,h5,⟨al,ll,cl,e,ho⟩,_⟩:=h.get hi
 simp only at h2 h3 h4
 subst h2;subst h3
 have:=h4 0 (by decide)
 rw [e] at this
 exact ⟨pb,al,ll,cl,h1,by rw [ao,Nat.zero_add];exact this,ho.rd⟩
section
variable {H:aj}{xb:Nat}{hd:Nat->Hd}{Fs:Nat->ay}{zs:List (List ByteArray)}{is:List (List Int)}{Q:QT}
end
section
variable {H:aj}{bp br:Nat}{Fp Fq:ay}{s:SP}{t:TB}{v:KV}{Q:QT}
end
end Go.Proofs.YtmkdkplipbocjaaGreatDoor
namespace Go.Proofs.YtmkdkplipbocjaaGreatDoor
open Kw
theorem IF {p:Addr}{A B:Prop} (h:B):cond (Option.isNone (some p)) A B:=h
theorem DR {A A' B:Prop} (h:A):cond (Option.isNone (none:Option Addr)) (cond true A A') B:=h
theorem qO {H0 H H':aj}{K:ay} (f:Fr [] H0 H) (g:Fr K H H') (hK:∀ y∈K,H0.size<=y):Fr [] H0 H' :=
 ⟨Nat.le_trans f.1 g.1,fun y hy hn=>by rw [g.2 y (Nat.lt_of_lt_of_le hy f.1) (fun hm=>by have:=hK y hm;omega),f.2 y hy hn]⟩
structure LL (H0 H:aj) (B:ay) (zs ws:List (List ByteArray)) (a1:Option Addr) (l1 c1:Nat) (G1:ay) (a2:Option Addr) (l2 c2:Nat) (G2:ay):Prop where
 h:dv 1 jU H a1 l1 c1 zs G1
 w:dv 1 jU H a2 l2 c2 ws G2
 d:bi G1 G2
 o1:∀ y∈G1,H0.size<=y∧y∉B
 o2:∀ y∈G2,H0.size<=y∧y∉B
 lt:∀ y∈B,y<H.size
 sz:H0.size<=H.size
 bnd:∀ z∈zs,z.length<=100000000
section
variable {H0 H H' H1 H2:aj}{bb b mb rb br x:Nat}{F Fp Fq G:ay}{s:SP}{t:TB}{v:KV}{es:List ((Int × Int) × Value)}{seen:List (Int × Int)}{hits:Int}{n:Nat}{Q:QT}
variable {B:ay}{zs ws:List (List ByteArray)}{a1:Option Addr}{l1 c1:Nat}{G1:ay}{a2:Option Addr}{l2 c2:Nat}{G2:ay}
theorem LL.nil (h:LL H0 H B zs ws a1 l1 c1 G1 a2 l2 c2 G2) (f:Fr [] H H'):LL H0 H' B zs ws a1 l1 c1 G1 a2 l2 c2 G2 :=
 ⟨h.h.fr jU.fr jU.lt f (bi.nil_right _),h.w.fr jU.fr jU.lt f (bi.nil_right _),h.d,h.o1,h.o2,fun y hy=>Nat.lt_of_lt_of_le (h.lt y hy) f.1,Nat.le_trans h.sz f.1,h.bnd⟩
theorem LL.up (h:LL H0 H (x :: F) zs ws a1 l1 c1 G1 a2 l2 c2 G2){F':ay} (u:Up F H F' H') (hl:∀ y∈F',y<H'.size):LL H0 H' (x :: F') zs ws a1 l1 c1 G1 a2 l2 c2 G2:=by
 have k1:=h.h.lt jU.lt
 have k2:=h.w.lt jU.lt
 refine ⟨h.h.fr jU.fr jU.lt u.1 fun y hy hm=>(h.o1 y hy).2 (List.mem_cons_of_mem _ hm),h.w.fr jU.fr jU.lt u.1 fun y hy hm=>(h.o2 y hy).2 (List.mem_cons_of_mem _ hm),h.d,fun y hy=>⟨(h.o1 y hy).1,fun hm=>?_⟩,fun y hy=>⟨(h.o2 y hy).1,fun hm=>?_⟩,fun y hy=>?_,Nat.le_trans h.sz u.1.1,h.bnd⟩
 ·rcases List.mem_cons.1 hm with e | hm
  ·exact (h.o1 y hy).2 (by rw [e];exact List.mem_cons_self ..)
  ·rcases u.2 y hm with h1 | h1
   ·exact (h.o1 y hy).2 (List.mem_cons_of_mem _ h1)
   ·have:=k1 y hy;omega
 ·rcases List.mem_cons.1 hm with e | hm
  ·exact (h.o2 y hy).2 (by rw [e];exact List.mem_cons_self ..)
  ·rcases u.2 y hm with h1 | h1
   ·exact (h.o2 y hy).2 (List.mem_cons_of_mem _ h1)
   ·have:=k2 y hy;omega
 ·rcases List.mem_cons.1 hy with e | hm
  ·rw [e];exact Nat.lt_of_lt_of_le (h.lt x (List.mem_cons_self ..)) u.1.1
  ·exact hl y hm
theorem LL.sub (h:LL H0 H B zs ws a1 l1 c1 G1 a2 l2 c2 G2){B':ay} (hs:∀ y∈B',y∈B):LL H0 H B' zs ws a1 l1 c1 G1 a2 l2 c2 G2 :=
 ⟨h.h,h.w,h.d,fun y hy=>⟨(h.o1 y hy).1,fun hm=>(h.o1 y hy).2 (hs y hm)⟩,fun y hy=>⟨(h.o2 y hy).1,fun hm=>(h.o2 y hy).2 (hs y hm)⟩,fun y hy=>h.lt y (hs y hy),h.sz,h.bnd⟩
theorem rF (hB:Bo H x bb b rb br mb Fp Fq G s t v es seen hits n){K:ay} (f:Fr K H H') (hK:∀ y∈K,H0.size<=y∧y∉B) (hs:∀ y∈x :: FA bb mb Fp rb G Fq,y∈B) (hg:aE<H0.size):Bo H' x bb b rb br mb Fp Fq G s t v es seen hits n :=
 hB.fr f (fun y hy hm=>(hK y hm).2 (hs y (List.mem_cons_of_mem _ hy))) (fun hm=>by have:=(hK _ hm).1;omega) (fun hm=>(hK _ hm).2 (hs x (List.mem_cons_self ..)))
structure GI (H0 H:aj) (x bb b rb br mb:Nat) (Fp Fq G:ay) (s:SP) (t:TB) (v:KV) (es:List ((Int × Int) × Value)) (seen:List (Int × Int)) (hits:Int) (n:Nat) (al:Option Addr) (nl cl:Nat) (Gl:ay)
  (zs ws:List (List ByteArray)) (a1:Option Addr) (l1 c1:Nat) (G1:ay) (a2:Option Addr) (l2 c2:Nat) (G2:ay):Prop where
 bo:Bo H x bb b rb br mb Fp Fq G s t v es seen hits n
 ll:LL H0 H (x :: (FA bb mb Fp rb G Fq++Gl)) zs ws a1 l1 c1 G1 a2 l2 c2 G2
 ol:bv 1 H al nl cl (aq (gh v)) Gl
 fr:Fr [] H0 H
theorem zm {Gl:ay}{K:ay}:∀ y∈x :: K,y∈x :: (K++Gl):=fun y hy=>by
 rcases List.mem_cons.1 hy with e | hy
 ·rw [e];exact List.mem_cons_self ..
 ·exact List.mem_cons_of_mem _ (List.mem_append.2 (.inl hy))
variable {al:Option Addr}{ll cl:Nat}{Gl:ay}
theorem GI.nil (h:GI H0 H x bb b rb br mb Fp Fq G s t v es seen hits n al ll cl Gl zs ws a1 l1 c1 G1 a2 l2 c2 G2) (f:Fr [] H H'):GI H0 H' x bb b rb br mb Fp Fq G s t v es seen hits n al ll cl Gl zs ws a1 l1 c1 G1 a2 l2 c2 G2 :=
 ⟨h.bo.nil f,h.ll.nil f,h.ol.fr f (by simp),h.fr.trans f⟩
theorem GI.snoc1 (h:GI H0 H x bb b rb br mb Fp Fq G s t v es seen hits n al ll cl Gl zs ws a1 l1 c1 G1 a2 l2 c2 G2) (f:Fr [] H H1){a:Option Addr}{l c:Nat}{y:List ByteArray}{Gs:ay} (ho:bv 1 H1 a l c (aO y) Gs) (hG:∀ z∈Gs,H.size<=z) (hy:y.length<=100000000) (hn:zs.length<1000000) (hg0:aE<H0.size)
  (hq:∀ a' c' G' H',GI H0 H' x bb b rb br mb Fp Fq G s t v es seen hits n al ll cl Gl (zs++[y]) ws a' (l1+1) c' G' a2 l2 c2 G2->Q (.slice a' (l1+1) c') H') :
  bk PP (Builtin.append_ #[80,80] 80 #[.slice a1 l1 c1,.slice (some (⟨H1.size,0,none⟩:Addr)) 1 1]) Q (H1.push (.cells #[.slice a l c] 37)):=by
 have hs1:aF PP 80=some (1,24,some (.slice none 0 0)):=by kernel_rfl
 have h1:=h.nil f
 have hlen:=h1.ll.h.len
 have k1:=h.ll.h.lt jU.lt
 have k2:=h.ll.w.lt jU.lt
 have hsz:=h.ll.sz
 have hs01:=f.1
 refine dv.snoc (x:=y) (G:=Gs) jU.fr jU.lt hs1 rfl (by kernel_rfl) h1.ll.h ⟨a,l,c,rfl,ho⟩ rfl (fun z hz hz2=>by have:=hG z hz2;have:=k1 z hz;omega) (by simp [cC]) (by omega) (by decide) (by decide) fun a' c' F' H3 g1 g2 g3=>hq a' c' F' H3 ?_
 have kF:∀ z∈F',z∈G1∨H.size<=z:=fun z hz=>by
  rcases g3 z hz with h1 | h1 | h1
  ·exact .inl h1
  ·exact .inr (hG z h1)
  ·exact .inr (Nat.le_trans hs01 h1)
 refine ⟨rF h1.bo g2 h1.ll.o1 zm hg0,⟨g1,h1.ll.w.fr jU.fr jU.lt g2 h1.ll.d.symm,fun z hz hm=>?_,fun z hz=>?_,h1.ll.o2,fun z hz=>Nat.lt_of_lt_of_le (h1.ll.lt z hz) g2.1,Nat.le_trans h1.ll.sz g2.1,fun z hz=>?_⟩,h1.ol.fr g2 fun z hz hm=>(h1.ll.o1 z hm).2 (List.mem_cons_of_mem _ (List.mem_append.2 (.inr hz))),qO h1.fr g2 fun z hz=>(h1.ll.o1 z hz).1⟩
 ·rcases kF z hz with h5 | h5
  ·exact h.ll.d z h5 hm
  ·have:=k2 z hm;omega
 ·rcases kF z hz with h5 | h5
  ·exact h.ll.o1 z h5
  ·exact ⟨Nat.le_trans hsz h5,fun hm=>by have:=h.ll.lt z hm;omega⟩
 ·rcases List.mem_append.1 hz with hz | hz
  ·exact h.ll.bnd z hz
  ·simp only [List.mem_singleton] at hz;subst hz;exact hy
theorem GI.snoc2 (h:GI H0 H x bb b rb br mb Fp Fq G s t v es seen hits n al ll cl Gl zs ws a1 l1 c1 G1 a2 l2 c2 G2) (f:Fr [] H H1){a:Option Addr}{l c:Nat}{y:List ByteArray}{Gs:ay} (ho:bv 1 H1 a l c (aO y) Gs) (hG:∀ z∈Gs,H.size<=z) (hn:ws.length<1000000) (hg0:aE<H0.size)
  (hq:∀ a' c' G' H',GI H0 H' x bb b rb br mb Fp Fq G s t v es seen hits n al ll cl Gl zs (ws++[y]) a1 l1 c1 G1 a' (l2+1) c' G'->Q (.slice a' (l2+1) c') H') :
  bk PP (Builtin.append_ #[80,80] 80 #[.slice a2 l2 c2,.slice (some (⟨H1.size,0,none⟩:Addr)) 1 1]) Q (H1.push (.cells #[.slice a l c] 37)):=by
 have hs1:aF PP 80=some (1,24,some (.slice none 0 0)):=by kernel_rfl
 have h1:=h.nil f
 have hlen:=h1.ll.w.len
 have k1:=h.ll.h.lt jU.lt
 have k2:=h.ll.w.lt jU.lt
 have hsz:=h.ll.sz
 have hs01:=f.1
 refine dv.snoc (x:=y) (G:=Gs) jU.fr jU.lt hs1 rfl (by kernel_rfl) h1.ll.w ⟨a,l,c,rfl,ho⟩ rfl (fun z hz hz2=>by have:=hG z hz2;have:=k2 z hz;omega) (by simp [cC]) (by omega) (by decide) (by decide) fun a' c' F' H3 g1 g2 g3=>hq a' c' F' H3 ?_
 have kF:∀ z∈F',z∈G2∨H.size<=z:=fun z hz=>by
  rcases g3 z hz with h1 | h1 | h1
  ·exact .inl h1
  ·exact .inr (hG z h1)
  ·exact .inr (Nat.le_trans hs01 h1)
 refine ⟨rF h1.bo g2 h1.ll.o2 zm hg0,⟨h1.ll.h.fr jU.fr jU.lt g2 h1.ll.d,g1,fun z hz hm=>?_,h1.ll.o1,fun z hz=>?_,fun z hz=>Nat.lt_of_lt_of_le (h1.ll.lt z hz) g2.1,Nat.le_trans h1.ll.sz g2.1,h1.ll.bnd⟩,h1.ol.fr g2 fun z hz hm=>(h1.ll.o2 z hm).2 (List.mem_cons_of_mem _ (List.mem_append.2 (.inr hz))),qO h1.fr g2 fun z hz=>(h1.ll.o2 z hz).1⟩
 ·rcases kF z hm with h5 | h5
  ·exact h.ll.d z hz h5
  ·have:=k1 z hz;omega
 ·rcases kF z hz with h5 | h5
  ·exact h.ll.o2 z h5
  ·exact ⟨Nat.le_trans hsz h5,fun hm=>by have:=h.ll.lt z hm;omega⟩
theorem MB {a0:Option Addr}{l c:Nat}{F:ay} (h:dv 1 jU H a0 l c zs F) (hz:∀ z∈zs,z.length<=100000000):∃ K U hs fs xs,AQ H a0 l K U hs fs xs∧∀ b∈U,b∈F:=by
 obtain ⟨F1,F2,hsT,fsT,s1,s2,d1,l2,c1,o1,p1⟩:=dv.parts (V:=aO) h
 have lt1:zs.length=l:=h.len.symm
 have hF:=h.lt jU.lt
 have gT:∀ i,i<l->∃ x,zs[i]?=some x∧x∈zs∧aO (zs.getD i [])=aO x:=fun i hi=>by
  have hh:i<zs.length:=by omega
  exact ⟨zs[i],List.getElem?_eq_getElem hh,List.getElem_mem hh,by rw [List.getD_eq_getElem?_getD,List.getElem?_eq_getElem hh];rfl⟩
 refine ⟨F1,F2,hsT,fsT,fun i=>aO (zs.getD i []),⟨fun b hb=>hF b (s1 b hb),l2,d1,fun i hi b hb=>?_,fun i j hi hj hij=>p1 i j (by omega) (by omega) hij,c1,fun i hi=>?_,fun i hi=>?_⟩,s2⟩
 ·obtain ⟨x,hx,_⟩:=gT i hi
  exact (o1 i x hx).2 b hb
 ·obtain ⟨x,hx,_,e⟩:=gT i hi
  simp only [e]
  exact (o1 i x hx).1
 ·obtain ⟨x,hx,hm,e⟩:=gT i hi
  have h1:=(o1 i x hx).1.len
  have h2:=hz x hm
  simp only [aO,List.length_map] at h1
  omega
end
def DS (H0 H:aj) (x bb b rb br mb n:Nat) (zs:List (List ByteArray)) (a1:Option Addr) (l1 c1:Nat) (a2:Option Addr) (l2 c2:Nat):Prop:=∃ Fp Fq G s t v es seen hits G1 G2,Bo H x bb b rb br mb Fp Fq G s t v es seen hits n ∧
 LL H0 H (x :: FA bb mb Fp rb G Fq) zs zs a1 l1 c1 G1 a2 l2 c2 G2∧(∀ y∈FA bb mb Fp rb G Fq,H0.size<=y)∧Fr [] H0 H
section
variable {H0 H:aj}{bb b mb rb br x n:Nat}{Q:QT}{zs:List (List ByteArray)}{a1:Option Addr}{l1 c1:Nat}{a2:Option Addr}{l2 c2:Nat}
theorem Dj (h:DS H0 H x bb b rb br mb n zs a1 l1 c1 a2 l2 c2) (hn:n<=1200000000000){kind cl me i:Int}{name other':ByteArray} (q:∀ H',DS H0 H' x bb b rb br mb (n+1) zs a1 l1 c1 a2 l2 c2->Q (.bool true) H') :
  ah PP D5 #[.pointer (some ⟨x,0,none⟩),.agg #[.int .i64 kind,.int .i64 cl,.int .i64 me,.int .i64 i,.string name,.string other']] Q H:=by
 obtain ⟨Fp,Fq,G,s,t,v,es,seen,hits,G1,G2,hB,L,hF,f⟩:=h
 refine y9 hB hn fun H' Fp' Fq' G' s' t' v' es' seen' hits' hB' u _=>q H' ⟨Fp',Fq',G',s',t',v',es',seen',hits',G1,G2,hB',L.up u hB'.lt,?_⟩
 exact (zM f hF u).symm
theorem y7 (hg0:aE<H0.size) (hD:DS H0 H x bb b rb br mb n zs a1 l1 c1 a2 l2 c2) (hz:zs.length<=3000)
  (hfix:∀ {Q':Value->aj->Prop}{H':aj},Fr [] H0 H'->(∀ H'',Fr [] H' H''->Q' (.bool true) H'')->ah PP uR #[] Q' H') (h:∀ H',Fr [] H0 H'->Q (.bool true) H') :
  cV (some ⟨x,0,none⟩) a1 l1 none 0 0 Q H:=by
 obtain ⟨Fp,Fq,G,s,t,v,es,seen,hits,G1,G2,hB,L,hF,f⟩:=hD
 obtain ⟨K,U,hs,fs,xs,ap,hU⟩:=MB L.h L.bnd
 have hl:=L.h.len
 refine ye ap (by omega) fun H1 f1=>?_
 have fG:Fr G1 H H1:=f1.mono hU
 have hB1:=rF hB fG L.o1 (fun _ h=>h) hg0
 have f01:=qO f fG fun y hy=>(L.o1 y hy).1
 refine BA hB1 fun H2 f2=>⟨_,rfl,?_⟩
 rw [cond_true]
 exact hfix (f01.trans f2) fun H3 f3=>⟨_,rfl,h _ ((f01.trans f2).trans f3)⟩
theorem vS (hD:DS H0 H x bb b rb br mb n zs a1 l1 c1 a2 l2 c2) (hz:zs.length<=3000){R:(Nat->Value)->Int->aj->Prop} (hR:∀ g k,R g k H) :
  ∃(I56:List Value->aj->Prop) (μ56:List Value->aj->Nat),I56 [.int .i64 0] H∧∀ w57 H12,I56 w57 H12->∀ g_58:Nat->Value,∃ n59:Int,w57=[.int .i64 n59]∧cond (decide (n59<(l1:Int))) (((0:Int)<=n59∧n59<(l1:Int))∧∃ q60,a1=some q60∧∃ a61:Option Addr,∃ l61:Nat,∃ c61:Nat,ac H12 (q60.add (Int.toNat n59*1))=some (.slice a61 l61 c61)∧((0:Int)<=n59∧n59<(l2:Int))∧∃ q62,a2=some q62∧∃ a63:Option Addr,∃ l63:Nat,∃ c63:Nat,ac H12 (q62.add (Int.toNat n59*1))=some (.slice a63 l63 c63)∧ah PP D0 #[.slice a61 l61 c61,.slice a63 l63 c63] (fun v64 H13=>∃ b65:Bool,v64=.bool b65∧True∧cond (!b65) (Q (.bool false) H13) (I56 [.int .i64 (IntKind.wrap .i64 (n59+1))] H13∧μ56 [.int .i64 (IntKind.wrap .i64 (n59+1))] H13<μ56 w57 H12)) H12) (R g_58 n59 H12):=by
 obtain ⟨Fp,Fq,G,s,t,v,es,seen,hits,G1,G2,hB,L,hF,f⟩:=hD
 have hl:=L.h.len
 have hl2:=L.w.len
 refine ⟨fun w H'=>∃ i:Nat,w=[.int .i64 i]∧i<=l1∧H'=H,fun w _=>match w with
  | [.int _ i]=>((l1:Int)-i).toNat
  | _=>0,⟨0,rfl,Nat.zero_le _,rfl⟩,?_⟩
 rintro w H1 ⟨i,rfl,hi,rfl⟩ g
 refine ⟨_,rfl,gF (fun hlt=>?_) fun _=>hR _ _⟩
 have hil:i<zs.length:=by omega
 have e1:IntKind.wrap .i64 ((i:Int)+1)=((i+1:Nat):Int):=by rw [am (by omega) (by omega)];omega
 rw [e1,Int.toNat_natCast]
 obtain ⟨b1,d1,n1,e1,hb1,hc1,hr1⟩:=RV.get (V:=aO) L.h hil
 obtain ⟨b2,d2,n2,e2,hb2,hc2,hr2⟩:=RV.get (V:=aO) L.w hil
 have hn1:=hr1.1
 have:=L.bnd zs[i] (List.getElem_mem hil)
 simp only [aO,List.length_map] at hn1
 refine ⟨⟨by omega,hlt⟩,_,hb1,_,_,_,hc1,⟨by omega,by omega⟩,_,hb2,_,_,_,hc2,rJ hr1 hr2 (by omega) ⟨_,rfl,trivial,?_⟩⟩
 rw [decide_eq_true rfl]
 exact ⟨⟨i+1,rfl,by omega,rfl⟩,by simp;omega⟩
theorem sh {words oops:Int}{a:Option Addr}{l c:Nat}{xs:List StepW} (hk:dw H) (hN:eO H) (hs:ma H a l xs) (hl:l<=10000000000000)
  (hfix:∀ {Q':Value->aj->Prop}{H':aj},Fr [] H H'->(∀ H'',Fr [] H' H''->Q' (.bool true) H'')->ah PP uR #[] Q' H') (h:∀ H',Fr [] H H'->Q (.bool true) H') :
  ah PP Qq #[.int .i64 words,.int .i64 oops,.slice a l c] Q H:=by
 have hxl:=hs.1
 have hkl:aE<H.size:=bN hk.1
 apply Ps
 unfold k9 A0 iV wW pV sV lV cS
 refine zJ hk hN (fun _ H1 f1=>⟨_,_,rfl,DR (hfix f1 fun H2 f2=>⟨_,rfl,h _ (f1.trans f2)⟩)⟩) fun H1 x bb b rb br mb Fp Fq s t v hB f1 hF he _ _ _ _ _=>⟨_,_,rfl,IF ?_⟩
 refine ⟨fun w H'=>∃(i:Nat) (zs:List (List ByteArray)) (a1:Option Addr) (l1 c1:Nat) (a2:Option Addr) (l2 c2:Nat),w=[.slice a1 l1 c1,.slice a2 l2 c2,.int .i64 i]∧i<=l∧zs.length<=3000∧DS H H' x bb b rb br mb i zs a1 l1 c1 a2 l2 c2,fun w _=>match w with
  | [_,_,.int _ i]=>((l:Int)-i).toNat
  | _=>0,⟨0,[],none,0,0,none,0,0,rfl,Nat.zero_le _,by simp,⟨Fp,Fq,[],s,t,v,[],[],0,[],[],hB,⟨dv.nil,dv.nil,bi.nil_left _,by simp,by simp,fun y hy=>?_,f1.1,by simp⟩,fun y hy=>hF y (List.mem_cons_of_mem _ hy),f1⟩⟩,?_⟩
 ·rcases List.mem_cons.1 hy with e | hy
  ·rw [e];exact hB.xb.lt
  ·exact hB.lt y hy
 rintro w H3 ⟨i,zs,a1,l1,c1,a2,l2,c2,rfl,hi,hz,hD⟩ g
 refine ⟨_,_,_,_,_,_,_,rfl,?_⟩
 generalize hMM:(1099511627776:Int)=M
 refine gF (fun hlt=>gF (fun hM=>?_) fun _=>vS hD hz fun g k=>eG (y7 hkl hD hz hfix h)) fun _=>vS hD hz fun g k=>eG (y7 hkl hD hz hfix h)
 have hil:i<xs.length:=by omega
 have hfr:Fr [] H H3:=by obtain ⟨_,_,_,_,_,_,_,_,_,_,_,_,_,_,f⟩:=hD;exact f
 obtain ⟨p,hp,hc⟩:=(hs.fr hfr).2 i xs[i] (List.getElem?_eq_getElem hil)
 have e:IntKind.wrap .i64 ((i:Int)+1)=((i+1:Nat):Int):=by rw [am (by omega) (by omega)];omega
 have c0:ac H3 (p.add (i*6))=some (.int .i64 (xs[i]).kind):=by have:=hc 0 _ rfl;simpa [Addr.add] using this
 rw [e,Int.toNat_natCast]
 refine ⟨⟨by omega,hlt⟩,_,hp,_,c0,_,hc 1 _ rfl,_,hc 2 _ rfl,_,hc 3 _ rfl,_,hc 4 _ rfl,_,hc 5 _ rfl,Dj hD (by omega) fun H4 hD4=>⟨_,rfl,?_⟩⟩
 rw [Bool.not_true,cond_false]
 have go:∀ {H':aj}{zs':List (List ByteArray)}{a1':Option Addr}{l1' c1':Nat}{a2':Option Addr}{l2' c2':Nat},zs'.length<=3000->DS H H' x bb b rb br mb (i+1) zs' a1' l1' c1' a2' l2' c2' ->
  (∃(i':Nat) (zs:List (List ByteArray)) (a1:Option Addr) (l1 c1:Nat) (a2:Option Addr) (l2 c2:Nat),[Value.slice a1' l1' c1',.slice a2' l2' c2',.int .i64 ((i+1:Nat):Int)]=[.slice a1 l1 c1,.slice a2 l2 c2,.int .i64 (i':Int)]∧i'<=l∧zs.length<=3000∧DS H H' x bb b rb br mb i' zs a1 l1 c1 a2 l2 c2)∧((l:Int)-((i+1:Nat):Int)).toNat<((l:Int)-(i:Int)).toNat:=fun h1 h2=>⟨⟨i+1,_,_,_,_,_,_,_,rfl,by omega,h1,h2⟩,by omega⟩
 refine dz (fun _=>gF (fun hl2k=>?_) fun _=>go hz hD4) fun _=>go hz hD4
 obtain ⟨Fp4,Fq4,G4,s4,t4,v4,es4,seen4,hits4,G1,G2,hB4,L4,hF4,f4⟩:=hD4
 have hl1:=L4.h.len
 have hm1:=hB4.va.ks.shape.many1
 refine ⟨_,rfl,_,hB4.x2,pN hB4.r.k hB4.va.ks fun al ll cl Gl H5 hol f5 hGl=>⟨_,_,_,rfl,?_⟩⟩
 have hll:ll=v4.cls.length:=by have:=hol.len;simpa [aq,gh] using this.symm
 have k1:=L4.h.lt jU.lt
 have k2:=L4.w.lt jU.lt
 have ltl:=hol.lt
 have L5:=L4.nil f5
 have out:∀ {K:ay},(∀ y∈K,y<H4.size)->(∀ y∈K,H.size<=y∧y∉x :: FA bb mb Fp4 rb G4 Fq4)->∀ y∈K,H.size<=y∧y∉x :: (FA bb mb Fp4 rb G4 Fq4++Gl):=fun hK ho y hy=>⟨(ho y hy).1,fun hm=>by
  rcases List.mem_cons.1 hm with e | hm
  ·exact (ho y hy).2 (by rw [e];exact List.mem_cons_self ..)
  ·rcases List.mem_append.1 hm with hm | hm
   ·exact (ho y hy).2 (List.mem_cons_of_mem _ hm)
   ·have:=hGl y hm;have:=hK y hy;omega⟩
 have g5:GI H H5 x bb b rb br mb Fp4 Fq4 G4 s4 t4 v4 es4 seen4 hits4 (i+1) al ll cl Gl zs zs a1 l1 c1 G1 a2 l2 c2 G2:=⟨hB4.nil f5,⟨L5.h,L5.w,L5.d,out k1 L4.o1,out k2 L4.o2,fun y hy=>by
  rcases List.mem_cons.1 hy with e | hm
  ·rw [e];exact L5.lt x (List.mem_cons_self ..)
  ·rcases List.mem_append.1 hm with hm | hm
   ·exact L5.lt y (List.mem_cons_of_mem _ hm)
   ·exact ltl y hm,L5.sz,L5.bnd⟩,hol,f4.trans f5⟩
 refine ⟨fun w H'=>∃(j:Nat) (zs1:List (List ByteArray)) (b1:Option Addr) (m1 e1:Nat) (K1:ay) (b2:Option Addr) (m2 e2:Nat) (K2:ay),w=[.slice b1 m1 e1,.slice b2 m2 e2,.int .i64 j]∧j<=ll∧zs1.length=zs.length+2*j∧GI H H' x bb b rb br mb Fp4 Fq4 G4 s4 t4 v4 es4 seen4 hits4 (i+1) al ll cl Gl zs1 zs1 b1 m1 e1 K1 b2 m2 e2 K2,fun w _=>match w with
  | [_,_,.int _ j]=>((ll:Int)-j).toNat
  | _=>0,⟨0,zs,_,_,_,_,_,_,_,_,rfl,Nat.zero_le _,rfl,g5⟩,?_⟩
 rintro w H6 ⟨j,zs1,b1,m1,e1,K1,b2,m2,e2,K2,rfl,hj,hz1,g6⟩ _
 refine ⟨_,_,_,_,_,_,_,rfl,gF (fun hjl=>?_) fun _=>go (by omega) ⟨Fp4,Fq4,G4,s4,t4,v4,es4,seen4,hits4,K1,K2,g6.bo,g6.ll.sub zm,hF4,g6.fr⟩⟩
 have hjl':j<v4.cls.length:=by omega
 have ej:IntKind.wrap .i64 ((j:Int)+1)=((j+1:Nat):Int):=by rw [am (by omega) (by omega)];omega
 rw [ej,Int.toNat_natCast]
 have bd:((0:Int)<=(j:Int)∧(j:Int)<(ll:Int)):=⟨by omega,hjl⟩
 have hsl:=oH hB4.kd hB4.va.names.wf (v4.cls[j]).oop
 refine ⟨fun w H'=>∃(m:Nat) (zs2:List (List ByteArray)) (b1:Option Addr) (m1 e1:Nat) (K1:ay) (b2:Option Addr) (m2 e2:Nat) (K2:ay),w=[.slice b1 m1 e1,.slice b2 m2 e2,.int .i64 m]∧m<=2∧zs2.length=zs.length+2*j+m∧GI H H' x bb b rb br mb Fp4 Fq4 G4 s4 t4 v4 es4 seen4 hits4 (i+1) al ll cl Gl zs2 zs2 b1 m1 e1 K1 b2 m2 e2 K2,fun w _=>match w with
  | [_,_,.int _ m]=>((2:Int)-m).toNat
  | _=>0,⟨0,zs1,_,_,_,_,_,_,_,_,rfl,Nat.zero_le _,hz1,g6⟩,?_⟩
 rintro w H7 ⟨m,zs2,b1,m1,e1,K1,b2,m2,e2,K2,rfl,hm,hz2,g7⟩ _
 refine ⟨_,_,_,_,_,_,_,rfl,gF (fun hm2=>?_) fun _=>⟨⟨j+1,zs2,_,_,_,_,_,_,_,_,rfl,by omega,by omega,g7⟩,by simp;omega⟩⟩
 have em:IntKind.wrap .i64 ((m:Int)+1)=((m+1:Nat):Int):=by rw [am (by omega) (by omega)];omega
 rw [em]
 obtain ⟨pa,hpa,hcell⟩:=jG g7.ol (Fr.refl [] _) hjl'
 refine ⟨_,rfl,_,g7.bo.x1,bd,_,hpa,_,hcell,rP g7.bo.p.k g7.bo.va g7.bo.kd g7.bo.p.kp fun a3 l3 c3 Ga H8 ho f8 hGa=>⟨_,_,_,rfl,trivial,trivial,?_⟩⟩
 refine g7.snoc1 f8 ho hGa (by omega) (by omega) hkl fun b3 e3 K3 H9 g9=>⟨_,_,_,rfl,trivial,?_⟩
 obtain ⟨pb,hpb,hcell2⟩:=jG g9.ol (Fr.refl [] _) hjl'
 refine ⟨_,rfl,_,g9.bo.x3,bd,_,hpb,_,hcell2,rI g9.bo.r.k g9.bo.va g9.bo.kd g9.bo.r.kp fun a4 l4 c4 Gb H10 ho2 f10 hGb=>⟨_,_,_,rfl,trivial,trivial,?_⟩⟩
 refine g9.snoc2 f10 ho2 hGb (by omega) hkl fun b4 e4 K4 H11 g11=>⟨_,_,_,rfl,trivial,?_⟩
 exact ⟨⟨m+1,_,_,_,_,_,_,_,_,_,rfl,by omega,by rw [List.length_append];simp;omega,g11⟩,by simp;omega⟩
end
structure Rm (s:SP) (w o:Int):Prop where
 op:s.op=false
 mark:s.h.mark=0
 fit:bn s.h.objs+w<=s.h.words
 num:(s.h.objs.length:Int)+o<=s.h.oops
section
variable {s:SP}{v:KV}{t:TB}{w o:Int}
theorem Rm.alloc (h:Rm s w o){c n:Int} (hc:dG (4*c)) (h0:0<=n) (h1:n<=8192) (hw:n+2<=w) (ho:1<=o):(s.alloc (4*c) n 0).1.2=0∧Rm (s.alloc (4*c) n 0).2 (w-(n+2)) (o-1):=by
 have hf:=h.fit
 have hn:=h.num
 have hm:=h.mark
 have e:s.h.alloc (4*c) n 0=((bP s.h.objs,0),{ s.h with mark:=if 0<s.h.mark then s.h.mark-1 else s.h.mark,born:=IntKind.wrap .i64 (s.h.born+1),objs:=s.h.objs++[dV s.h (4*c) n 0] }):=by
  unfold RH.alloc
  have g1:¬ (¬ dG (4*c)∨(0:Int)<0∨(1:Int)<0∨n<0):=by
   intro hx
   rcases hx with hx | hx | hx | hx
   ·exact hx hc
   ·exact absurd hx (by decide)
   ·exact absurd hx (by decide)
   ·omega
  have g2:¬ (s.h.oops<=(s.h.objs.length:Int)∨s.h.words<bn s.h.objs+lenOf n 0):=by
   intro hx
   rcases hx with hx | hx
   ·omega
   ·unfold lenOf at hx;rw [if_neg (by decide)] at hx;omega
  rw [if_neg g1,if_neg (by omega),if_neg g2,if_neg (by omega)]
 unfold SP.alloc
 rw [e,if_pos (.inl (show ((0:Int)≠23) by decide))]
 refine ⟨rfl,h.op,by simp only [hm];rfl,?_,?_⟩
 ·simp only
  rw [di]
  have hl:(dV s.h (4*c) n 0).len=2+n:=by
   unfold RO.len lenOf dV
   rw [if_neg (show ¬ ((0:Int)=1) by decide)]
   simp only [List.length_replicate]
   omega
  rw [hl]
  show bn s.h.objs+(2+n)+(w-(n+2))<=s.h.words
  omega
 ·simp only [List.length_append,List.length_cons,List.length_nil]
  omega
theorem Rm.put (h:Rm s w o) (k i x:Int):Rm { s with h:=(s.h.put k i x).2 } w o:=by
 have hs:=xo (r:=s.h) k i x
 have key:bn (s.h.put k i x).2.objs=bn s.h.objs∧(s.h.put k i x).2.objs.length=s.h.objs.length:=by
  unfold RH.put
  split
  ·exact ⟨rfl,rfl⟩
  split
  ·exact ⟨rfl,rfl⟩
  split
  ·exact ⟨rfl,rfl⟩
  ·exact ⟨pL (fun _=>rfl) (fun o=>by unfold iS RO.len;simp),by simp [iU]⟩
 exact ⟨h.op,by show (s.h.put k i x).2.mark=0;rw [hs.2.2];exact h.mark,by show bn (s.h.put k i x).2.objs+w<=(s.h.put k i x).2.words;rw [hs.1,key.1];exact h.fit,by show ((s.h.put k i x).2.objs.length:Int)+o<=(s.h.put k i x).2.oops;rw [hs.2.1,key.2];exact h.num⟩
theorem Rm.lay (h:Rm s w o) (k:Int) (l:List Int):∀ i,Rm { s with h:=s.h.lay k i l } w o:=by
 induction l generalizing s with
 | nil=>intro i;exact h
 | cons x l ih =>
  intro i
  exact ih (s:={ s with h:=(s.h.put k i x).2 }) (h.put k i x) (i+1)
theorem Rm.stk (h:Rm s w o) (st:List Int):Rm { s with stack:=st } w o:=⟨h.op,h.mark,h.fit,h.num⟩
theorem Rm.make (h:Rm s w o) (hk:KS s v) (hst:s.stack.length<65000){c:Int} (hc:1<=c∧c<=65536){ws:List Int} (h1:ws.length<=8192) (hw:(ws.length:Int)+2<=w) (ho:1<=o) :
  (s.make c ws).1.2=0∧Rm (s.make c ws).2 (w-(ws.length+2)) (o-1):=by
 have hr:=js s (4*c) ws.length 0
 obtain ⟨a1,a2⟩:=h.alloc (cq hc.1 hc.2) (n:=(ws.length:Int)) (by omega) (by omega) hw ho
 obtain ⟨p,e1,o1,o2,_⟩:=ir hk.wf a1
 unfold SP.make
 rw [if_neg (by simpa using a1),e1]
 have e2:4*p / 4=p:=by omega
 rw [e2]
 rw [lC (cq o1 o2) (by simp only [hr.2.1];omega)]
 exact ⟨rfl,(a2.lay p ws 0).stk _⟩
theorem Rm.array (h:Rm s w o) (hk:KS s v) (hst:s.stack.length<65000){ws:List Int} (h1:ws.length<=8192) (hw:(ws.length:Int)+2<=w) (ho:1<=o) :
  (s.array ws).1.2=0∧Rm (s.array ws).2 (w-(ws.length+2)) (o-1):=by
 unfold SP.array
 by_cases he:ws=[]
 ·rw [if_pos he]
  refine ⟨rfl,h.op,h.mark,?_,?_⟩
  ·have:=h.fit;show bn s.h.objs+(w-(ws.length+2))<=s.h.words;omega
  ·have:=h.num;show (s.h.objs.length:Int)+(o-1)<=s.h.oops;omega
 ·rw [if_neg he]
  exact h.make hk hst (by decide) h1 hw ho
theorem Rm.root (h:Rm s w o) (i x:Int):Rm (s.setRoot i x).2 w o:=h.put s.king i x
theorem Rm.drop (h:Rm s w o) (n:Int):Rm (s.drop n).2 w o:=by
 unfold SP.drop
 split
 ·exact h
 ·exact h.stk _
theorem nz {x:ByteArray} (hx:cy x) (ht:(t.texts.length:Int)<t.most):(t.add x).1.2=0∧(t.add x).2.texts.length<=t.texts.length+1∧(t.add x).2.most=t.most:=by
 unfold TB.add
 rw [if_neg (by simpa using hx)]
 cases bV t.texts x with
 | some n=>exact ⟨rfl,by simp,rfl⟩
 | none =>
  simp only
  rw [if_neg (by omega)]
  exact ⟨rfl,by simp,rfl⟩
theorem xA (h:Rm s w o) (hv:KAll s t v){name:ByteArray} (hg:kI v t name=0) (hx:cy name) (ht:(t.texts.length:Int)<t.most) (hw:(2*v.glob.length:Int)+4<=w) (ho:1<=o) (hlt:v.glob.length<256) :
  (bE s v t name).1=0∧Rm (bE s v t name).2.1 (w-(2*v.glob.length+4)) (o-1)∧(bE s v t name).2.2.texts.length<=t.texts.length+1∧(bE s v t name).2.2.most=t.most:=by
 obtain ⟨b1,b2,b3⟩:=nz hx ht
 have hst:=hv.stack
 have hgl:=fY v.glob
 have hlen:(bw v.glob++[4*(t.add name).1.1+2,4]).length=2*v.glob.length+2:=by simp [hgl]
 obtain ⟨a1,a2⟩:=h.array hv.ks (by rw [hst];simp) (ws:=bw v.glob++[4*(t.add name).1.1+2,4]) (by rw [hlen];omega) (by rw [hlen];omega) ho
 have ek:fA s t (bw v.glob) name=(0,((s.array (bw v.glob++[4*(t.add name).1.1+2,4])).2.setRoot 1 (s.array (bw v.glob++[4*(t.add name).1.1+2,4])).1.1).2,(t.add name).2):=by
  unfold fA
  rw [if_neg (by simpa using b1)]
  unfold i0
  rw [if_neg (by simpa using a1)]
 unfold bE
 rw [if_neg (by simpa using hg)]
 unfold dB
 rw [ek]
 simp only
 unfold lA
 rw [if_pos rfl]
 refine ⟨trivial,?_,b2,b3⟩
 have:=(a2.root 1 (s.array (bw v.glob++[4*(t.add name).1.1+2,4])).1.1).drop (((((s.array (bw v.glob++[4*(t.add name).1.1+2,4])).2.setRoot 1 (s.array (bw v.glob++[4*(t.add name).1.1+2,4])).1.1).2.stack.length:Nat):Int)-(s.stack.length:Nat))
 rw [hlen] at this
 have e:w-(((2*v.glob.length+2:Nat):Int)+2)=w-(2*v.glob.length+4):=by omega
 rw [e] at this
 exact this
theorem x7 (h:Rm s w o) (hv:KAll s t v){name sup:ByteArray}{j:Nat} (hj:j<v.cls.length) (hd:i9 v t name sup []=((v.cls[j]).oop,0)) (hx:cy name) (ht:(t.texts.length:Int)<t.most) (hw:(v.cls.length:Int)+14<=w) (ho:3<=o) :
  (bF s v t name sup []).1.2=0∧Rm (bF s v t name sup []).2.1 (w-(v.cls.length+14)) (o-3)∧(bF s v t name sup []).2.2.texts.length<=t.texts.length+1∧(bF s v t name sup []).2.2.most=t.most:=by
 obtain ⟨b1,b2,b3⟩:=nz hx ht
 have hst:=hv.stack
 have hk:=hv.ks
 have hmany:=hk.shape.many1
 have ecw:v.clsW.length=v.cls.length:=by simp [KV.clsW]
 have up:=iH hk hj
 have hwt:=ib hv.names.wf name
 obtain ⟨nn,en,hnn,_⟩:=gU name b1
 have e0:s.array []=((72,0),s):=by unfold SP.array;rw [if_pos rfl]
 have hsl:(bU (4*(t.add name).1.1+2) (v.cls[j]).oop 72 v.clsW.length).length=7:=rfl
 have hsw:∀ x∈bU (4*(t.add name).1.1+2) (v.cls[j]).oop 72 v.clsW.length,dG x:=fu (by rw [en];exact d6 hwt ((cA hnn).2)) (cq up.1 up.2) (by decide) (by omega)
 obtain ⟨c1,c2⟩:=h.make hk (by rw [hst];simp) (c:=12) (by decide) (ws:=bU (4*(t.add name).1.1+2) (v.cls[j]).oop 72 v.clsW.length) (by rw [hsl];decide) (by rw [hsl];omega) (by omega)
 obtain ⟨m1,m2,m3,m4⟩:=kJ hk (by rw [hst];simp) (cls:=12) (by decide) hsw
 obtain ⟨oc,k1,k2,_⟩:=m4 c1
 generalize hM:s.make 12 (bU (4*(t.add name).1.1+2) (v.cls[j]).oop 72 v.clsW.length)=M at c1 c2 m1 k1 k2
 have hl3:(v.clsW++[M.1.1]).length=v.cls.length+1:=by simp [ecw]
 obtain ⟨d1,d2⟩:=c2.array m1 (by rw [k2,hst];simp) (ws:=v.clsW++[M.1.1]) (by rw [hl3];omega) (by rw [hl3,hsl];omega) (by omega)
 have ek:gN s t v.clsW name (v.cls[j]).oop []=((M.1.1 / 4,0),((M.2.array (v.clsW++[M.1.1])).2.setRoot 0 (M.2.array (v.clsW++[M.1.1])).1.1).2,(t.add name).2):=by
  unfold gN
  rw [if_neg (by simpa using b1)]
  unfold TB.addAll
  simp only
  rw [if_neg (by decide)]
  unfold nZ
  rw [e0]
  simp only
  rw [if_neg (by decide)]
  unfold ji
  rw [hM,if_neg (by simpa using c1)]
  unfold fj
  rw [if_neg (by simpa using d1)]
 unfold bF
 rw [hd,if_neg (fun hn=>hn rfl)]
 unfold cO
 rw [ek]
 simp only
 unfold lA
 rw [if_pos rfl]
 refine ⟨trivial,?_,b2,b3⟩
 have:=(d2.root 0 (M.2.array (v.clsW++[M.1.1])).1.1).drop (((((M.2.array (v.clsW++[M.1.1])).2.setRoot 0 (M.2.array (v.clsW++[M.1.1])).1.1).2.stack.length:Nat):Int)-(s.stack.length:Nat))
 rw [hl3,hsl] at this
 refine ⟨this.op,this.mark,Int.le_trans (Int.add_le_add_left ?_ _) this.fit,Int.le_trans (Int.add_le_add_left ?_ _) this.num⟩
 ·omega
 ·omega
theorem tZ (h:Rm s w o) (hv:KAll s t v){c:Int}{kp l m:List Int} (hkp:∀ w∈kp,dG w) (hk1:kp.length<=1) (hl:∀ w∈l,dG w) (h1:l.length<=128) (h2:m.length<=128) (hw:(l.length:Int)+m.length+4<=w) (ho:2<=o):(de s c kp l m).1=0:=by
 obtain ⟨ek,hk0⟩:=kQ hv.ks hv.stack hkp hk1
 obtain ⟨a1,a2⟩:=(h.stk kp).array hk0 (by simp only;omega) (ws:=l) (by omega) (by omega) (by omega)
 obtain ⟨A1,_,⟨la,A3,A3'⟩,_⟩:=dg hk0 (by simp only;omega) hl
 obtain ⟨c1,_⟩:=a2.array A1 (by rw [A3];simp only [List.length_append];omega) (ws:=m) (by omega) (by omega) (by omega)
 unfold de
 rw [ek]
 simp only
 rw [if_neg (by simpa using a1),if_neg (by simpa using c1)]
end
section
variable {H:aj}{Q:QT}
theorem km (h:Q (.bool false) H):ah PP yq #[.pointer none] Q H:=by
 apply vt
 unfold Gh pV
 exact h
theorem iP {o:Int} (h:Q (.tuple #[.slice none 0 0,.slice none 0 0,.int .i64 2]) H):ah PP yg #[.pointer none,.int .i64 o] Q H:=by
 apply vm
 unfold Fn iV pV lV cS
 refine km ⟨_,rfl,?_⟩
 simp only [Bool.not_false,cond_true]
 exact h
theorem ww {o y:Int} (h:Q (.tuple #[.int .i64 0,.int .i64 0]) H):ah PP ue #[.pointer none,.int .i64 o,.int .i64 y] Q H:=by
 apply vC
 unfold GX A0 iV wW pV cS;dsimp only [shH]
 refine km ⟨_,rfl,?_⟩
 simp only [Bool.not_false,cond_true]
 exact h
theorem BY {o:Int}{y:ByteArray} (h:Q (.tuple #[.int .i64 0,.int .i64 2]) H):ah PP uf #[.pointer none,.int .i64 o,.string y] Q H:=by
 apply vD
 unfold Kg iV pV sV lV cS
 exact iP ⟨_,_,_,_,_,_,_,rfl,h⟩
theorem zd {o m:Int}{y:ByteArray} (h:Q (.int .i64 2) H):ah PP vg #[.pointer none,.int .i64 o,.string y,.int .i64 m] Q H:=by
 apply yz
 unfold Qs A0 iV pV sV lV cS
 exact iP ⟨_,_,_,_,_,_,_,rfl,h⟩
theorem yT {o:Int}{y:ByteArray} (h:Q (.int .i64 2) H):ah PP vE #[.pointer none,.int .i64 o,.string y] Q H:=by
 apply zq
 unfold QF iV pV sV lV cS
 exact iP ⟨_,_,_,_,_,_,_,rfl,h⟩
theorem zx {o:Int} (h:Q (.slice none 0 0) H):ah PP yy #[.pointer none,.int .i64 o] Q H:=by
 apply yH
 unfold Qv A0 iV wW pV sV lV cS
 refine iP ⟨_,_,_,_,_,_,_,rfl,fun w H'=>w=[.slice none 0 0,.int .i64 0]∧H'=H,fun _ _=>0,⟨rfl,rfl⟩,?_⟩
 rintro w H2 ⟨rfl,rfl⟩ _
 refine ⟨_,_,_,_,rfl,?_⟩
 rw [ae,if_neg (by omega)]
 exact h
theorem xl (h:Q (.int .i64 0) H):ah PP zG #[.pointer none] Q H:=by
 apply uS
 unfold E9 iV pV
 refine km ⟨_,rfl,?_⟩
 simp only [Bool.not_false,cond_true]
 exact h
theorem xI (h:Q (.tuple #[.pointer none,.int .i64 2]) H):ah PP zn #[.pointer none] Q H:=by
 apply vT
 unfold EI iV pV
 exact h
end
abbrev pq:ByteArray:=⟨#[102,111,111]⟩
abbrev pB:ByteArray:=⟨#[80]⟩
abbrev wM:ByteArray:=⟨#[79,98,106,101,99,116]⟩
theorem M2:((bK 400 60).allocAll aG).1=0:=by kernel_rfl
theorem N1:Rm (eW 400 60) 240 40:=⟨rfl,by kernel_rfl,by
 have e1:bn (eW 400 60).h.objs=160:=by kernel_rfl
 have e2:(eW 400 60).h.words=400:=by kernel_rfl
 omega,by
 have e1:(eW 400 60).h.objs.length=20:=by kernel_rfl
 have e2:(eW 400 60).h.oops=60:=by kernel_rfl
 omega⟩
theorem El:(bB.all fun s=>decide (s≠gW) && decide (s≠pB))=true:=by kernel_rfl
theorem QC:gW∉bB:=fun h=>by have:=List.all_eq_true.1 El _ h;simp at this
theorem Qo:pB∉bB:=fun h=>by have:=List.all_eq_true.1 El _ h;simp at this
theorem P0:gW≠pB:=by decide +kernel
theorem uY {n:UInt8} (h:65<=n.toNat∧n.toNat<=90):gp 65 90 ⟨#[n]⟩:=by
 have hg:gB ⟨#[n]⟩ 0=n.toNat:=vG (by rfl)
 refine ⟨Nat.le_refl 1,(show 1<=32 by decide),by rw [hg];exact h.1,by rw [hg];exact h.2,fun i hi=>?_⟩
 have hi:i<1:=hi
 have:i=0:=by omega
 subst this
 rw [hg]
 exact .inr (.inl h)
theorem uQ {t:TB} (h:∃ l,t.texts=bB++l){i:Nat} (hi:i<bB.length):tx t i=bB[i]:=by
 obtain ⟨l,hl⟩:=h
 unfold tx
 rw [hl,List.getD_eq_getElem?_getD,List.getElem?_append_left hi,List.getElem?_eq_getElem hi]
 rfl
theorem sB {v:KV}{t:TB}{name:ByteArray} (hc:v.cls=cJ.cls) (ht:∃ l,t.texts=bB++l) (hn:name∉bB):dP v t name=(0,130):=by
 rcases d8 v t name with ⟨h,_⟩ | ⟨i,hi,_,h⟩
 ·exact h
 ·exfalso
  have hi':i<cJ.cls.length:=by rw [←hc];exact hi
  have e:v.cls[i]=cJ.cls[i]:=by simp only [hc]
  have hk:i<bB.length:=hi'
  rw [e,df i hi'] at h
  simp only at h
  rw [uQ ht hk] at h
  exact hn (h ▸ List.getElem_mem hk)
theorem Hs:kI cJ dH gW=0:=by
 unfold kI
 rw [if_neg (not_not_intro (uY (by decide))),if_neg ?_,if_neg (by decide)]
 rintro (h | h)
 ·rw [sB rfl ⟨[],by simp [dH]⟩ QC] at h
  exact absurd h (by decide)
 ·simp [cE,cJ] at h
theorem MZ {s:SP}{v:KV}{t:TB} (hv:KAll s t v) (hc:v.cls=cJ.cls) (ht:∃ l,t.texts=bB++l) (hg:∀ p∈v.glob,tx t p.1=gW):∃ h0:0<v.cls.length,i9 v t pB wM []=((v.cls[0]).oop,0):=by
 have hlen:v.cls.length=14:=by rw [hc];rfl
 have h0:0<v.cls.length:=by omega
 refine ⟨h0,?_⟩
 have e0:v.cls[0]=cJ.cls[0]'(by decide):=by simp only [hc]
 have n0:tx t (v.cls[0]).name=wM:=by
  rw [e0,df 0 (by decide)]
  exact uQ ht (i:=0) (by decide)
 have hf:dP v t wM=((v.cls[0]).oop,0):=by
  rcases d8 v t wM with ⟨_,h⟩ | ⟨i,hi,h,hn⟩
  ·exact absurd n0 (h _ (List.getElem_mem h0))
  ·have:(v.cls[i]).name=(v.cls[0]).name:=yL hv.names.wf (hv.names.name _ (List.getElem_mem hi)) (hv.names.name _ (List.getElem_mem h0)) (hn.trans n0.symm)
   have e:i=0:=by
    have h1:(v.cls.map (·.name))[i]'(by simpa using hi)=(v.cls.map (·.name))[0]'(by simpa using h0):=by simpa using this
    exact (List.getElem_inj hv.names.nodup).1 h1
   subst e
   exact h
 have hfd:bQ v 0=[]:=by
  rw [hv.ks.fields0 h0,e0,df 0 (by decide)]
 unfold i9
 rw [if_neg (not_not_intro (uY (by decide))),if_neg ?_,hf,if_neg (fun hn=>hn rfl)]
 ·simp only [hv.ks.idx h0]
  rw [if_neg (by omega),if_neg (by simp [mN]),if_neg (by rw [hfd];decide),if_neg (by omega)]
 ·rintro (h | h)
  ·rw [sB hc ht Qo] at h
   exact absurd h (by decide)
  ·obtain ⟨p,hp,e⟩:=List.mem_map.1 h
   exact P0 ((hg p hp).symm.trans e)
attribute [local irreducible] bT eH fF
theorem t6 {s:SP}{v v4:KV}{t:TB}{c:CV}{d:Int}{n:Nat}{a b:Int} (hv4:KAll s t v4) (hv:v.cls=cJ.cls) (hc:c.sels=[]) (hu:c.up=4) (h0:0<(v.addC c d).cls.length)
  (e4:v4=(v.addC c d).setC 0 (((v.addC c d).cls[0]).lists a b [bD n] [72])):dZ v4 c.oop=some 14∧cF v4 (4*(n:Int)+2) 14=(18,4):=by
 have hl:v.cls.length=14:=by rw [hv];rfl
 have hl4:v4.cls.length=15:=by rw [e4];simp [KV.setC,KV.addC,hl]
 have h14:14<v4.cls.length:=by omega
 have h00:0<v4.cls.length:=by omega
 have c14:v4.cls[14]=c:=by
  subst e4
  simp only [KV.setC,KV.addC]
  rw [List.getElem_set_ne (by decide),List.getElem_append_right (by omega)]
  simp [hl]
 have c0:(v4.cls[0]).sels=[bD n]∧(v4.cls[0]).mets=[72]∧(v4.cls[0]).oop=4:=by
  have ho:=hv4.ks.shape.kern 0 h00 (by decide)
  subst e4
  refine ⟨?_,?_,ho⟩ <;> simp [KV.setC,CV.lists]
 refine ⟨by have:=hv4.ks.idx h14;rw [c14] at this;exact this,?_⟩
 rw [kW hv4.ks _ h14,c14,hc]
 have eu:upIdx v4 14=some 0:=by
  unfold upIdx eJ
  rw [List.getElem?_eq_getElem h14,c14]
  simp only [hu]
  rw [if_neg (by decide)]
  have:=hv4.ks.idx h00
  rw [c0.2.2] at this
  exact this
 simp only [iv,eu]
 rw [kW hv4.ks _ h00,c0.1,c0.2.1,c0.2.2]
 simp only [iv]
 rw [if_pos (show bD n=4*(n:Int)+2 from rfl)]
 simp only [List.getD_cons_zero]
 show (gY (4*18),(4:Int))=_
 rw [cK (o:=18) (by decide) (by decide)]
section
variable {H:aj}{Q:QT}
theorem BG (hk:dw H) (hN:eO H) (h:∀ H',Fr [] H H'->Q (.bool true) H'):ah PP uR #[] Q H:=by
 apply Fc
 unfold RX iV pV sV lV cS
 refine zJ hk hN (fun hno=>absurd ⟨by decide,M2⟩ hno) fun H1 x bb b rb br mb Fp Fq s t v hB f1 hF _ es et hv0 hext hgl=>⟨_,_,rfl,?_⟩
 simp only [Option.isNone_some,Bool.not_true,cond_false]
 have hF0:∀ y∈Fp,H.size<=y:=fun y hy=>hF y (by simp [FA,hy])
 have hmost0:dH.most=4096:=rfl
 have hlen0:dH.texts.length=14:=rfl
 have R1:=xA N1 hv0 Hs (by decide) (by rw [hlen0,hmost0];decide) (by show (2*((0:Nat):Int))+4<=240;decide) (by decide) (by decide)
 rw [←es,←et] at R1
 obtain ⟨_,r1,l1,m1⟩:=R1
 have hvc:v.cls=cJ.cls:=by
  rcases hgl with rfl | ⟨n,d,rfl,_⟩
  ·rfl
  ·rfl
 have hvg:∀ p∈v.glob,tx t p.1=gW:=by
  rcases hgl with rfl | ⟨n,d,rfl,hn⟩
  ·intro p hp;cases hp
  ·intro p hp
   simp only [KV.addG,cJ,List.nil_append,List.mem_singleton] at hp
   subst hp
   exact hn
 have htx:∃ l,t.texts=bB++l:=hext.txt
 rw [hlen0] at l1
 rw [hmost0] at m1
 obtain ⟨a1,a2,a3⟩:=nz (t:=t) (x:=pq) (by decide) (by rw [m1];omega)
 obtain ⟨n,en,en2,_⟩:=gU pq a1
 obtain ⟨hv2,he2⟩:=vQ hB.va pq
 obtain ⟨tb,F2,hct,hT,_,_,hupT,_⟩:=hB.p.k.tb
 refine ⟨_,rfl,_,hB.x0,iQ hB.p.k fun tb' F2' hct' hT'=>?_⟩
 have ett:tb'=tb:=by rw [hct] at hct';simpa using hct'.symm
 subst ett
 refine ⟨_,rfl,mT hT fun H2 F3 hT2 u2=>⟨_,_,rfl,?_⟩⟩
 obtain ⟨Fp2,hK2,u2'⟩:=hupT H2 F3 _ hT2 u2
 have hP2:=hB.p.up hK2 u2'
 have x2:=hB.xu u2'
 have nx2:x∉Fp2:=Up.out u2' (fun hm=>hB.xp (by simp [hm])) hB.xb.lt
 have hkd2:=hB.kd.ext he2
 have htx2:∃ l,(t.add pq).2.texts=bB++l:=by
  obtain ⟨l,hl⟩:=htx
  obtain ⟨l',hl'⟩:=he2.txt
  exact ⟨l++l',by rw [hl',hl,List.append_assoc]⟩
 have hvg2:∀ p∈v.glob,tx (t.add pq).2 p.1=gW:=fun p hp=>by
  rw [rl he2.txt (hB.va.names.glob p hp)];exact hvg p hp
 generalize ht2:(t.add pq).2=t2 at hv2 he2 hP2 hK2 hkd2 htx2 hvg2 a2 a3 en2
 have hal:(t.add pq).1.1=n:=en
 obtain ⟨h0,hd0⟩:=MZ hv2 hvc htx2 hvg2
 have hcl:v.cls.length=14:=by rw [hvc];rfl
 have c0:v.cls[0]=cJ.cls[0]'(by decide):=by simp only [hvc]
 obtain ⟨d1,r2,l2,_⟩:=x7 r1 hv2 h0 hd0 (by decide) (by rw [a3,m1];omega) (by rw [hcl];show ((14:Nat):Int)+14<=240-(2*((0:Nat):Int)+4);decide) (by decide)
 refine ⟨_,rfl,_,(xc x2).1,qr hK2 hv2 oQ (.inl rfl) (Nat.le_refl _) (by decide) fun H3 Fp3 hK3 u3=>⟨_,_,rfl,dW ⟨_,rfl,?_⟩⟩⟩
 have hP3:=hP2.up hK3 u3
 have x3:=x2.fr u3.1 nx2
 have nx3:x∉Fp3:=Up.out u3 nx2 x2.lt
 rw [a1]
 simp only [show ((0:Int) != 0)=false from rfl,cond_false]
 refine dW ⟨_,rfl,?_⟩
 rw [d1]
 simp only [show ((0:Int) != 0)=false from rfl,cond_false]
 have hno:=(mU hv2 (by rw [hd0])).choose_spec
 obtain ⟨hj0,ej0,hlt0,hno0,_,_⟩:=hno
 have eK:bF s v t2 pB wM []=cO s t2 v.clsW pB (v.cls[0]).oop []:=by
  unfold bF
  rw [hd0,if_neg (fun hn=>hn rfl)]
 have A:=(oF hv2 h0 hlt0 (name:=pB) (own:=[]) hno0).2 (by rw [←eK];exact d1)
 rw [←eK] at A
 obtain ⟨nn,ns,ll,dd,hv3,hpre,_⟩:=A
 generalize hKD:bF s v t2 pB wM []=KD3 at hv3 hpre hK3 hP3 d1 r2 l2 ⊢
 have o4:(v.cls[0]).oop=4:=by rw [c0,df 0 (by decide)];rfl
 have hext3:Ext v (v.addC ⟨KD3.1.1,nn,(v.cls[0]).oop,ns,ll,18,18,[],[],0⟩ dd) t2 KD3.2.2:=⟨⟨[_],rfl,by simp⟩,hpre⟩
 have hkd3:=hkd2.ext hext3
 have hl3:(v.addC ⟨KD3.1.1,nn,(v.cls[0]).oop,ns,ll,18,18,[],[],0⟩ dd).cls.length=15:=by simp [KV.addC,hcl]
 have h03:0<(v.addC ⟨KD3.1.1,nn,(v.cls[0]).oop,ns,ll,18,18,[],[],0⟩ dd).cls.length:=by omega
 have c03:(v.addC ⟨KD3.1.1,nn,(v.cls[0]).oop,ns,ll,18,18,[],[],0⟩ dd).cls[0]=⟨4,0,1,[],18,18,18,[],[],0⟩:=by
  simp only [KV.addC]
  rw [List.getElem_append_left (by omega),c0,df 0 (by decide)]
  rfl
 have hnum:bV KD3.2.2.texts pq=some n:=by
  obtain ⟨m,hm⟩:=hpre
  have hg:KD3.2.2.texts[n]?=some pq:=by rw [hm,List.getElem?_append_left (List.getElem?_eq_some_iff.1 en2).1];exact en2
  obtain ⟨hnl,hne⟩:=List.getElem?_eq_some_iff.1 hg
  refine nT hnl hne fun j hj hjn e=>?_
  have:=(List.getElem_inj hv3.names.wf.nodup).1 (e.trans hne.symm)
  omega
 have hcls18:(KD3.2.1.h.clsAt 18).2=0:=by
  obtain ⟨y,hy,_⟩:=hv3.ks.view.empty
  simp [RH.clsAt,hy]
 have sel0:bM KD3.2.2 (v.addC ⟨KD3.1.1,nn,(v.cls[0]).oop,ns,ll,18,18,[],[],0⟩ dd).cls[0]=[]:=by rw [c03];rfl
 have eP:mf KD3.2.1 KD3.2.2 (v.addC ⟨KD3.1.1,nn,(v.cls[0]).oop,ns,ll,18,18,[],[],0⟩ dd) 4 pq 18=de KD3.2.1 4 [72] [bD n] [72]:=by
  have hp:dZ (v.addC ⟨KD3.1.1,nn,(v.cls[0]).oop,ns,ll,18,18,[],[],0⟩ dd) 4=some 0:=by
   have:=hv3.ks.idx h03
   rw [c03] at this
   exact this
  unfold mf
  rw [hp]
  simp only [mL h03]
  unfold iC
  rw [hnum]
  simp only
  rw [if_neg (by simpa using hcls18),if_neg (by rw [sel0];simp),if_neg (by rw [c03];decide),sel0,c03]
  rfl
 have hnl3:n<KD3.2.2.texts.length:=(cA (jB hnum)).2
 have hws:dG (bD n):=d6 hv3.names.wf hnl3
 have e0:(de KD3.2.1 4 [72] [bD n] [72]).1=0:=tZ r2 hv3 (by simp;decide) (by simp) (by simpa using hws) (by simp) (by simp) (by rw [hcl];simp [cJ]) (by decide)
 obtain ⟨hd3,hne3⟩:=hkd3 _ (List.getElem_mem h03)
 refine ⟨_,rfl,_,(xc x3).2.1,vA hP3 hv3 hkd3 fun H4 Fp4 hP4 u4=>?_⟩
 rw [eP,e0] at hP4
 rw [eP,e0]
 refine ⟨_,rfl,dW ⟨_,rfl,?_⟩⟩
 simp only [show ((0:Int) != 0)=false from rfl,cond_false]
 have hs72:∀ w∈[(72:Int)],dG w:=by simp;decide
 have hW:=(qA hv3 h03 (kp:=[72]) (l:=[bD n]) (m:=[72]) hs72 (by simp) (by simpa using hws) hs72 rfl).2
 rw [c03] at hW
 obtain ⟨wa,wb,hv4⟩:=hW e0
 have hkd4:KD ((v.addC ⟨KD3.1.1,nn,(v.cls[0]).oop,ns,ll,18,18,[],[],0⟩ dd).setC 0 ((⟨4,0,1,[],18,18,18,[],[],0⟩:CV).lists wa wb [bD n] [72])) KD3.2.2:=by
  have I:=pX (m:=18) hne3 hv3.names.wf hnum (by rw [sel0];simp) (by rw [c03];decide) (by decide) (by decide)
  rw [sel0,c03] at I
  exact hkd3.set (I.dc wa wb)
 obtain ⟨pk14,lk⟩:=t6 (c:=⟨KD3.1.1,nn,(v.cls[0]).oop,ns,ll,18,18,[],[],0⟩) (d:=dd) (n:=n) (a:=wa) (b:=wb) hv4 hvc rfl o4 h03 (by rw [c03])
 have x4:=x3.fr u4.1 (fun hm=>by
  rcases List.mem_cons.1 hm with h1 | h1
  ·exact hB.xp (by simp [h1])
  ·exact nx3 h1)
 rw [hal]
 refine ⟨_,rfl,_,(xc x4).2.1,pW hP4 hv4 hkd4 (dX.nil _) (fun i hi hp hg=>absurd rfl hg) (fun i hi hp hg H5 hP5 f5=>?_) fun hp=>?_⟩
 rotate_left
 ·rw [pk14] at hp;cases hp
 rw [pk14] at hp
 cases hp
 rw [lk]
 refine ⟨_,_,rfl,ww ⟨_,_,rfl,BY ⟨_,_,rfl,xI ⟨_,_,rfl,dz (fun _=>dz (fun _=>dz (fun _=>dz (fun _=>dW ⟨_,rfl,dz (fun _=>dW ⟨_,rfl,dz (fun _=>?_) fun hn=>absurd rfl hn⟩) fun hn=>absurd rfl hn⟩) fun hn=>absurd rfl hn) fun hn=>absurd rfl hn) fun hn=>absurd rfl hn) fun hn=>absurd rfl hn⟩⟩⟩⟩
 simp only [Option.isNone_none,cond_true]
 refine zd ⟨_,rfl,dW ⟨_,rfl,dz (fun _=>yT ⟨_,rfl,dW ⟨_,rfl,dz (fun _=>zx ⟨_,_,_,rfl,dz (fun _=>xl ⟨_,rfl,?_⟩) fun hn=>absurd rfl hn⟩) fun hn=>absurd rfl hn⟩⟩) fun hn=>absurd rfl hn⟩⟩
 rw [show ((0:Int) == 0)=true from rfl]
 refine h _ ⟨?_,fun y hy hn=>?_⟩
 ·have q1:=f1.1;have q2:=u2'.1.1;have q3:=u3.1.1;have q4:=u4.1.1;have q5:=f5.1;omega
 ·have q1:=f1.1
  have q2:=u2'.1.1
  have q3:=u3.1.1
  have q4:=u4.1.1
  have g0:∀ z∈bb :: mb :: Fp,H.size<=z:=fun z hz=>hF z (by simp only [FA,List.mem_cons,List.mem_append];simp only [List.mem_cons] at hz;rcases hz with h | h | h <;> simp [h])
  have g2:∀ z∈Fp2,H.size<=z:=fun z hz=>by
   rcases u2'.2 z hz with h1 | h1
   ·exact hF0 z h1
   ·omega
  have g3:∀ z∈Fp3,H.size<=z:=fun z hz=>by
   rcases u3.2 z hz with h1 | h1
   ·exact g2 z h1
   ·omega
  have gm:H.size<=mb:=g0 mb (by simp)
  have gb:H.size<=bb:=g0 bb (by simp)
  have g4:∀ z∈mb :: Fp4,H.size<=z:=fun z hz=>by
   rcases u4.2 z hz with h1 | h1
   ·rcases List.mem_cons.1 h1 with rfl | h1
    ·exact gm
    ·exact g3 z h1
   ·omega
  rw [f5.2 y (by omega) (fun hm=>by
    rcases List.mem_cons.1 hm with rfl | hm
    ·omega
    ·have:=g4 y hm;omega),
   u4.1.2 y (by omega) (fun hm=>by
    rcases List.mem_cons.1 hm with rfl | hm
    ·omega
    ·have:=g3 y hm;omega),
   u3.1.2 y (by omega) (fun hm=>by have:=g2 y hm;omega),u2'.1.2 y (by omega) (fun hm=>by have:=hF0 y hm;omega),f1.2 y hy (by simp)]
end
end Go.Proofs.YtmkdkplipbocjaaGreatDoor
namespace Kw
open Go
theorem joined_of {P:Program}{f:FuncId}{fn:Func}{s:ChangeSpec}{c:OpenClaim} (h1:c.wf (OpenSpec.ofChange s)=true) (h2:laidOutB P=true) (h3:mapsRowed P=true) (h4:fn.params.all (P.readableRec ·)=true) (h5:namedTie P c.named s.vars=true)
  (h6:(c.stops == [])=true) (h7:(P.stops == [])=true) (h8:(c.knobs == [])=true) (h9:(P.stopKnobs == [])=true) (h10:(c.inPlace == P.inPlace f)=true) (h11:(c.unfollowed == P.unfollowed f)=true) (h12:(c.recurses == P.recurses f)=true) (h13:(c.named == P.varsNamed f)=true)
  (h14:(c.maps == (fn.params.toList++s.plain.varTypes P).any (P.mapsRec ·))=true) (h15:(c.ifaces == (fn.params.toList++s.plain.varTypes P).any (P.ifacesRec ·))=true) (h16:(c.mapsOut == P.mapsAmong fn.resultTypes.toList)=true)
  (h17:(c.loops == (fn.params.toList++s.plain.varTypes P).any (P.loopsFrom ·))=true) (h18:(c.wideKeys == (fn.params.toList++s.plain.varTypes P++fn.resultTypes.toList).any (P.wideKeysFrom ·))=true)
  (h19:s.vars.all (P.varReadable ·)=true) (h20:fn.resultTypes.all (fun t=>P.readableRec t && decide (t<P.types.size))=true) (h21:(c.ifacesOut == fn.resultTypes.toList.any (P.ifacesRec ·))=true) (h22:(c.loopsOut == fn.resultTypes.toList.any (P.loopsFrom ·))=true) (h23:(c.plainKeys == P.plainKeys)=true) (h24:c.shortTexts.isNone=true) (h25:P.stopsHeard=true)
  (h28:P.mayEnter=true) (h29:(c.lifted == P.liftsFinal)=true) (h30:(P.make == some c.make)=true) (h31:c.domain=[]) (h33:c.kinds=[]) (h32:(c.pinned == c.pinnedBy)=true)
  (h26:(c.veiled == (fn.params.toList++s.plain.varTypes P++fn.resultTypes.toList).any (P.veiledRec ·))=true) (h27:c.veiledFits P fn.params.toList (fn.params.toList++s.plain.varTypes P++fn.resultTypes.toList)=true):joinedFacts P f fn s c=true:=by
 unfold joinedFacts
 simp only [h1,h2,h3,h4,h5,h6,h7,h8,h9,h10,h11,h12,h13,h14,h15,h16,h17,h18,h19,h20,h21,h22,h23,h24,h25,h26,h27,h28,h29,h30,h32,Bool.and_self,h31,h33,List.isEmpty_nil,if_true,beq_self_eq_true]
end Kw
