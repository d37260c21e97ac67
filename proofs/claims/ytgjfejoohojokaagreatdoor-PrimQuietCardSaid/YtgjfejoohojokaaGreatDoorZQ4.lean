/- Lemmas for RPQ: functions of the program as predicate transformers, and their contracts. -/
import Derived.Test.YtgjfejoohojokaaGreatDoorZQ3
import Derived.Shelf.Strconv.Itoa3
import Derived.Shelf.Strings.Builder1
set_option linter.all false
set_option maxRecDepth 100000
set_option maxHeartbeats 4000000
namespace Go.Proofs.YtgjfejoohojokaaGreatDoor
open Kw
variable {Q:QT}{H:ae}
abbrev Ll:Nat:=4
def k4 (n1:Int) (n2:Int) (a3:Option Addr) (l3:Nat) (_c3:Nat) (Q:QT) (H:ae):Prop :=
 ac PP 16 #[iV n1,iV 400,iV 3000] (fun v4 H1=>∃ n5,v4=iV n5∧cS 16 #[iV n2,iV 60,iV 300] (fun v6 H2=>∃ n7,v6=iV n7∧cS 6 #[iV n5,iV n7] (fun v8 H3=>∃ p9,v8=pV p9∧cond (Option.isNone p9) (Q (.bool false) H3) (∃(I10:IT) (μ10:MT),I10 [iV 0] H3∧∀ w11 H4,shH (H4.push (.cells #[iV 0,iV 0,sV (⟨#[]⟩:ByteArray),iV 0,lV none 0 0,iV 0] 28)) fun C6=>I10 w11 H4->∀ _g:Nat->Value,∃ n12,w11=[iV n12]∧cond (decide (n12<(l3:Int))) (((0:Int)<=n12∧n12<(l3:Int))∧∃ q13,a3=some q13∧∃ n14,aa H4 (q13.add (Int.toNat n12*6))=some (iV n14)∧∃ n15:Int,shH (av (av C6 (A0 H4.size) (iV n14)) ((A0 H4.size).add 1) (iV n15)) fun C2=>aa H4 ((q13.add (Int.toNat n12*6)).add 1)=some (iV n15)∧∃ s16,aa H4 ((q13.add (Int.toNat n12*6)).add 2)=some (sV s16)∧∃ n17:Int,shH (av (av C2 ((A0 H4.size).add 2) (sV s16)) ((A0 H4.size).add 3) (iV n17)) fun C5=>aa H4 ((q13.add (Int.toNat n12*6)).add 3)=some (iV n17)∧∃ a18 l18 c18,aa H4 ((q13.add (Int.toNat n12*6)).add 4)=some (lV a18 l18 c18)∧∃ n19:Int,shH (av (av C5 ((A0 H4.size).add 4) (lV a18 l18 c18)) ((A0 H4.size).add 5) (iV n19)) fun C1=>aa H4 ((q13.add (Int.toNat n12*6)).add 5)=some (iV n19)∧Wr C6 (A0 H4.size)∧Wr (av C6 (A0 H4.size) (iV n14)) ((A0 H4.size).add 1)∧Wr C2 ((A0 H4.size).add 2)∧Wr (av C2 ((A0 H4.size).add 2) (sV s16)) ((A0 H4.size).add 3)∧Wr C5 ((A0 H4.size).add 4)∧Wr (av C5 ((A0 H4.size).add 4) (lV a18 l18 c18)) ((A0 H4.size).add 5)∧∃ n20,aa C1 (A0 H4.size)=some (iV n20)∧cond (n20 == 4) (∃ q21,p9=some q21∧∃ a22 l22 c22,aa C1 (q21.add 1)=some (lV a22 l22 c22)∧cond (decide ((l22:Int) > 10)) (∃ q23,p9=some q23∧∃ p24,aa C1 q23=some (pV p24)∧∃ q25,p9=some q25∧∃ a26 l26 c26,aa C1 (q25.add 1)=some (lV a26 l26 c26)∧cS 7 #[pV p24] (fun v27 H5=>∃ p28,v27=pV p28∧((aa H5 (q25.add 1)=some (lV a26 l26 c26)∧True)∧True)∧cS 8 #[pV p28,iV (wW ((l26:Int)-10))] (fun v29 H6=>∃ n30,v29=iV n30∧True∧∃ q31,p9=some q31∧∃ a32 l32 c32,aa H6 (q31.add 1)=some (lV a32 l32 c32)∧((0:Int)<=10∧10<=(c32:Int))∧∃ q33,shH (av H6 (q33.add 1) (lV a32 (Int.toNat 10) c32)) fun C4=>p9=some q33∧Wr H6 (q33.add 1)∧∃ n34,aa C4 (A0 H4.size)=some (iV n34)∧cond (n34 == 1) (∃ n35,aa C4 (A0 H4.size)=some (iV n35)∧∃ n36,aa C4 ((A0 H4.size).add 1)=some (iV n36)∧∃ s37,aa C4 ((A0 H4.size).add 2)=some (sV s37)∧∃ n38,aa C4 ((A0 H4.size).add 3)=some (iV n38)∧∃ a39 l39 c39,aa C4 ((A0 H4.size).add 4)=some (lV a39 l39 c39)∧∃ n40,aa C4 ((A0 H4.size).add 5)=some (iV n40)∧cS 17 #[pV p9,.agg #[iV n35,iV n36,sV s37,iV n38,lV a39 l39 c39,iV n40]] (fun v41 H7=>∃ b42,v41=.bool b42∧cond (!b42) (Q (.bool false) H7) (I10 [iV (wW (n12+1))] H7∧μ10 [iV (wW (n12+1))] H7<μ10 w11 H4)) C4) (I10 [iV (wW (n12+1))] C4∧μ10 [iV (wW (n12+1))] C4<μ10 w11 H4)) H5) C1) (∃ n43,aa C1 (A0 H4.size)=some (iV n43)∧cond (n43 == 1) (∃ n44,aa C1 (A0 H4.size)=some (iV n44)∧∃ n45,aa C1 ((A0 H4.size).add 1)=some (iV n45)∧∃ s46,aa C1 ((A0 H4.size).add 2)=some (sV s46)∧∃ n47,aa C1 ((A0 H4.size).add 3)=some (iV n47)∧∃ a48 l48 c48,aa C1 ((A0 H4.size).add 4)=some (lV a48 l48 c48)∧∃ n49,aa C1 ((A0 H4.size).add 5)=some (iV n49)∧cS 17 #[pV p9,.agg #[iV n44,iV n45,sV s46,iV n47,lV a48 l48 c48,iV n49]] (fun v50 H8=>∃ b51,v50=.bool b51∧cond (!b51) (Q (.bool false) H8) (I10 [iV (wW (n12+1))] H8∧μ10 [iV (wW (n12+1))] H8<μ10 w11 H4)) C1) (I10 [iV (wW (n12+1))] C1∧μ10 [iV (wW (n12+1))] C1<μ10 w11 H4))) (∃ q52,p9=some q52∧∃ a53 l53 c53,aa C1 (q52.add 1)=some (lV a53 l53 c53)∧cond (decide ((l53:Int) > 4000)) (∃ q54,p9=some q54∧∃ a55 l55 c55,aa C1 (q54.add 1)=some (lV a55 l55 c55)∧cond (decide ((l55:Int) > 10)) (∃ q56,p9=some q56∧∃ p57,aa C1 q56=some (pV p57)∧∃ q58,p9=some q58∧∃ a59 l59 c59,aa C1 (q58.add 1)=some (lV a59 l59 c59)∧cS 7 #[pV p57] (fun v60 H9=>∃ p61,v60=pV p61∧((aa H9 (q58.add 1)=some (lV a59 l59 c59)∧True)∧True)∧cS 8 #[pV p61,iV (wW ((l59:Int)-10))] (fun v62 H10=>∃ n63,v62=iV n63∧True∧∃ q64,p9=some q64∧∃ a65 l65 c65,aa H10 (q64.add 1)=some (lV a65 l65 c65)∧((0:Int)<=10∧10<=(c65:Int))∧∃ q66,shH (av H10 (q66.add 1) (lV a65 (Int.toNat 10) c65)) fun C3=>p9=some q66∧Wr H10 (q66.add 1)∧∃ n67,aa C3 (A0 H4.size)=some (iV n67)∧cond (n67 == 1) (∃ n68,aa C3 (A0 H4.size)=some (iV n68)∧∃ n69,aa C3 ((A0 H4.size).add 1)=some (iV n69)∧∃ s70,aa C3 ((A0 H4.size).add 2)=some (sV s70)∧∃ n71,aa C3 ((A0 H4.size).add 3)=some (iV n71)∧∃ a72 l72 c72,aa C3 ((A0 H4.size).add 4)=some (lV a72 l72 c72)∧∃ n73,aa C3 ((A0 H4.size).add 5)=some (iV n73)∧cS 17 #[pV p9,.agg #[iV n68,iV n69,sV s70,iV n71,lV a72 l72 c72,iV n73]] (fun v74 H11=>∃ b75,v74=.bool b75∧cond (!b75) (Q (.bool false) H11) (I10 [iV (wW (n12+1))] H11∧μ10 [iV (wW (n12+1))] H11<μ10 w11 H4)) C3) (I10 [iV (wW (n12+1))] C3∧μ10 [iV (wW (n12+1))] C3<μ10 w11 H4)) H9) C1) (∃ n76,aa C1 (A0 H4.size)=some (iV n76)∧cond (n76 == 1) (∃ n77,aa C1 (A0 H4.size)=some (iV n77)∧∃ n78,aa C1 ((A0 H4.size).add 1)=some (iV n78)∧∃ s79,aa C1 ((A0 H4.size).add 2)=some (sV s79)∧∃ n80,aa C1 ((A0 H4.size).add 3)=some (iV n80)∧∃ a81 l81 c81,aa C1 ((A0 H4.size).add 4)=some (lV a81 l81 c81)∧∃ n82,aa C1 ((A0 H4.size).add 5)=some (iV n82)∧cS 17 #[pV p9,.agg #[iV n77,iV n78,sV s79,iV n80,lV a81 l81 c81,iV n82]] (fun v83 H12=>∃ b84,v83=.bool b84∧cond (!b84) (Q (.bool false) H12) (I10 [iV (wW (n12+1))] H12∧μ10 [iV (wW (n12+1))] H12<μ10 w11 H4)) C1) (I10 [iV (wW (n12+1))] C1∧μ10 [iV (wW (n12+1))] C1<μ10 w11 H4))) (∃ n85,aa C1 (A0 H4.size)=some (iV n85)∧cond (n85 == 1) (∃ n86,aa C1 (A0 H4.size)=some (iV n86)∧∃ n87,aa C1 ((A0 H4.size).add 1)=some (iV n87)∧∃ s88,aa C1 ((A0 H4.size).add 2)=some (sV s88)∧∃ n89,aa C1 ((A0 H4.size).add 3)=some (iV n89)∧∃ a90 l90 c90,aa C1 ((A0 H4.size).add 4)=some (lV a90 l90 c90)∧∃ n91,aa C1 ((A0 H4.size).add 5)=some (iV n91)∧cS 17 #[pV p9,.agg #[iV n86,iV n87,sV s88,iV n89,lV a90 l90 c90,iV n91]] (fun v92 H13=>∃ b93,v92=.bool b93∧cond (!b93) (Q (.bool false) H13) (I10 [iV (wW (n12+1))] H13∧μ10 [iV (wW (n12+1))] H13<μ10 w11 H4)) C1) (I10 [iV (wW (n12+1))] C1∧μ10 [iV (wW (n12+1))] C1<μ10 w11 H4)))) (cS 15 #[iV 3] (fun v94 H14=>∃ n95,v94=iV n95∧cS 15 #[iV 4] (fun v96 H15=>∃ n97,v96=iV n97∧cS 15 #[iV 7] (fun v98 H16=>∃ n99,v98=iV n99∧cS 14 #[pV p9,iV 8,sV (⟨#[43]⟩:ByteArray),iV n95,lV (some (A0 H15.size)) 1 1,iV n99] (fun v100 H17=>∃ b101,v100=.bool b101∧Q (.bool b101) H17) H16) (H15.push (.cells #[iV n97] 26))) H14) H4))) H2) H1) H
theorem II {n1:Int}{n2:Int}{a3:Option Addr}{l3:Nat}{c3:Nat} (h:k4 n1 n2 a3 l3 c3 Q H):ac PP 4 #[.int .i64 n1,.int .i64 n2,.slice a3 l3 c3] Q H :=
 aW good Tryz.func4 rfl (Ls:=fun | 5=>some [(8,3)] | _=>none) (by kernel_rfl) h
abbrev LA:Nat:=6
def k6 (n1:Int) (n2:Int) (Q:QT) (H:ae):Prop :=
 ac PP 23 #[iV n1,iV n2] (fun v3 H1=>∃ p4 n5,v3=.tuple #[pV p4,iV n5]∧cond (Option.isNone p4) (Q (pV none) H1) (cS 24 #[iV n5] (fun v6 H2=>∃ n7,v6=iV n7∧cond (n7 != 0) (Q (pV none) H2) (cS 25 #[pV p4,sV (⟨#[80,97,105,114]⟩:ByteArray),sV (⟨#[79,98,106,101,99,116]⟩:ByteArray),lV (some (A0 H2.size)) 2 2] (fun v8 H3=>∃ n9 n10,v8=.tuple #[iV n9,iV n10]∧cS 24 #[iV n10] (fun v11 H4=>∃ n12,v11=iV n12∧cond (n12 != 0) (Q (pV none) H4) (∃(I13:IT) (μ13:MT),I13 [iV 0] ((H4.push (.cells #[pV p4,lV none 0 0] 32)).push (.cells #[iV 4,iV 12,iV 8,iV 7,iV 16,iV 32,iV 40,iV 44,iV 2,iV (wW (4*n9))] 26))∧∀ w14 H5,I13 w14 H5->∀ _g:Nat->Value,∃ n15,w14=[iV n15]∧cond (decide (n15<(10:Int))) (((0:Int)<=n15∧n15<(10:Int))∧∃ q16,(some (⟨(H4.push (.cells #[pV p4,lV none 0 0] 32)).size,0,none⟩:Addr))=some q16∧∃ n17,aa H5 (q16.add (Int.toNat n15*1))=some (iV n17)∧cS 26 #[pV (some (A0 H4.size)),iV n17] (fun v18 H6=>v18=.tuple #[]∧I13 [iV (wW (n15+1))] H6∧μ13 [iV (wW (n15+1))] H6<μ13 w14 H5) H5) (Q (pV (some (A0 H4.size))) H5))) H3) (H2.push (.cells #[sV (⟨#[120]⟩:ByteArray),sV (⟨#[121]⟩:ByteArray)] 9)))) H1)) H
theorem GX {n1:Int}{n2:Int} (h:k6 n1 n2 Q H):ac PP 6 #[.int .i64 n1,.int .i64 n2] Q H :=
 aW good Tryz.func6 rfl (Ls:=fun | 10=>some [(11,3)] | _=>none) (by kernel_rfl) h
abbrev Gu:Nat:=9
def k9 (p1:Option Addr) (n2:Int) (Q:QT) (H:ae):Prop :=
 ∃ q3,p1=some q3∧∃ a4 l4 c4,aa H (q3.add 1)=some (lV a4 l4 c4)∧∃ q5,p1=some q5∧∃ a6 l6 c6,aa H (q5.add 1)=some (lV a6 l6 c6)∧cond (decide ((l4:Int)=0)) False (cond (decide ((l4:Int)=0)) False (((0:Int)<=(Int.tmod (wW ((Int.tmod n2 (l4:Int))+(l4:Int))) (l4:Int))∧(Int.tmod (wW ((Int.tmod n2 (l4:Int))+(l4:Int))) (l4:Int))<(l6:Int))∧∃ q7,a6=some q7∧∃ n8,aa H (q7.add (Int.toNat (Int.tmod (wW ((Int.tmod n2 (l4:Int))+(l4:Int))) (l4:Int))*1))=some (iV n8)∧Q (iV n8) H))
theorem Hj {p1:Option Addr}{n2:Int} (h:k9 p1 n2 Q H):ac PP 9 #[.pointer p1,.int .i64 n2] Q H :=
 okF Tryz.func9 rfl h
abbrev IB:Nat:=11
def KY (p1:Option Addr) (n2:Int) (s3:ByteArray) (n4:Int) (a5:Option Addr) (l5:Nat) (c5:Nat) (Q:QT) (H:ae):Prop :=
 ∃ q6,p1=some q6∧∃ p7,aa H q6=some (pV p7)∧cS 30 #[pV p7,iV n2,sV s3,iV n4,lV a5 l5 c5] (fun v8 H1=>∃ n9 n10,v8=.tuple #[iV n9,iV n10]∧cS 24 #[iV n10] (fun v11 H2=>∃ n12,v11=iV n12∧cond (n12 == 0) (cS 26 #[pV p1,iV n9] (fun v13 H3=>v13=.tuple #[]∧cS 24 #[iV n10] (fun v14 H4=>∃ n15,v14=iV n15∧Q (.tuple #[iV n9,iV n15]) H4) H3) H2) (cS 24 #[iV n10] (fun v16 H5=>∃ n17,v16=iV n17∧Q (.tuple #[iV n9,iV n17]) H5) H2)) H1) H
theorem Et {p1:Option Addr}{n2:Int}{s3:ByteArray}{n4:Int}{a5:Option Addr}{l5:Nat}{c5:Nat} (h:KY p1 n2 s3 n4 a5 l5 c5 Q H):ac PP 11 #[.pointer p1,.int .i64 n2,.string s3,.int .i64 n4,.slice a5 l5 c5] Q H :=
 okF Tryz.func11 rfl h
abbrev Fx:Nat:=14
def KW (p1:Option Addr) (n2:Int) (s3:ByteArray) (n4:Int) (a5:Option Addr) (l5:Nat) (c5:Nat) (n6:Int) (Q:QT) (H:ae):Prop :=
 ac PP 11 #[pV p1,iV n2,sV s3,iV n4,lV a5 l5 c5] (fun v7 H1=>∃ n8 n9,v7=.tuple #[iV n8,iV n9]∧cond (n9 == 0) (Q (.bool (n8 == n6)) H1) (Q (.bool false) H1)) H
theorem Dh {p1:Option Addr}{n2:Int}{s3:ByteArray}{n4:Int}{a5:Option Addr}{l5:Nat}{c5:Nat}{n6:Int} (h:KW p1 n2 s3 n4 a5 l5 c5 n6 Q H):ac PP 14 #[.pointer p1,.int .i64 n2,.string s3,.int .i64 n4,.slice a5 l5 c5,.int .i64 n6] Q H :=
 okF Tryz.func14 rfl h
abbrev G6:Nat:=15
def LY (n1:Int) (Q:QT) (H:ae):Prop :=
 Q (iV (wW ((wW (2*n1))+1))) H
theorem Dp {n1:Int} (h:LY n1 Q H):ac PP 15 #[.int .i64 n1] Q H :=
 okF Tryz.func15 rfl h
abbrev Kg:Nat:=16
def L1 (n1:Int) (n2:Int) (n3:Int) (Q:QT) (H:ae):Prop :=
 cond (decide (n1 ≥ n2)) (cond (decide (n1<=n3)) (Q (iV n1) H) (cond (decide ((wW ((wW (n3-n2))+1))=0)) False (cond (decide ((Int.tmod n1 (wW ((wW (n3-n2))+1)))<0)) (Q (iV (wW (n2+(wW ((wW ((wW ((Int.tmod n1 (wW ((wW (n3-n2))+1)))+n3))-n2))+1))))) H) (Q (iV (wW (n2+(Int.tmod n1 (wW ((wW (n3-n2))+1)))))) H)))) (cond (decide ((wW ((wW (n3-n2))+1))=0)) False (cond (decide ((Int.tmod n1 (wW ((wW (n3-n2))+1)))<0)) (Q (iV (wW (n2+(wW ((wW ((wW ((Int.tmod n1 (wW ((wW (n3-n2))+1)))+n3))-n2))+1))))) H) (Q (iV (wW (n2+(Int.tmod n1 (wW ((wW (n3-n2))+1)))))) H)))
theorem EY {n1:Int}{n2:Int}{n3:Int} (h:L1 n1 n2 n3 Q H):ac PP 16 #[.int .i64 n1,.int .i64 n2,.int .i64 n3] Q H :=
 okF Tryz.func16 rfl h
abbrev AV:Nat:=17
def KT (p1:Option Addr) (n2:Int) (n3:Int) (s4:ByteArray) (n5:Int) (a6:Option Addr) (l6:Nat) (c6:Nat) (n7:Int) (Q:QT) (H:ae):Prop :=
 ∃(I8:IT) (μ8:MT),I8 [lV none 0 0,iV 0] (H.push (.cells #[iV n2,iV n3,sV s4,iV n5,lV a6 l6 c6,iV n7] 28))∧∀ w9 H1,I8 w9 H1->∀ _g:Nat->Value,∃ a10 l10 c10 n11,w9=[lV a10 l10 c10,iV n11]∧∃ q12,p1=some q12∧∃ a13 l13 c13,aa H1 (q12.add 1)=some (lV a13 l13 c13)∧cond (decide (n11<(l13:Int))) (∃ q14,p1=some q14∧∃ a15 l15 c15,aa H1 (q14.add 1)=some (lV a15 l15 c15)∧((0:Int)<=n11∧n11<(l15:Int))∧∃ q16,a15=some q16∧∃ n17,aa H1 (q16.add (Int.toNat n11*1))=some (iV n17)∧cS 32 #[pV p1,iV n17] (fun v18 H2=>∃ a19 l19 c19,v18=lV a19 l19 c19∧aK PP (Builtin.append_ #[80,80] 80 #[lV a10 l10 c10,lV (some (A0 H2.size)) 1 1]) (fun v20 H3=>∃ a21 l21 c21,v20=lV a21 l21 c21∧I8 [lV a21 l21 c21,iV (wW (n11+1))] H3∧μ8 [lV a21 l21 c21,iV (wW (n11+1))] H3<μ8 w9 H1) (H2.push (.cells #[lV a19 l19 c19] 30))) H1) (∃(I22:IT) (μ22:MT),I22 [lV none 0 0,iV 0] H1∧∀ w23 H4,I22 w23 H4->∀ _g:Nat->Value,∃ a24 l24 c24 n25,w23=[lV a24 l24 c24,iV n25]∧∃ a26 l26 c26,aa H4 ((A0 H.size).add 4)=some (lV a26 l26 c26)∧cond (decide (n25<(l26:Int))) (∃ a27 l27 c27,aa H4 ((A0 H.size).add 4)=some (lV a27 l27 c27)∧((0:Int)<=n25∧n25<(l27:Int))∧∃ q28,a27=some q28∧∃ n29,aa H4 (q28.add (Int.toNat n25*1))=some (iV n29)∧cS 9 #[pV p1,iV n29] (fun v30 H5=>∃ n31,v30=iV n31∧aK PP (Builtin.append_ #[30,30] 30 #[lV a24 l24 c24,lV (some (A0 H5.size)) 1 1]) (fun v32 H6=>∃ a33 l33 c33,v32=lV a33 l33 c33∧I22 [lV a33 l33 c33,iV (wW (n25+1))] H6∧μ22 [lV a33 l33 c33,iV (wW (n25+1))] H6<μ22 w23 H4) (H5.push (.cells #[iV n31] 26))) H4) (∃ n34,aa H4 ((A0 H.size).add 3)=some (iV n34)∧cS 9 #[pV p1,iV n34] (fun v35 H7=>∃ n36,v35=iV n36∧∃ q37,p1=some q37∧∃ p38,aa H7 q37=some (pV p38)∧cS 33 #[pV p38] (fun v39 H8=>∃ p40,v39=pV p40∧cS 34 #[pV p40] (fun v41 H9=>∃ n42,v41=iV n42∧∃ q43,p1=some q43∧∃ p44,aa H9 q43=some (pV p44)∧∃ n45,aa H9 ((A0 H.size).add 1)=some (iV n45)∧∃ s46,aa H9 ((A0 H.size).add 2)=some (sV s46)∧cS 30 #[pV p44,iV n45,sV s46,iV n36,lV a24 l24 c24] (fun v47 H10=>∃ n48 n49,v47=.tuple #[iV n48,iV n49]∧True∧∃ q50,p1=some q50∧∃ p51,aa H10 q50=some (pV p51)∧cS 33 #[pV p51] (fun v52 H11=>∃ p53,v52=pV p53∧cS 34 #[pV p53] (fun v54 H12=>∃ n55,v54=iV n55∧∃ J56:IT,(cond (decide ((wW (n55-n42))<0)) (Q (.bool false) H12) (cond (decide ((wW (n55-n42)) > 1)) (Q (.bool false) H12) (cond ((wW (n55-n42)) == 1) (∃ s57,aa H12 ((A0 H.size).add 2)=some (sV s57)∧cond (!(cp s57 (⟨#[97,115,83,121,109,98,111,108]⟩:ByteArray))) (Q (.bool false) H12) (cS 24 #[iV n49] (fun v58 H13=>∃ n59,v58=iV n59∧cond (n59 != 0) (Q (.bool false) H13) (J56 [] H13)) H12)) (J56 [] H12))))∧∀ w60 H14,J56 w60 H14->∀ _g:Nat->Value,w60=[]∧∃(I61:IT) (μ61:MT),I61 [iV 0] H14∧∀ w62 H15,I61 w62 H15->∀ _g:Nat->Value,∃ n63,w62=[iV n63]∧cond (decide (n63<(l10:Int))) (((0:Int)<=n63∧n63<(l10:Int))∧∃ q64,a10=some q64∧∃ a65 l65 c65,aa H15 (q64.add (Int.toNat n63*1))=some (lV a65 l65 c65)∧∃ q66,p1=some q66∧∃ a67 l67 c67,aa H15 (q66.add 1)=some (lV a67 l67 c67)∧((0:Int)<=n63∧n63<(l67:Int))∧∃ q68,a67=some q68∧∃ n69,aa H15 (q68.add (Int.toNat n63*1))=some (iV n69)∧cS 32 #[pV p1,iV n69] (fun v70 H16=>∃ a71 l71 c71,v70=lV a71 l71 c71∧((aa H16 (q64.add (Int.toNat n63*1))=some (lV a65 l65 c65)∧True)∧True)∧cS 35 #[lV a65 l65 c65,lV a71 l71 c71] (fun v72 H17=>∃ n73,v72=iV n73∧True∧cS 24 #[iV n49] (fun v74 H18=>∃ n75,v74=iV n75∧cond (n75 == 0) (∃ q76,p1=some q76∧∃ a77 l77 c77,aa H18 (q76.add 1)=some (lV a77 l77 c77)∧((0:Int)<=n63∧n63<(l77:Int))∧∃ q78,a77=some q78∧∃ n79,aa H18 (q78.add (Int.toNat n63*1))=some (iV n79)∧cond (n79 == n36) (∃ s80,aa H18 ((A0 H.size).add 2)=some (sV s80)∧cond (cp s80 (⟨#[97,116,58,112,117,116,58]⟩:ByteArray)) (cond (decide (n73<0)) (Q (.bool false) H18) (cond (decide (n73 > 1)) (Q (.bool false) H18) (cond (n73 == 1) (I61 [iV (wW (n63+1))] H18∧μ61 [iV (wW (n63+1))] H18<μ61 w62 H15) (I61 [iV (wW (n63+1))] H18∧μ61 [iV (wW (n63+1))] H18<μ61 w62 H15)))) (∃ s81,aa H18 ((A0 H.size).add 2)=some (sV s81)∧cond (decide (n73<0)) (Q (.bool false) H18) (cond (decide (n73 > 1)) (Q (.bool false) H18) (cond (n73 == 1) (cond (!(cp s81 (⟨#[105,110,115,116,86,97,114,65,116,58,112,117,116,58]⟩:ByteArray))) (Q (.bool false) H18) (I61 [iV (wW (n63+1))] H18∧μ61 [iV (wW (n63+1))] H18<μ61 w62 H15)) (I61 [iV (wW (n63+1))] H18∧μ61 [iV (wW (n63+1))] H18<μ61 w62 H15))))) (cond (decide (n73<0)) (Q (.bool false) H18) (cond (decide (n73 > 1)) (Q (.bool false) H18) (cond (n73 == 1) (Q (.bool false) H18) (I61 [iV (wW (n63+1))] H18∧μ61 [iV (wW (n63+1))] H18<μ61 w62 H15))))) (cond (decide (n73<0)) (Q (.bool false) H18) (cond (decide (n73 > 1)) (Q (.bool false) H18) (cond (n73 == 1) (Q (.bool false) H18) (I61 [iV (wW (n63+1))] H18∧μ61 [iV (wW (n63+1))] H18<μ61 w62 H15))))) H17) H16) H15) (cS 24 #[iV n49] (fun v82 H19=>∃ n83,v82=iV n83∧cond (n83 != 0) (Q (.bool (n48 == 0)) H19) (∃(I84:IT) (μ84:MT),I84 [.bool false,iV 0] H19∧∀ w85 H20,I84 w85 H20->∀ _g:Nat->Value,∃ b86 n87,w85=[.bool b86,iV n87]∧∃ q88,p1=some q88∧∃ a89 l89 c89,aa H20 (q88.add 1)=some (lV a89 l89 c89)∧cond (decide (n87<(l89:Int))) (cond b86 (I84 [.bool true,iV (wW (n87+1))] H20∧μ84 [.bool true,iV (wW (n87+1))] H20<μ84 w85 H20) (∃ q90,p1=some q90∧∃ a91 l91 c91,aa H20 (q90.add 1)=some (lV a91 l91 c91)∧((0:Int)<=n87∧n87<(l91:Int))∧∃ q92,a91=some q92∧∃ n93,aa H20 (q92.add (Int.toNat n87*1))=some (iV n93)∧I84 [.bool (n93 == n48),iV (wW (n87+1))] H20∧μ84 [.bool (n93 == n48),iV (wW (n87+1))] H20<μ84 w85 H20)) (cond (!b86) (cS 13 #[iV n48] (fun v94 H21=>∃ n95,v94=iV n95∧cond (n95 == 3) (cS 32 #[pV p1,iV n48] (fun v96 H22=>∃ a97 l97 c97,v96=lV a97 l97 c97∧cond (decide ((l97:Int) > 0)) (cS 32 #[pV p1,iV n48] (fun v98 H23=>∃ a99 l99 c99,v98=lV a99 l99 c99∧((0:Int)<=0∧0<(l99:Int))∧∃ q100,a99=some q100∧∃ n101,aa H23 (q100.add (Int.toNat 0*1))=some (iV n101)∧cond (n101 != 48) (cS 26 #[pV p1,iV n48] (fun v102 H24=>v102=.tuple #[]∧cond (!(n48 != 72)) (Q (.bool true) H24) (∃ s103,aa H24 ((A0 H.size).add 2)=some (sV s103)∧cS 36 #[sV s103] (fun v104 H25=>∃ b105,v104=.bool b105∧cond b105 (Q (.bool true) H25) (∃ s106,aa H25 ((A0 H.size).add 2)=some (sV s106)∧cS 37 #[sV s106] (fun v107 H26=>∃ b108,v107=.bool b108∧Q (.bool b108) H26) H25)) H24)) H23) (cS 26 #[pV p1,iV n48] (fun v109 H27=>v109=.tuple #[]∧Q (.bool true) H27) H23)) H22) (cS 26 #[pV p1,iV n48] (fun v110 H28=>v110=.tuple #[]∧Q (.bool true) H28) H22)) H21) (cS 26 #[pV p1,iV n48] (fun v111 H29=>v111=.tuple #[]∧Q (.bool true) H29) H21)) H20) (cS 26 #[pV p1,iV n48] (fun v112 H30=>v112=.tuple #[]∧Q (.bool true) H30) H20)))) H15)) H11) H10) H9) H8) H7) H4))
theorem Ce {p1:Option Addr}{n2:Int}{n3:Int}{s4:ByteArray}{n5:Int}{a6:Option Addr}{l6:Nat}{c6:Nat}{n7:Int} (h:KT p1 n2 n3 s4 n5 a6 l6 c6 n7 Q H):ac PP 17 #[.pointer p1,.agg #[.int .i64 n2,.int .i64 n3,.string s4,.int .i64 n5,.slice a6 l6 c6,.int .i64 n7]] Q H :=
 aW good Tryz.func17 rfl (Ls:=fun | 4=>some [(5,80),(7,3)] | 8=>some [(6,30),(8,3)] | 1017=>some [] | 18=>some [(14,3)] | 28=>some [(17,4),(18,3)] | _=>none) (by kernel_rfl) h
abbrev Gn:Nat:=24
def Mv (n1:Int) (Q:QT) (H:ae):Prop :=
 Q (iV n1) H
theorem CG {n1:Int} (h:Mv n1 Q H):ac PP 24 #[.int .i64 n1] Q H :=
 okF Tryz.func24 rfl h
abbrev wd:Nat:=26
def L9 (p1:Option Addr) (n2:Int) (Q:QT) (H:ae):Prop :=
 ∃ q3,p1=some q3∧∃ p4,aa H q3=some (pV p4)∧cS 7 #[pV p4] (fun v5 H1=>∃ p6,v5=pV p6∧cS 74 #[pV p6,lV (some (A0 H1.size)) 1 1] (fun v7 H2=>∃ n8,v7=iV n8∧∃ q9,p1=some q9∧∃ a10 l10 c10,aa H2 (q9.add 1)=some (lV a10 l10 c10)∧aK PP (Builtin.append_ #[30,30] 30 #[lV a10 l10 c10,lV (some (A0 H2.size)) 1 1]) (fun v11 H3=>∃ a12 l12 c12,v11=lV a12 l12 c12∧∃ q13,p1=some q13∧Wr H3 (q13.add 1)∧Q (.tuple #[]) (av H3 (q13.add 1) (lV a12 l12 c12))) (H2.push (.cells #[iV n2] 26))) (H1.push (.cells #[iV n2] 26))) H
theorem Em {p1:Option Addr}{n2:Int} (h:L9 p1 n2 Q H):ac PP 26 #[.pointer p1,.int .i64 n2] Q H :=
 okF Tryz.func26 rfl h
abbrev Bm:Nat:=32
def Mc (p1:Option Addr) (n2:Int) (Q:QT) (H:ae):Prop :=
 ac PP 89 #[iV n2] (fun v3 H1=>∃ n4 n5,v3=.tuple #[iV n4,iV n5]∧cS 24 #[iV n5] (fun v6 H2=>∃ n7,v6=iV n7∧cond (n7 != 0) (Q (lV none 0 0) H2) (∃ q8,p1=some q8∧∃ p9,aa H2 q8=some (pV p9)∧cS 7 #[pV p9] (fun v10 H3=>∃ p11,v10=pV p11∧cS 44 #[pV p11] (fun v12 H4=>∃ p13,v12=pV p13∧cS 55 #[pV p13,iV n4] (fun v14 H5=>∃ n15 n16 n17,v14=.tuple #[iV n15,iV n16,iV n17]∧cS 54 #[pV p13,iV n4] (fun v18 H6=>∃ n19 n20,v18=.tuple #[iV n19,iV n20]∧cS 24 #[iV n17] (fun v21 H7=>∃ n22,v21=iV n22∧cond (n22 != 0) (Q (lV none 0 0) H7) (cS 24 #[iV n20] (fun v23 H8=>∃ n24,v23=iV n24∧cond (n24 != 0) (Q (lV none 0 0) H8) (∃(I25:IT) (μ25:MT),I25 [lV (some (A0 H8.size)) 2 2,iV 0] (H8.push (.cells #[iV n19,iV n16] 26))∧∀ w26 H9,I25 w26 H9->∀ _g:Nat->Value,∃ a27 l27 c27 n28,w26=[lV a27 l27 c27,iV n28]∧cond (decide (n28<n15)) (cS 57 #[pV p13,iV n4,iV n28] (fun v29 H10=>∃ n30 n31,v29=.tuple #[iV n30,iV n31]∧aK PP (Builtin.append_ #[30,30] 30 #[lV a27 l27 c27,lV (some (A0 H10.size)) 1 1]) (fun v32 H11=>∃ a33 l33 c33,v32=lV a33 l33 c33∧I25 [lV a33 l33 c33,iV (wW (n28+1))] H11∧μ25 [lV a33 l33 c33,iV (wW (n28+1))] H11<μ25 w26 H9) (H10.push (.cells #[iV n30] 26))) H9) (Q (lV a27 l27 c27) H9))) H7)) H6) H5) H4) H3) H2)) H1) H
theorem BJ {p1:Option Addr}{n2:Int} (h:Mc p1 n2 Q H):ac PP 32 #[.pointer p1,.int .i64 n2] Q H :=
 aW good Tryz.func32 rfl (Ls:=fun | 11=>some [(13,30),(14,3)] | _=>none) (by kernel_rfl) h
abbrev Ft:Nat:=35
def LN (a1:Option Addr) (l1:Nat) (_c1:Nat) (a2:Option Addr) (l2:Nat) (_c2:Nat) (Q:QT) (H:ae):Prop :=
 cond ((l1:Int) != (l2:Int)) (Q (iV (-1)) H) (∃(I3:IT) (μ3:MT),I3 [iV 0,iV 0] H∧∀ w4 H1,I3 w4 H1->∀ _g:Nat->Value,∃ n5 n6,w4=[iV n5,iV n6]∧cond (decide (n6<(l1:Int))) (((0:Int)<=n6∧n6<(l1:Int))∧∃ q7,a1=some q7∧∃ n8,aa H1 (q7.add (Int.toNat n6*1))=some (iV n8)∧((0:Int)<=n6∧n6<(l2:Int))∧∃ q9,a2=some q9∧∃ n10,aa H1 (q9.add (Int.toNat n6*1))=some (iV n10)∧cond (n8 != n10) (I3 [iV (wW (n5+1)),iV (wW (n6+1))] H1∧μ3 [iV (wW (n5+1)),iV (wW (n6+1))] H1<μ3 w4 H1) (I3 [iV n5,iV (wW (n6+1))] H1∧μ3 [iV n5,iV (wW (n6+1))] H1<μ3 w4 H1)) (Q (iV n5) H1))
theorem C8 {a1:Option Addr}{l1:Nat}{c1:Nat}{a2:Option Addr}{l2:Nat}{c2:Nat} (h:LN a1 l1 c1 a2 l2 c2 Q H):ac PP 35 #[.slice a1 l1 c1,.slice a2 l2 c2] Q H :=
 aW good Tryz.func35 rfl (Ls:=fun | 5=>some [(5,3),(6,3)] | _=>none) (by kernel_rfl) h
abbrev GS:Nat:=36
def LX (s1:ByteArray) (Q:QT) (H:ae):Prop :=
 cond (cp s1 (⟨#[99,111,112,121]⟩:ByteArray)) (Q (.bool true) H) (cond (cp s1 (⟨#[112,114,105,110,116,83,116,114,105,110,103]⟩:ByteArray)) (Q (.bool true) H) (cond (cp s1 (⟨#[97,115,83,116,114,105,110,103]⟩:ByteArray)) (Q (.bool true) H) (cond (cp s1 (⟨#[44]⟩:ByteArray)) (Q (.bool true) H) (cond (cp s1 (⟨#[110,101,119]⟩:ByteArray)) (Q (.bool true) H) (Q (.bool (cp s1 (⟨#[110,101,119,58]⟩:ByteArray))) H)))))
theorem Di {s1:ByteArray} (h:LX s1 Q H):ac PP 36 #[.string s1] Q H :=
 okF Tryz.func36 rfl h
abbrev I1:Nat:=37
def Mh (s1:ByteArray) (Q:QT) (H:ae):Prop :=
 cond (cp s1 (⟨#[97,116,58]⟩:ByteArray)) (Q (.bool true) H) (cond (cp s1 (⟨#[105,110,115,116,86,97,114,65,116,58]⟩:ByteArray)) (Q (.bool true) H) (cond (cp s1 (⟨#[115,101,108,101,99,116,111,114]⟩:ByteArray)) (Q (.bool true) H) (Q (.bool (cp s1 (⟨#[97,114,103,117,109,101,110,116,115]⟩:ByteArray))) H)))
theorem ES {s1:ByteArray} (h:Mh s1 Q H):ac PP 37 #[.string s1] Q H :=
 okF Tryz.func37 rfl h
end Go.Proofs.YtgjfejoohojokaaGreatDoor
namespace Kw
open Go Go.Proofs Go.Shelf Go.RowKit Go.Sort
variable {P:Program}
theorem rP {ρ:Ren} (L:LaysM.n171 P ρ) (hfn:∃ fn,P.funcs[ρ.f 171]?=some fn∧fn.body.isSome=true){n:Int} (h0:-9223372036854775808<=n) (h1:n<=9223372036854775807){H:ae}{Q:Value->ae->Prop}
  (ht : ∀ w : World, w.heap = H -> Lib.TabIs P w "internal/strconv.uint64pow10" .u64 Lib.pow10Tab) (h : ∀ H', Fr [] H H' -> Q (.string ⟨(Lib.itoa n).toArray⟩) H') : ac P (ρ.f 171) #[.int .i64 n] Q H := by
 refine ko hfn (fun w hw=>(Any.strconv_Itoa L n h0 h1 w (ht w hw)).mono ?_) h
 rintro e w' ⟨rfl,k,os,rfl⟩
 refine ⟨rfl,⟨rfl,rfl,rfl,?_,fun b hb=>?_⟩⟩
 ·show w.heap.size<=(w.heap++os).size
  rw [Array.size_append];exact Nat.le_add_right _ _
 ·show (w.heap++os)[b]?=w.heap[b]?
  rw [Array.getElem?_append_left hb]
theorem qH:∀ (k u:Nat),u<10 ^ (k+1)->(Lib.decDigits u).length<=k+1
 | 0,u,h=>by rw [Lib.decDigits,dif_pos (by simpa using h)];simp
 | k+1,u,h=>by
  rw [Lib.decDigits]
  split
  ·simp
  ·have:=qH k (u / 10) (by rw [Nat.pow_succ] at h;omega)
   rw [List.length_append]
   simp only [List.length_cons,List.length_nil]
   omega
theorem vy {n:Int} (h0:-1073741824<=n) (h1:n<=1073741823):(Lib.itoa n).length<=11:=by
 unfold Lib.itoa
 split
 ·have:=qH 9 n.natAbs (by omega)
  simp only [List.length_cons];omega
 ·have:=qH 9 n.toNat (by omega)
  omega
end Kw
namespace Go.Proofs.YtgjfejoohojokaaGreatDoor
open Kw
abbrev gP:Nat:=dQ
def d7 (H:ae):Prop:=∃ e:TypeId × (Nat × Nat),H[gP]?=some (.cells (Lib.pow10Tab.map fun z=>Value.int .u64 z).toArray e.1 e.2)
theorem d7.lt {H:ae} (h:d7 H):gP<H.size:=by
 obtain ⟨e,h⟩:=h
 exact (Array.getElem?_eq_some_iff.1 h).1
theorem d7.fr {H H':ae}{G:az} (h:d7 H) (hf:Fr G H H') (hg:gP∉G):d7 H':=by
 have hl:=h.lt
 obtain ⟨e,h⟩:=h
 exact ⟨e,(hf.2 _ hl hg).trans h⟩
def DK (H:ae) (db:Nat) (D:az) (s:SP) (t:TB) (ws:List Int):Prop:=∃ b F a l c G,D=db :: (G++F)∧aV H db #[.pointer (some ⟨b,0,none⟩),.slice a l c]∧bK 1 H a l c (ag ws) G∧PK H b F s t∧db∉F∧db∉G∧cA G F∧ax∉D∧gP∉D∧d7 H
theorem DK.lt {H:ae}{db:Nat}{D:az}{s:SP}{t:TB}{ws:List Int} (h:DK H db D s t ws):∀ x∈D,x<H.size:=by
 obtain ⟨b,F,a,l,c,G,rfl,hB,hO,hK,_⟩:=h
 intro x hx
 rcases List.mem_cons.1 hx with rfl | hx
 ·exact hB.lt
 ·rcases List.mem_append.1 hx with hx | hx
  ·exact hO.lt x hx
  ·exact hK.lt x hx
theorem DK.nil {H H':ae}{db:Nat}{D:az}{s:SP}{t:TB}{ws:List Int} (h:DK H db D s t ws) (hf:Fr [] H H'):DK H' db D s t ws:=by
 obtain ⟨b,F,a,l,c,G,rfl,hB,hO,hK,h1,h2,h3,h4,h5,h6⟩:=h
 exact ⟨b,F,a,l,c,G,rfl,hB.fr hf (by simp),hO.fr hf (by simp),hK.nil hf,h1,h2,h3,h4,h5,h6.fr hf (by simp)⟩
structure PrimS (s:SP) (t:TB) (k:Int) (x:ByteArray) (r:Int) (ar:List Int) (res:Int × Int) (s':SP) (t':TB):Prop where
 go:∀ {H:ae}{b:Nat}{F:az}{a:Option Addr}{l c:Nat}{Q:QT},PK H b F s t->d7 H->Rd 1 H a l (ag ar)->(∀ p,a=some p->p.block∉F)->l<=1000 ->
  (∀ H' F',PK H' b F' s' t'->Up F H F' H'->Q (.tuple #[.int .i64 res.1,.int .i64 res.2]) H')->ac PP sK #[.pointer (some ⟨b,0,none⟩),.int .i64 k,.string x,.int .i64 r,.slice a l c] Q H
section
variable {H:ae}{db:Nat}{D:az}{s:SP}{t:TB}{v:KV}{ws:List Int}{Q:QT}{r x:Int}
theorem dR {n:Int} (h:Q (.int .i64 n) H):ac PP Gn #[.int .i64 n] Q H:=by
 apply CG
 exact h
theorem nN (hD:DK H db D s t ws) (hl:ws.length<=100000){w:Int} (h:∀ H' D',DK H' db D' (s.keepW [w]).2 t (ws++[w])->Up D H D' H'->Q (.tuple #[]) H'):ac PP wd #[.pointer (some ⟨db,0,none⟩),.int .i64 w] Q H:=by
 have hsW:aI PP 30=some (1,8,some (.int .i64 0)):=by kernel_rfl
 have hlt:=hD.lt
 obtain ⟨b,F,a,l,c,G,rfl,hB,hO,hK,d1,d2,d3,d4,d5,d6⟩:=hD
 have hpl:=d6.lt
 have hgl:=hK.kinds.lt
 simp only [List.mem_cons,List.mem_append,not_or] at d4 d5
 apply Em
 unfold L9 A0 iV pV lV cS
 refine ⟨_,rfl,_,hB.cell 0,cG hK fun sb F1 _ hS hsub hup _=>⟨_,rfl,?_⟩⟩
 have f1:=Fr.push [] H (.cells #[.int .i64 w] 26)
 have hr:Rd 1 (H.push (.cells #[.int .i64 w] 26)) (some ⟨H.size,0,none⟩) 1 (ag [w]):=(show bK 1 (H.push (.cells #[.int .i64 w] 26)) (some ⟨H.size,0,none⟩) 1 1 (ag [w]) [H.size] from ⟨by simp [ag],Nat.le_refl _,.inr ⟨_,_,rfl,rfl,aV.new _ _ _,by simp,by simp [ag]⟩⟩).rd
 refine lE (hS.nilfr f1) hr (by decide) fun H2 F1' hS2 u2=>⟨_,rfl,?_⟩
 have u2':Up F1 H F1' H2:=⟨⟨Nat.le_trans f1.1 u2.1.1,fun y hy hn=>by rw [u2.1.2 y (Nat.lt_of_lt_of_le hy f1.1) hn,f1.2 y hy (by simp)]⟩,fun y hy=>(u2.2 y hy).imp id fun h=>Nat.le_trans f1.1 h⟩
 obtain ⟨F2,hK2,uF⟩:=hup H2 F1' _ hS2 u2'
 have hB2:=hB.fr uF.1 d1
 have hO2:=hO.fr uF.1 d3
 refine ⟨_,rfl,_,_,_,hB2.cell 1,?_⟩
 have hlw:ws.length=l:=by have:=hO.len;simpa [ag] using this
 refine bJ hsW rfl (by kernel_rfl) hO2 rfl (by simp [dC]) (by omega) (by decide) (by decide) fun a3 c3 G3 H3 hO3 u3 lt3=>⟨_,_,_,rfl,?_⟩
 have hs2:=uF.1.1
 have newF:∀ x∈F2,x∉G:=fun x hx hm=>by
  rcases uF.2 x hx with h1 | h1
  ·exact d3 x hm h1
  ·have:=hlt x (by simp [hm]);omega
 have hB3:=hB2.fr u3.1 d2
 have hK3:=hK2.fr u3.1 newF d4.2.1
 refine ⟨_,rfl,hB3.wr (o:=1) (by simp),?_⟩
 have f4:Fr [db] H3 (av H3 ((⟨db,0,none⟩:Addr).add 1) (.slice a3 (l+1) c3)):=Fr.set (by show db∈[db];simp)
 have hB4:aV (av H3 ((⟨db,0,none⟩:Addr).add 1) (.slice a3 (l+1) c3)) db #[.pointer (some ⟨b,0,none⟩),.slice a3 (l+1) c3]:=hB3.set 1 _
 have ndG3:db∉G3:=fun hm=>by
  rcases u3.2 db hm with h1 | h1
  ·exact d2 h1
  ·have:=hlt db (by simp);omega
 have ndF2:db∉F2:=fun hm=>by
  rcases uF.2 db hm with h1 | h1
  ·exact d1 h1
  ·have:=hlt db (by simp);omega
 have dGF:cA G3 F2:=fun x hx hm=>by
  rcases u3.2 x hx with h1 | h1
  ·exact newF x hm h1
  ·have:=hK2.lt x hm;omega
 have hd1:∀ y∈G3,y∉[db]:=fun y hy hm=>ndG3 (by rw [←List.mem_singleton.1 hm];exact hy)
 have hd2:∀ y∈F2,y∉[db]:=fun y hy hm=>ndF2 (by rw [←List.mem_singleton.1 hm];exact hy)
 refine h _ (db :: (G3++F2)) ⟨b,F2,a3,l+1,c3,G3,rfl,hB4,?_,hK3.fr f4 hd2 (fun hm=>d4.1 (List.mem_singleton.1 hm)),ndF2,ndG3,dGF,?_,?_,((d6.fr uF.1 d5.2.2).fr u3.1 d5.2.1).fr f4 (fun hm=>d5.1 (List.mem_singleton.1 hm))⟩ ⟨?_,fun y hy=>?_⟩
 ·have:=hO3.fr f4 hd1
  have e:ag (ws++[w])=ag ws++[.int .i64 w]:=by simp [ag]
  rw [e];exact this
 ·simp only [List.mem_cons,List.mem_append,not_or]
  refine ⟨d4.1,fun hm=>?_,fun hm=>?_⟩
  ·rcases u3.2 _ hm with h1 | h1
   ·exact d4.2.1 h1
   ·omega
  ·rcases uF.2 _ hm with h1 | h1
   ·exact d4.2.2 h1
   ·omega
 ·simp only [List.mem_cons,List.mem_append,not_or]
  refine ⟨d5.1,fun hm=>?_,fun hm=>?_⟩
  ·rcases u3.2 _ hm with h1 | h1
   ·exact d5.2.1 h1
   ·omega
  ·rcases uF.2 _ hm with h1 | h1
   ·exact d5.2.2 h1
   ·omega
 ·refine ⟨Nat.le_trans hs2 (Nat.le_trans u3.1.1 f4.1),fun y hy hn=>?_⟩
  simp only [List.mem_cons,List.mem_append,not_or] at hn
  rw [f4.2 y (by have:=u3.1.1;omega) (by simpa using hn.1),u3.1.2 y (by omega) hn.2.1,uF.1.2 y hy hn.2.2]
 ·simp only [List.mem_cons,List.mem_append] at hy ⊢
  rcases hy with rfl | hy | hy
  ·exact .inl (.inl rfl)
  ·rcases u3.2 y hy with h1 | h1
   ·exact .inl (.inr (.inl h1))
   ·exact .inr (by omega)
  ·rcases uF.2 y hy with h1 | h1
   ·exact .inl (.inr (.inr h1))
   ·exact .inr h1
def vL (s:SP) (ws:List Int) (res:Int × Int):SP × List Int:=if res.2=0 then ((s.keepW [res.1]).2,ws++[res.1]) else (s,ws)
theorem ID (hD:DK H db D s t ws) (hl:ws.length<=100000){k:Int}{x:ByteArray}{ar:List Int}{res:Int × Int}{s':SP}{t':TB} (hp:PrimS s t k x r ar res s' t'){a:Option Addr}{l c:Nat} (hr:Rd 1 H a l (ag ar)) (ho:∀ p,a=some p->p.block∉D) (hal:l<=1000)
  (h:∀ H' D',DK H' db D' (vL s' ws res).1 t' (vL s' ws res).2->Up D H D' H'->Q (.tuple #[.int .i64 res.1,.int .i64 res.2]) H') :
  ac PP IB #[.pointer (some ⟨db,0,none⟩),.int .i64 k,.string x,.int .i64 r,.slice a l c] Q H:=by
 have hlt:=hD.lt
 obtain ⟨b,F,a1,l1,c1,G,rfl,hB,hO,hK,d1,d2,d3,d4,d5,d6⟩:=hD
 have hpl:=d6.lt
 have hgl:=hK.kinds.lt
 simp only [List.mem_cons,List.mem_append,not_or] at d4 d5
 apply Et
 unfold KY iV pV sV lV cS
 refine ⟨_,rfl,_,hB.cell 0,hp.go hK d6 hr (fun p hp hm=>ho p hp (by simp [hm])) hal fun H2 F2 hK2 uF=>⟨_,_,rfl,dR ⟨_,rfl,?_⟩⟩⟩
 have hs2:=uF.1.1
 have hB2:=hB.fr uF.1 d1
 have hO2:=hO.fr uF.1 d3
 have ndF2:db∉F2:=fun hm=>by
  rcases uF.2 db hm with h1 | h1
  ·exact d1 h1
  ·have:=hlt db (by simp);omega
 have dGF:cA G F2:=fun x hx hm=>by
  rcases uF.2 x hm with h1 | h1
  ·exact d3 x hx h1
  ·have:=hlt x (by simp [hx]);omega
 have hD2:DK H2 db (db :: (G++F2)) s' t' ws:=⟨b,F2,a1,l1,c1,G,rfl,hB2,hO2,hK2,ndF2,d2,dGF,by
  simp only [List.mem_cons,List.mem_append,not_or]
  refine ⟨d4.1,d4.2.1,fun hm=>?_⟩
  rcases uF.2 _ hm with h1 | h1
  ·exact d4.2.2 h1
  ·omega,by
  simp only [List.mem_cons,List.mem_append,not_or]
  refine ⟨d5.1,d5.2.1,fun hm=>?_⟩
  rcases uF.2 _ hm with h1 | h1
  ·exact d5.2.2 h1
  ·omega,d6.fr uF.1 d5.2.2⟩
 have u2:Up (db :: (G++F)) H (db :: (G++F2)) H2:=by
  refine ⟨uF.1.mono fun y hy=>by simp [hy],fun y hy=>?_⟩
  simp only [List.mem_cons,List.mem_append] at hy ⊢
  rcases hy with rfl | hy | hy
  ·exact .inl (.inl rfl)
  ·exact .inl (.inr (.inl hy))
  ·exact (uF.2 y hy).imp (fun h1=>.inr (.inr h1)) id
 unfold vL at h
 rw [aX,af]
 refine ap (fun h0=>?_) fun h0=>?_
 ·simp only [if_pos h0] at h
  exact nN hD2 hl fun H3 D3 hD3 u3=>⟨rfl,dR ⟨_,rfl,h H3 D3 hD3 (u2.trans u3)⟩⟩
 ·simp only [if_neg h0] at h
  exact dR ⟨_,rfl,h H2 _ hD2 u2⟩
theorem Id (hD:DK H db D s t ws) (hl:ws.length<=100000){k:Int}{x:ByteArray}{ar:List Int}{w want:Int}{s':SP}{t':TB} (hp:PrimS s t k x r ar (w,0) s' t'){a:Option Addr}{l c:Nat} (hr:Rd 1 H a l (ag ar)) (ho:∀ p,a=some p->p.block∉D) (hal:l<=1000)
  (h:∀ H' D',DK H' db D' (s'.keepW [w]).2 t' (ws++[w])->Up D H D' H'->Q (.bool (decide (w=want))) H') :
  ac PP Fx #[.pointer (some ⟨db,0,none⟩),.int .i64 k,.string x,.int .i64 r,.slice a l c,.int .i64 want] Q H:=by
 apply Dh
 unfold KW iV pV sV lV
 refine ID hD hl hp hr ho hal fun H2 D2 hD2 u2=>⟨_,_,rfl,?_⟩
 rw [aX]
 exact h H2 D2 hD2 u2
end
abbrev mn (n:Int):Prop:=-1073741824<=n∧n<=1073741823
def eG (n:Int):Int:=fe .i64 (eA .i64 n 33) 33
def tJ (g:Nat) (f:Int->Int->Int × Int):Prop:=∀ (n m:Int),mn n->mn m->∀ {Q:QT}{H:ae},Q (.tuple #[.int .i64 (f n m).1,.int .i64 (f n m).2]) H->ac PP g #[.int .i64 n,.int .i64 m] Q H
section
variable {H:ae}{Q:QT}
theorem pP {n:Int} (hn:mn n) (h:Q (.bool true) H):ac PP A7 #[.int .i64 n] Q H:=by
 apply vW
 unfold Lc
 rw [af,if_pos hn.1,decide_eq_true hn.2]
 exact h
theorem kP {n:Int} (h:Q (.int .i64 (eG n)) H):ac PP B7 #[.int .i64 n] Q H:=by
 apply yL
 exact h
theorem gu {n m x:Int} (hn:mn n) (hm:mn m) (h:Q (.tuple #[.int .i64 (eG x),.int .i64 0]) H):ac PP Cj #[.int .i64 n,.int .i64 m,.int .i64 x] Q H:=by
 apply yU
 unfold HG iV cS
 refine pP hn ⟨_,rfl,?_⟩
 rw [Bool.not_true,cond_false]
 refine pP hm ⟨_,rfl,?_⟩
 rw [Bool.not_true,cond_false]
 exact kP ⟨_,rfl,h⟩
end
def o7 (n m:Int):Int × Int:=(eG (IntKind.wrap .i64 (n+m)),0)
def mq (n m:Int):Int × Int:=(eG (IntKind.wrap .i64 (n-m)),0)
def vu (n m:Int):Int × Int:=(eG (IntKind.wrap .i64 (n*m)),0)
def vj (n m:Int):Int × Int:=(eG (ja .i64 n m),0)
def G8 (n m:Int):Int × Int:=(eG (sy .i64 n m),0)
def we (n m:Int):Int × Int:=(eG (GE .i64 n m),0)
def jS (n m:Int):Int × Int:=if m<0 then (eG (fe .i64 n (IntKind.wrap .i64 (0-(if m < -31 then -31 else m)))),0) else (eG (eA .i64 n (if 31<m then 31 else m)),0)
def kB (n m:Int):Int × Int × Int:=if m=0 then (0,0,11) else
 if Int.tmod n m≠0∧((Int.tmod n m<0)≠(m<0)) then (eG (IntKind.wrap .i64 (IntKind.wrap .i64 (Int.tdiv n m)-1)),IntKind.wrap .i64 (Int.tmod n m+m),0)
 else (eG (IntKind.wrap .i64 (Int.tdiv n m)),Int.tmod n m,0)
def wn (n m:Int):Int × Int:=((kB n m).1,(kB n m).2.2)
def wT (n m:Int):Int × Int:=((kB n m).2.1,(kB n m).2.2)
theorem wK:tJ Dx o7:=fun n m hn hm {Q H} h=>by
 apply zR
 unfold Hu iV wW
 exact gu hn hm ⟨_,_,rfl,h⟩
theorem uW:tJ E6 mq:=fun n m hn hm {Q H} h=>by
 apply xx
 unfold Kq iV wW
 exact gu hn hm ⟨_,_,rfl,h⟩
theorem Cf:tJ Fd vu:=fun n m hn hm {Q H} h=>by
 apply xC
 unfold Ga iV wW
 exact gu hn hm ⟨_,_,rfl,h⟩
theorem BV:tJ D1 vj:=fun n m hn hm {Q H} h=>by
 apply xT
 unfold KI iV
 exact gu hn hm ⟨_,_,rfl,h⟩
theorem GV:tJ Bw G8:=fun n m hn hm {Q H} h=>by
 apply x6
 unfold Gx iV
 exact gu hn hm ⟨_,_,rfl,h⟩
theorem Cn:tJ CN we:=fun n m hn hm {Q H} h=>by
 apply zo
 unfold IE iV
 exact gu hn hm ⟨_,_,rfl,h⟩
theorem vU:tJ Ev jS:=fun n m hn hm {Q H} h=>by
 apply Az
 unfold IL iV wW cS
 unfold jS at h
 rw [af]
 refine ap (fun h1=>?_) fun h1=>?_
 ·rw [if_pos h1] at h
  rw [af,if_neg ?_]
  ·exact gu hn hm ⟨_,_,rfl,h⟩
  ·split
   ·decide
   ·rw [ah (by omega) (by omega)];omega
 ·rw [if_neg h1] at h
  rw [af,if_neg ?_]
  ·exact gu hn hm ⟨_,_,rfl,h⟩
  ·split <;> omega
theorem mW {n m:Int} (hn:mn n) (hm:mn m){Q:QT}{H:ae} (h:Q (.tuple #[.int .i64 (kB n m).1,.int .i64 (kB n m).2.1,.int .i64 (kB n m).2.2]) H):ac PP DI #[.int .i64 n,.int .i64 m] Q H:=by
 apply z7
 unfold HQ iV wW cS
 unfold kB at h
 refine pP hn ⟨_,rfl,?_⟩
 rw [Bool.not_true,cond_false]
 refine pP hm ⟨_,rfl,?_⟩
 rw [Bool.not_true,cond_false]
 refine iv (fun h0=>?_) fun h0=>?_
 ·rw [if_pos h0] at h;exact h
 rw [if_neg h0] at h
 rw [af,if_neg h0,af,if_neg h0,aY,af]
 refine ap (fun h1=>?_) fun h1=>?_
 ·by_cases h2:(Int.tmod n m<0)≠(m<0)
  ·rw [if_pos ⟨h1,h2⟩] at h
   have:(!(decide (Int.tmod n m<0) == decide (m<0)))=true:=by
    rw [Bool.not_eq_true',beq_eq_false_iff_ne]
    intro e
    exact h2 (by rw [←decide_eq_true_eq (p:=Int.tmod n m<0),←decide_eq_true_eq (p:=m<0),e])
   rw [this,cond_true]
   exact kP ⟨_,rfl,h⟩
  ·rw [if_neg (fun e=>h2 e.2)] at h
   have h2:=Classical.byContradiction h2
   have:(!(decide (Int.tmod n m<0) == decide (m<0)))=false:=by
    simp [h2]
   rw [this,cond_false]
   exact kP ⟨_,rfl,h⟩
 ·rw [if_neg (fun e=>h1 e.1)] at h
  exact kP ⟨_,rfl,h⟩
theorem DQ:tJ Cr wn:=fun n m hn hm {Q H} h=>by
 apply y7
 unfold HX iV
 exact mW hn hm ⟨_,_,_,rfl,h⟩
theorem ET:tJ DV wT:=fun n m hn hm {Q H} h=>by
 apply Ae
 unfold Ig iV
 exact mW hn hm ⟨_,_,_,rfl,h⟩
theorem lI {n m:Int} (hm:m≠0):(0<m->-m<Int.tmod n m∧Int.tmod n m<m)∧(m<0->m<Int.tmod n m∧Int.tmod n m < -m):=by
 have h1:=Int.natAbs_tmod n m
 have h2:n.natAbs % m.natAbs<m.natAbs:=Nat.mod_lt _ (by omega)
 omega
theorem lY {n:Int} (h:mn n):aD (2*n+1)=1:=by
 have:=aS (2*n+1)
 obtain ⟨h1,h2⟩:=h
 omega
theorem sU {n:Int} (h:mn n):eT (2*n+1)=n:=by
 unfold eT
 rw [if_pos (lY h)]
 omega
theorem uN (n:Int):(2*n+1) / 2=n:=by omega
theorem oJ {r:RH}{n:Int} (h:mn n):dh r (2*n+1)=8:=by
 unfold dh uM
 rw [if_pos (lY h)]
 rfl
theorem qL (v:KV){k:Int} (h:k≠0):jn v k k=true:=by
 unfold jn kv
 rw [if_neg h,if_pos rfl]
theorem fC {k:Int} (h1:1<=k) (h2:k<=65536):aD (4*k)=3:=by
 have:=aS (4*k)
 omega
theorem sk {s:SP}{t:TB}{v:KV} (hv:KAllW s t v){k:Int}{xs:List Int} (h:kk s.h k xs):1<=k∧k<=65536:=by
 obtain ⟨o,ho,_⟩:=h
 have hm:=au ho
 have:=hv.ks.wf.h.objs.good o hm.1
 have h1:=this.oop1
 have h2:=this.oop2
 have h3:=hv.ks.wf.h.o1
 omega
theorem C9 {r:RH}{k:Int}{xs:List Int} (h:kk r k xs) (h1:1<=k) (h2:k<=65536):dh r (4*k)=10:=by
 obtain ⟨o,ho,hf,hc,_⟩:=h
 have hk:=fC h1 h2
 have e:(4*k) / 4=k:=by omega
 have eo:uM r (4*k)=(10,0):=by
  unfold uM
  rw [if_neg (by omega),if_neg (by omega),if_pos hk,e]
  unfold RH.clsAt
  rw [ho]
  simp only [hc,if_true]
  rfl
 unfold dh
 rw [eo]
 rfl
theorem sw {r:RH}{k:Int}{xs:List Int} (h:kk r k xs) (h1:1<=k) (h2:k<=65536):cD r (4*k)=((xs.length:Int),1):=by
 obtain ⟨o,ho,hf,hc,rfl⟩:=h
 unfold cD
 rw [if_pos (fC h1 h2)]
 have e:(4*k) / 4=k:=by omega
 unfold RH.size
 rw [e,ho]
 simp only [hf]
theorem vZ {r:RH}{k:Int}{xs:List Int} (h:kk r k xs) (h1:1<=k) (h2:k<=65536){i:Nat} (hi:i<xs.length):dL r (4*k) (i:Int)=xs.getD i 0:=by
 obtain ⟨o,ho,hf,hc,rfl⟩:=h
 unfold dL
 rw [eQ h1 h2]
 unfold RH.at
 rw [ho]
 simp only
 rw [if_neg (by omega)]
 simp
section
variable {s s':SP}{t t':TB}{v:KV}{r:Int}
theorem vc (hv:KAllW s t v){x:ByteArray}{g:Nat}{f:Int->Int->Int × Int} (he:d8 (ov 8) x=some (1,.clo 295 g)) (hg:tJ g f){n m:Int} (hn:mn n) (hm:mn m) :
  PrimS s t 8 x (2*n+1) [2*m+1] (if (f n m).2≠0 then (0,(f n m).2) else fZ (f n m).1) s t:=by
 refine ⟨fun {H b F a l c Q} hK ht hr ho hl h=>?_⟩
 have hlen:l=1:=by have:=hr.1;simpa [ag] using this.symm
 refine Lu hK hv hr hl he (by simp) (by omega) (fun w hw=>?_) ?_ rfl fun H' n0 rr f' g' hh f1 hq=>?_
 ·simp only [List.mem_cons,List.not_mem_nil,or_false] at hw
  rcases hw with rfl | rfl
  ·rw [oJ hn];decide
  ·rw [oJ hm];decide
 ·rw [oJ hn];exact qL v (by decide)
 obtain ⟨q,e1,e2,_⟩:=hq
 cases e1
 show ac PP rL #[cv b (2*n+1) a l c,.pointer (some ⟨q,0,none⟩)] _ _
 refine kV (hK.nil f1) (Rd.nilF hr f1) e2 (fun hk=>absurd (lY hm) hk) fun _ H2 f2=>?_
 rw [sU hn,uN]
 refine hg n m hn hm ⟨_,_,rfl,?_⟩
 have hq:=fun H' F'=>h H' F'
 have f12:=f1.trans f2
 rw [aY,af]
 refine ap (fun h0=>?_) fun h0=>?_
 ·simp only [if_pos h0] at hq
  exact ⟨_,_,rfl,hq _ _ (hK.nil f12) (Up.of_nil f12)⟩
 ·simp only [if_neg h0] at hq
  exact iT ⟨_,_,rfl,_,_,rfl,hq _ _ (hK.nil f12) (Up.of_nil f12)⟩
end
variable {Q:QT}{H:ae}
abbrev EJ:Nat:=354
def FJ (p1:Option Addr) (n2:Int) (Q:QT) (H:ae):Prop :=
 ac PP 383 #[pV p1] (fun v3 H1=>v3=.tuple #[]∧∃ q4,p1=some q4∧∃ a5 l5 c5,aa H1 (q4.add 1)=some (lV a5 l5 c5)∧aK PP (Builtin.append_ #[249,249] 249 #[lV a5 l5 c5,lV (some (A0 H1.size)) 1 1]) (fun v6 H2=>∃ a7 l7 c7,v6=lV a7 l7 c7∧∃ q8,p1=some q8∧Wr H2 (q8.add 1)∧Q (.nilIface) (av H2 (q8.add 1) (lV a7 l7 c7))) (H1.push (.cells #[.int .u8 n2] 5))) H
theorem AK {p1:Option Addr}{n2:Int} (h:FJ p1 n2 Q H):ac PP 354 #[.pointer p1,.int .u8 n2] Q H :=
 okF Tryz.func354 rfl h
abbrev B6:Nat:=355
def FT (p1:Option Addr) (Q:QT) (H:ae):Prop :=
 ∃ q2,p1=some q2∧∃ a3 l3 c3,aa H (q2.add 1)=some (lV a3 l3 c3)∧∃ q4,p1=some q4∧∃ a5 l5 c5,aa H (q4.add 1)=some (lV a5 l5 c5)∧aK PP (Builtin.unsafeSliceData_ #[249] 324 #[lV a3 l3 c3]) (fun v6 H1=>∃ p7,v6=pV p7∧((aa H1 (q4.add 1)=some (lV a5 l5 c5)∧True)∧True)∧aK PP (Builtin.unsafeString_ #[324,3] 9 #[pV p7,iV (l5:Int)]) (fun v8 H2=>∃ s9,v8=sV s9∧True∧Q (sV s9) H2) H1) H
theorem yK {p1:Option Addr} (h:FT p1 Q H):ac PP 355 #[.pointer p1] Q H :=
 okF Tryz.func355 rfl h
end Go.Proofs.YtgjfejoohojokaaGreatDoor
namespace Kw
open Go Go.Proofs Go.Shelf Go.RowKit
variable {P:Program}
theorem gj (w:World) (a:Addr) (v:Value):(w.setCell a v).heap=av w.heap a v:=rfl
def jH (T:TypeId) (H:ae) (b:Nat) (s:Value):Prop:=∃ p,H[b]?=some (.cells #[p,s] T (0,0))∧(p=.pointer none∨p=.pointer (some ⟨b,0,none⟩))
theorem jH.lt {T:TypeId}{H:ae}{b:Nat}{s:Value} (h:jH T H b s):b<H.size:=by
 obtain ⟨p,h,_⟩:=h
 exact (Array.getElem?_eq_some_iff.1 h).1
theorem jH.keep {T:TypeId}{H H':ae}{b:Nat}{s:Value} (h:jH T H b s) (e:H'[b]?=H[b]?):jH T H' b s:=by
 obtain ⟨p,h,h2⟩:=h
 exact ⟨p,e.trans h,h2⟩
theorem kG {ρ:Ren} (L:Lays.n240 P ρ) (X:Builder.X72 P ρ) (hfn:∃ fn,P.funcs[ρ.f 240]?=some fn∧fn.body.isSome=true){H:ae}{b:Nat}{s:Value}{Q:Value->ae->Prop} (hb:jH (ρ.t 72) H b s)
  (h:∀ H',jH (ρ.t 72) H' b s->Fr [b] H H'->H'.size=H.size->Q (.tuple #[]) H'):ac P (ρ.f 240) #[.pointer (some ⟨b,0,none⟩)] Q H:=by
 obtain ⟨p,hb,hp⟩:=hb
 refine ⟨hfn,fun w hw=>?_⟩
 subst hw
 have hsh:w.shape? b=some ((ρ.t 72),2):=by simp [World.shape?,hb]
 have hfz:w.frozen? ⟨b,0,none⟩=false:=by simp [World.frozen?,hb]
 have hc:w.cell? ⟨b,0,none⟩=some p:=by simp [World.cell?,hb]
 rcases hp with rfl | rfl
 ·refine (Any.Builder_copyCheck_fresh L X b w hc hsh hfz).mono ?_
  rintro e w' ⟨rfl,rfl⟩
  have hl:=(Array.getElem?_eq_some_iff.1 hb).1
  have hz:(w.setCell ⟨b,0,none⟩ (.pointer (some ⟨b,0,none⟩))).heap.size=w.heap.size:=by rw [gj,bt]
  have hne:∀ y,y≠b->(w.setCell ⟨b,0,none⟩ (.pointer (some ⟨b,0,none⟩))).heap[y]?=w.heap[y]?:=fun y hy=>by rw [gj,ce hy]
  refine ⟨_,rfl,h _ ⟨_,?_,.inr rfl⟩ ⟨Nat.le_of_eq hz.symm,fun y _ hy=>hne y (by simpa using hy)⟩ hz,rfl,rfl,rfl,Nat.le_refl _,Nat.le_of_eq hz.symm,fun y ds hy=>?_⟩
  ·rw [gj]
   simp [av,Array.getElem?_modify,hb]
  ·rw [hne y (fun e=>by subst e;rw [hb] at hy;cases hy)];exact hy
 ·refine (Any.Builder_copyCheck_used L X b w hc).mono ?_
  rintro e w' ⟨rfl,rfl⟩
  exact ⟨_,rfl,h _ ⟨_,hb,.inr rfl⟩ (Fr.refl _ _) rfl,rfl,rfl,rfl,Nat.le_refl _,Nat.le_refl _,fun y ds hy=>hy⟩
def tN (e:TypeId) (H:ae) (a:Option Addr) (l c:Nat) (xs:List Value) (G:az):Prop:=bK 1 H a l c xs G∧(∀ b∈G,∃ cs,H[b]?=some (.cells cs e (0,0)))∧c<=maxLen
theorem tN.keep {e:TypeId}{H H':ae}{a:Option Addr}{l c:Nat}{xs:List Value}{G:az} (h:tN e H a l c xs G) (he:∀ b∈G,H'[b]?=H[b]?):tN e H' a l c xs G:=⟨h.1.keep he,fun b hb=>by
 obtain ⟨cs,h2⟩:=h.2.1 b hb
 exact ⟨cs,(he b hb).trans h2⟩,h.2.2⟩
theorem pE {T T' T0:Nat}{H:ae}{a:Option Addr}{l c:Nat}{xs:List Value}{y:Value}{e d:TypeId}{i:TypeInfo}{z:Value}{F:az}{Q:Value->ae->Prop} (hu:P.underlying T=some (.slice e)) (hi:P.info? e=some i) (hk:i.size=1) (hb:i.bytes=1) (hz0:i.zero=some z) (hz:z.cells.size=1) (hT:P.underlying T'=some (.slice d))
  (ho:tN e H a l c xs F) (hone:dC y=true) (hl:l<4611686018427){e2:TypeId}
  (h:∀ a' c' F' H',tN e H' a' (l+1) c' (xs++[y]) F'->Up F H F' H'->Q (.slice a' (l+1) c') H') :
  aK P (Builtin.append_ #[T,T'] T0 #[.slice a l c,.slice (some ⟨H.size,0,none⟩) 1 1]) Q (H.push (.cells #[y] e2)):=by
 have fp:=Fr.push [] H (.cells #[y] e2)
 have hr:Rd 1 (H.push (.cells #[y] e2)) (some ⟨H.size,0,none⟩) 1 [y]:=(show bK 1 _ (some ⟨H.size,0,none⟩) 1 1 [y] [H.size] from ⟨rfl,Nat.le_refl _,.inr ⟨_,_,rfl,rfl,aV.new _ _ _,rfl,rfl⟩⟩).rd
 have ho1:tN e (H.push (.cells #[y] e2)) a l c xs F:=ho.keep fun b hb=>fp.2 b (ho.1.lt b hb) (by simp)
 have sz:(H.push (.cells #[y] e2)).size=H.size+1:=by simp
 have hup:∀ {F' H'},Up F (H.push (.cells #[y] e2)) F' H'->Up F H F' H':=fun {F' H'} u=>⟨⟨Nat.le_trans fp.1 u.1.1,fun b hb hn=>by rw [u.1.2 b (Nat.lt_of_lt_of_le hb fp.1) hn,fp.2 b hb (by simp)]⟩,fun b hb=>(u.2 b hb).imp id fun hg=>Nat.le_trans fp.1 hg⟩
 generalize (H.push (.cells #[y] e2))=H1 at hr ho1 hup ⊢
 obtain ⟨hO,hty,hcm⟩:=ho1
 show aK P (do
  let .slice elem ← underlying T | stuck "append: slice type expected"
  _) Q H1
 refine ak (aJ hu ?_)
 refine ak (ga hi ?_)
 rw [hk]
 refine ak (ak (aJ hT ?_))
 simp only [pure,List.getElem_toArray,List.getElem_cons_succ,List.getElem_cons_zero]
 refine ak (cB ?_)
 simp only [Bool.false_eq_true,if_false,Bool.not_false,if_true]
 refine ak (show aK P (Builtin.lenOf (.slice (some ⟨H.size,0,none⟩) 1 1)) _ H1 from ?_)
 refine cB ?_
 have hx1:xs.length=l:=by have:=hO.1;omega
 by_cases hfit:l+1<=c
 ·simp only [hfit,if_true]
  refine ak (bT hr (Nat.le_refl _) ?_)
  rw [show ([y].take (1*1):List Value)=[y] from rfl]
  rcases hO.2.2 with ⟨rfl,hc0,rfl⟩ | ⟨b,cs,rfl,rfl,hB0,hsz,htk⟩
  ·omega
  ·obtain ⟨cs2,hB⟩:=hty b (by simp)
   have hcs:cs2=cs:=by
    obtain ⟨t,hB1⟩:=hB0
    rw [hB] at hB1
    simp only [Option.some.injEq,Obj.cells.injEq] at hB1
    exact hB1.1
   subst hcs
   dsimp only
   rw [al,Nat.zero_add]
   refine ak ?_
   have hroom:l*1+0+[y].length<=cs2.size:=by simp;omega
   refine cX [y] (l*1) 0 cs2 (by simpa using hone) hB hroom fun H' g1 g2 g3=>?_
   refine h _ _ [b] H' ⟨⟨by simp;omega,hfit,.inr ⟨b,_,rfl,rfl,⟨e,g1⟩,?_,?_⟩⟩,fun b' hb'=>?_,hcm⟩ (hup ⟨⟨by omega,fun b' _ hn=>g3 b' (by simpa using hn)⟩,fun b' hb'=>.inl hb'⟩)
   ·simp only [dK,List.size_toArray,List.length_append,List.length_take,List.length_drop,Array.length_toList,List.length_cons,List.length_nil]
    omega
   ·simp only [dK,Nat.add_zero]
    rw [htk,List.take_append_of_le_length (by simp;omega)]
    exact List.take_of_length_le (by simp;omega)
   ·simp at hb';subst hb';exact ⟨_,g1⟩
 ·simp only [hfit,if_false]
  have hneed:¬ (((l+1:Nat):Int) > IntKind.i64.max∧(False∨i.bytes=0)):=by
   rintro ⟨_,h | h⟩
   ·exact h
   ·rw [hb] at h;cases h
  refine ak (bP hi ?_)
  simp only [hneed,if_false]
  refine ak (bP hi ?_)
  have hcap:¬ Builtin.nextslicecap (l+1) c*i.bytes > 2 ^ 48:=by
   rw [hb]
   have:=eC (need:=l+1) (c:=c) (by omega)
   omega
  simp only [hcap,if_false]
  refine ak ?_
  simp only [choose,aK,Question.forced,Bool.false_eq_true,if_false]
  intro t
  have hcut:l+1<=Question.cut (.appendCap (l+1) c e) t:=by simp only [Question.cut];omega
  have hcut2:Question.cut (.appendCap (l+1) c e) t<=maxLen:=by
   simp only [Question.cut,maxLen]
   have:=Nat.mod_lt t (show 0<2 ^ 63-(l+1) by omega)
   omega
  generalize Question.cut (.appendCap (l+1) c e) t=cap' at hcut hcut2
  refine ak (bP hi ?_)
  refine ak (gT ?_)
  refine ak (bT (hO.rd) (Nat.le_refl _) ?_)
  refine ak (bT hr (Nat.le_refl _) ?_)
  refine ak (cK hi hz0 ?_)
  rw [show ([y].take (1*1):List Value)=[y] from rfl,show xs.take (l*1)=xs from List.take_of_length_le (by omega)]
  simp only [newRow,newObj,bind,Sem.bind,pure,aK]
  refine h _ _ [H1.size] _ ⟨⟨by simp;omega,hcut,.inr ⟨H1.size,_,rfl,rfl,aV.new _ _ _,?_,?_⟩⟩,fun b' hb'=>?_,hcut2⟩ (hup ⟨Fr.push _ _ _,fun b' hb'=>?_⟩)
  ·simp only [Array.size_append,List.size_toArray,Builtin.zeroCells,Array.size_map,Array.size_range,hz,List.length_cons,List.length_nil]
   omega
  ·simp only [Array.toList_append,List.append_assoc]
   rw [←List.append_assoc,List.take_append_of_le_length (by simp;omega)]
   exact List.take_of_length_le (by simp;omega)
  ·simp at hb';subst hb';exact ⟨_,by simp;rfl⟩
  ·simp at hb';exact .inr (by omega)
theorem mG {ts:Array TypeId}{ty e:TypeId}{H:ae}{a:Option Addr}{l c:Nat}{xs:List Value}{G:az}{Q:Value->ae->Prop} (hty:P.underlying ty=some (.pointer e)) (ho:bK 1 H a l c xs G) (h0:l≠0->Q (.pointer a) H) (h1:l=0->∀ p H',Fr [] H H'->Q (.pointer p) H') :
  aK P (Builtin.unsafeSliceData_ ts ty #[.slice a l c]) Q H:=by
 have hlc:=ho.2.1
 rcases ho.2.2 with ⟨rfl,hc0,rfl⟩ | ⟨b,cs,rfl,rfl,⟨t,hB⟩,_⟩
 ·show Q (.pointer none) H
  by_cases hl:l=0
  ·exact h1 hl _ _ (Fr.refl _ _)
  ·exact h0 hl
 ·show aK P (if c≠0 then pure (.pointer (some ⟨b,0,none⟩)) else _) Q H
  by_cases hc:c=0
  ·rw [if_neg (by simpa using hc)]
   refine ak ?_
   have hs:gR H b=some (t,cs.size):=by simp [gR,hB]
   unfold viewAt
   refine ak ?_
   show aK P (.shape b fun r=>.pure r) _ H
   unfold aK
   rw [hs]
   simp only [Option.isSome_some,if_true]
   show aK P (if false=true then pure _ else _) Q H
   rw [if_neg (by simp)]
   refine ak (ak ?_)
   refine aJ hty ?_
   exact h1 (by omega) _ _ (Fr.push _ _ _)
  ·rw [if_pos hc]
   show Q (.pointer (some ⟨b,0,none⟩)) H
   by_cases hl:l=0
   ·exact h1 hl _ _ (Fr.refl _ _)
   ·exact h0 hl
theorem iG {H:ae}:∀ (l:List UInt8) (a:Addr) (acc:ByteArray){Q:ByteArray->ae->Prop},(∀ j x,l[j]?=some x->aa H (a.add j)=some (.int .u8 x.toNat))->Q ⟨acc.data++l.toArray⟩ H->aK P (loadBytes a acc l.length) Q H
 | [],a,acc,Q,_,h=>by
  show Q acc H
  simpa using h
 | x :: l,a,acc,Q,hc,h=>by
  show aK P (do
   match ← load a with
   | .int .u8 b=>loadBytes (a.add 1) (acc.push b.toNat.toUInt8) l.length
   | _ => stuck "a byte variable that holds no byte") Q H
  have h0:=hc 0 x rfl
  rw [Addr.add_zero'] at h0
  refine ak ?_
  show ∃ v,aa H a=some v∧_
  refine ⟨_,h0,?_⟩
  show aK P (loadBytes (a.add 1) (acc.push ((x.toNat:Int).toNat.toUInt8)) l.length) Q H
  have hx:(x.toNat:Int).toNat.toUInt8=x:=by simp
  rw [hx]
  refine iG l _ _ (fun j y hy=>?_) ?_
  ·rw [Addr.add_add]
   have:=hc (j+1) y (by simpa using hy)
   rw [Nat.add_comm j 1] at this
   exact this
  ·have e:(acc.push x).data++l.toArray=acc.data++(x :: l).toArray:=by
    show acc.data.push x++l.toArray=_
    rw [Array.push_eq_append,Array.append_assoc]
    simp
   rw [e];exact h
theorem rM {pt it ty e:TypeId} (hp:P.underlying pt=some (.pointer e)) (hc:P.cellsOf e=1){H:ae}{a:Option Addr}{l c:Nat}{y:ByteArray}{G:az}{Q:Value->ae->Prop} (hB:tN e H a l c (y.data.toList.map fun u=>.int .u8 u.toNat) G){p:Option Addr} (hpa:l≠0->p=a)
  (h:∀ H',Fr G H H'->Q (.string y) H'):aK P (Builtin.unsafeString_ #[pt,it] ty #[.pointer p,.int .i64 (l:Int)]) Q H:=by
 have hlen:y.data.toList.length=l:=by have:=hB.1.1;simpa using this
 have hm:=hB.2.2
 have hlc:=hB.1.2.1
 have hn0:¬ ((l:Int)<0):=by omega
 have hn1:¬ ((l:Int) > IntKind.i64.max):=by
  rw [show IntKind.i64.max=9223372036854775807 from rfl]
  unfold maxLen at hm
  omega
 have h0:l=0->y=ByteArray.empty:=fun hl=>by
  have:y.data.toList=[]:=List.eq_nil_of_length_eq_zero (by omega)
  cases y with
  | mk d =>
   have hd:d=#[]:=Array.toList_eq_nil_iff.1 this
   subst hd;rfl
 have hdef:∀ q,Builtin.unsafeString_ #[pt,it] ty #[.pointer q,.int .i64 (l:Int)]=(do
   let n ← asInt (.int .i64 (l:Int))
   if n < 0 then runtimePanic (.error "unsafe.String: len out of range")
   if n > IntKind.i64.max then unsupported (.unsafePointer "String: a length above the largest int")
   match q with
   | none => if n = 0 then pure (.string .empty) else runtimePanic (.error "unsafe.String: ptr is nil and len is not zero")
   | some a =>
    if n=0 then pure (.string .empty)
    else if ← variablesAt a (← elemOf pt) n.toNat then do
     let s ← loadBytes a .empty n.toNat
     freeze a n.toNat
     pure (.string s)
    else unsupported (.unsafePointer "String: not so many bytes at ptr")) := fun _ => rfl
 rw [hdef]
 refine ak ?_
 show aK P (if (l:Int)<0 then _ else _) Q H
 rw [if_neg hn0]
 show aK P (if (l:Int) > IntKind.i64.max then _ else _) Q H
 rw [if_neg hn1]
 by_cases hl:l=0
 ·have e0:=h0 hl
  subst hl
  cases p with
  | none =>
   show aK P (if ((0:Nat):Int)=0 then pure (.string .empty) else _) Q H
   rw [if_pos (show ((0:Nat):Int)=0 from rfl)]
   rw [←e0]
   exact h H (Fr.refl _ _)
  | some q =>
   show aK P (if ((0:Nat):Int)=0 then pure (.string .empty) else _) Q H
   rw [if_pos (show ((0:Nat):Int)=0 from rfl)]
   rw [←e0]
   exact h H (Fr.refl _ _)
 ·have hpa':=hpa hl
  subst hpa'
  rcases hB.1.2.2 with ⟨rfl,hc0,rfl⟩ | ⟨b,cs,rfl,rfl,hB0,hsz,htk⟩
  ·omega
  ·obtain ⟨cs2,hg⟩:=hB.2.1 b (by simp)
   have hcs:cs2=cs:=by
    obtain ⟨t,hB1⟩:=hB0
    rw [hg] at hB1
    simp only [Option.some.injEq,Obj.cells.injEq] at hB1
    exact hB1.1
   subst hcs
   show aK P (if (l:Int)=0 then pure (.string .empty) else _) Q H
   rw [if_neg (by omega)]
   refine ak ?_
   unfold elemOf
   refine ak (aJ hp ?_)
   show aK P (pure e) _ H
   refine cB ?_
   refine ak ?_
   have hs:gR H b=some (e,cs2.size):=by simp [gR,hg]
   show aK P (.program fun q=>.shape b fun r=>_) _ H
   show aK P (match gR H b with | some (e',cells)=>pure (liesAt P P.depth e' (cells / P.cellsOf e') 0 e ((l:Int).toNat)) | none=>pure false) _ H
   rw [hs]
   dsimp only
   refine cB ?_
   have hlies:=Lib.liesAt_bytes (P:=P) hc (cs2.size / P.cellsOf e) l (by rw [hc];simp;omega)
   rw [Int.toNat_natCast,hlies,if_pos rfl]
   refine ak ?_
   have hcell:∀ j x,y.data.toList[j]?=some x->aa H ((⟨b,0,none⟩:Addr).add j)=some (.int .u8 x.toNat):=fun j x hx=>by
    have hj:j<l*1:=by
     have:=(List.getElem?_eq_some_iff.1 hx).1;omega
    rw [hB.1.rd.2.2 _ rfl j hj,List.getElem?_map,hx];rfl
   have:=iG (P:=P) (H:=H) y.data.toList ⟨b,0,none⟩ .empty (Q:=fun s H'=>aK P (do freeze ⟨b,0,none⟩ l;pure (Value.string s)) Q H') hcell (by
    refine ak ?_
    show Q (.string _) (cN H ⟨b,0,none⟩ l)
    have ey:(⟨ByteArray.empty.data++y.data.toList.toArray⟩:ByteArray)=y:=by
     cases y with
     | mk d =>
      show (⟨#[]++d.toList.toArray⟩:ByteArray)=⟨d⟩
      simp
    rw [ey]
    refine h _ ⟨?_,fun x hx hn=>?_⟩
    ·unfold cN;split <;> simp
    ·have hxb:x≠b:=by simpa using hn
     unfold cN
     split
     ·rfl
     ·simp [Array.getElem?_modify,Ne.symm hxb])
   rw [hlen] at this
   exact this
end Kw
namespace Go.Proofs.YtgjfejoohojokaaGreatDoor
open Kw
abbrev Fj (y:ByteArray):List Value:=y.data.toList.map fun u=>.int .u8 (u.toNat:Int)
section
variable {H:ae}{Q:QT}{a:Option Addr}{l c:Nat}
theorem Aw {bb:Nat}{xs:List Value}{G:az}{u:Int} (hb:jH 295 H bb (.slice a l c)) (hB:tN 5 H a l c xs G) (hbg:bb∉G) (hl:l<1000000)
  (h:∀ H' a' c' G',jH 295 H' bb (.slice a' (l+1) c')->tN 5 H' a' (l+1) c' (xs++[.int .u8 u]) G'->bb∉G'->Up (bb :: G) H (bb :: G') H'->Q .nilIface H') :
  ac PP EJ #[.pointer (some ⟨bb,0,none⟩),.int .u8 u] Q H:=by
 have i5:∃ i,PP.info? 5=some i∧i.size=1∧i.bytes=1∧i.zero=some (.int .u8 0):=⟨_,rfl,by kernel_rfl,by kernel_rfl,by kernel_rfl⟩
 obtain ⟨i,hi,hk,hbs,hz⟩:=i5
 have hlt:=hb.lt
 have hGl:=hB.1.lt
 apply AK
 unfold FJ A0 pV lV
 refine kG { Tryz.rep with } Tryz.repX.toX72 ⟨_,Tryz.func383,rfl⟩ hb fun H1 hb1 f1 hs1=>⟨rfl,_,rfl,a,l,c,?_,?_⟩
 ·obtain ⟨p,hb1,_⟩:=hb1
  show aa H1 ⟨bb,0+1,none⟩=_
  simp [aa,hb1]
 have hB1:tN 5 H1 a l c xs G:=hB.keep fun x hx=>f1.2 x (hGl x hx) (fun e=>hbg (by simp at e;subst e;exact hx))
 refine pE (d:=5) (by kernel_rfl) hi hk hbs hz rfl (by kernel_rfl) hB1 rfl (by omega) fun a' c' G' H2 hB2 u2=>⟨_,_,_,rfl,_,rfl,?_,?_⟩
 ·have hbn:bb∉G':=fun hm=>by
   rcases u2.2 bb hm with h1 | h1
   ·exact hbg h1
   ·omega
  obtain ⟨p,hp,_⟩:=hb1.keep (u2.1.2 bb (by omega) hbg)
  exact (show aV H2 bb #[p,.slice a l c] from ⟨_,hp⟩).wr (o:=1) (by simp)
 ·have hbn:bb∉G':=fun hm=>by
   rcases u2.2 bb hm with h1 | h1
   ·exact hbg h1
   ·omega
  obtain ⟨p,hp,hpp⟩:=hb1.keep (u2.1.2 bb (by omega) hbg)
  have hne:∀ y,y≠bb->(av H2 ((⟨bb,0,none⟩:Addr).add 1) (.slice a' (l+1) c'))[y]?=H2[y]?:=fun y hy=>ce hy
  refine h _ a' c' G' ⟨p,?_,hpp⟩ (hB2.keep fun x hx=>hne x fun e=>hbn (e ▸ hx)) hbn ⟨⟨?_,fun y hy hn=>?_⟩,fun y hy=>?_⟩
  ·rw [show ((⟨bb,0,none⟩:Addr).add 1)=⟨bb,1,none⟩ from rfl]
   simp [av,Array.getElem?_modify,hp]
   rfl
  ·rw [bt];have:=u2.1.1;omega
  ·simp only [List.mem_cons,not_or] at hn
   rw [hne y hn.1,u2.1.2 y (by omega) hn.2,f1.2 y hy (by simpa using hn.1)]
  ·rcases List.mem_cons.1 hy with rfl | hy
   ·exact .inl (by simp)
   ·rcases u2.2 y hy with h1 | h1
    ·exact .inl (by simp [h1])
    ·exact .inr (by omega)
theorem uo {H0:ae}{bb:Nat}{y:ByteArray}{G:az} (hb:jH 295 H bb (.slice a l c)) (hB:tN 5 H a l c (Fj y) G) (hlo:∀ x∈G,H0.size<=x) (hbg:bb∉G) (f0:Fr [] H0 H)
  (h:∀ H',Fr [] H0 H'->Q (.string y) H'):ac PP B6 #[.pointer (some ⟨bb,0,none⟩)] Q H:=by
 have hlt:=hb.lt
 have hc:∀ {Hz:ae},jH 295 Hz bb (.slice a l c)->aa Hz ((⟨bb,0,none⟩:Addr).add 1)=some (.slice a l c):=fun {Hz} hz=>by
  obtain ⟨p,hz,_⟩:=hz
  show aa Hz ⟨bb,0+1,none⟩=_
  simp [aa,hz]
 have hu1:PP.underlying 324=some (.pointer 5):=by kernel_rfl
 have hc1:PP.cellsOf 5=1:=by kernel_rfl
 apply yK
 unfold FT iV pV sV lV
 have fin:∀ p H1,Fr [] H H1->(l≠0->p=a)->∃ p7:Option Addr,(Value.pointer p:Value)=.pointer p7∧((aa H1 ((⟨bb,0,none⟩:Addr).add 1)=some (.slice a l c)∧True)∧True)∧aK PP (Builtin.unsafeString_ #[324,3] 9 #[.pointer p7,.int .i64 (l:Int)]) (fun v8 H2=>∃ s9:ByteArray,v8=.string s9∧True∧Q (.string s9) H2) H1:=fun p H1 f1 hp=>by
  have hb1:=hb.keep (f1.2 bb hlt (by simp))
  have hB1:=hB.keep fun x hx=>f1.2 x (hB.1.lt x hx) (by simp)
  refine ⟨_,rfl,⟨⟨hc hb1,trivial⟩,trivial⟩,rM hu1 hc1 hB1 hp fun H2 f2=>⟨_,rfl,trivial,h H2 ⟨?_,fun x hx _=>?_⟩⟩⟩
  ·have:=f0.1;have:=f1.1;have:=f2.1;omega
  ·have:=f0.1;have:=f1.1
   rw [f2.2 x (by omega) (fun hm=>by have:=hlo x hm;omega),f1.2 x (by omega) (by simp),f0.2 x hx (by simp)]
 exact ⟨_,rfl,_,_,_,hc hb,_,rfl,_,_,_,hc hb,mG hu1 hB.1 (fun _=>fin a H (Fr.refl _ _) fun _=>rfl) fun hl p H1 f1=>fin p H1 f1 fun hn=>absurd hl hn⟩
end
def cx (r:RH) (w:Int) (n:Nat):List Int:=(List.range n).map fun i:Nat=>dL r w (i:Int)
section
variable {H:ae}{b:Nat}{F:az}{s:SP}{t:TB}{v:KV}{Q:QT}{r x:Int}{a:Option Addr}{l c:Nat}{ws:List Int}
theorem pu (hK:PK H b F s t){w:Int}{n:Nat} (hn:(cD s.h w).1=(n:Int)) (hn2:n<=1000000) (h:∀ q H',bK 1 H' (some ⟨q,0,none⟩) n n (ag (cx s.h w n)) [q]->H.size<=q->Fr [] H H'->Q (.slice (some ⟨q,0,none⟩) n n) H') :
  ac PP rF #[cv b r a l c,.int .i64 w] Q H:=by
 have hs1:aI PP 30=some (1,8,some (.int .i64 0)):=by kernel_rfl
 apply Ag
 unfold Im A0 iV wW pV lV cS;dsimp only [shH]
 have f:=Fr.push [] H (.cells (cc b r a l c) 138)
 have hb:=aV.new H (cc b r a l c) 138
 refine ⟨_,hb.cell 0,_,hb.cell 1,_,_,_,hb.cell 2,dG (hK.nil f) fun H1 f1=>⟨_,_,rfl,?_⟩⟩
 rw [hn]
 have f01:=f.trans f1
 have hb1:=hb.fr f1 (by simp)
 refine cI hs1 rfl (by omega) (Int.le_refl _) (by omega) (by decide) fun e=>⟨_,_,_,rfl,?_⟩
 have f2:=f01.trans (Fr.push [] _ (.cells (Array.replicate (n:Int).toNat (.int .i64 0)) e))
 have hb2:=hb1.push (.cells (Array.replicate (n:Int).toNat (.int .i64 0)) e)
 have hq0:H.size<H1.size:=hb1.lt
 have ho2:bK 1 (H1.push (.cells (Array.replicate (n:Int).toNat (.int .i64 0)) e)) (some ⟨H1.size,0,none⟩) (n:Int).toNat (n:Int).toNat (ag (List.replicate n 0)) [H1.size]:=by
  refine ⟨by simp [ag],Nat.le_refl _,.inr ⟨_,_,rfl,rfl,aV.new _ _ _,by simp,?_⟩⟩
  simp [ag]
 simp only [Int.toNat_natCast] at f2 hb2 ho2 ⊢
 generalize (H1.push (.cells (Array.replicate n (.int .i64 0)) e))=H2 at f2 hb2 ho2 ⊢
 generalize H1.size=q at ho2 hq0 ⊢
 refine ⟨fun w' H'=>∃(i:Nat) (rest:List Int),w'=[.int .i64 i]∧i<=n∧bK 1 H' (some ⟨q,0,none⟩) n n (ag (cx s.h w i++rest)) [q]∧Fr [] H H'∧aV H' H.size (cc b r a l c),fun w' _=>match w' with
  | [.int _ i]=>((n:Int)-i).toNat
  | _=>0,⟨0,_,rfl,Nat.zero_le _,ho2,f2,hb2⟩,?_⟩
 rintro w' H3 ⟨i,rest,rfl,hi,ho3,f3,hb3⟩ _
 have hlen:=ho3.len
 simp only [ag,cx,List.length_map,List.length_append,List.length_range,Nat.mul_one] at hlen
 refine ⟨_,rfl,cY (fun hlt=>?_) fun hge=>?_⟩
 ·have hil:i<n:=by omega
  have e1:IntKind.wrap .i64 ((i:Int)+1)=((i+1:Nat):Int):=by rw [ah (by omega) (by omega)];omega
  rw [e1]
  refine ⟨_,hb3.cell 0,_,hb3.cell 1,_,_,_,hb3.cell 2,jx (hK.nil f3) fun H4 f4=>⟨_,rfl,⟨by omega,hlt⟩,_,rfl,?_⟩⟩
  have ho4:=ho3.fr f4 (by simp)
  obtain ⟨bb,hbb,hw,hf,hput⟩:=qm ho4 hil (.int .i64 (dL s.h w (i:Int)))
  cases hbb
  rw [al,Nat.zero_add,Nat.mul_one,Int.toNat_natCast]
  cases rest with
  | nil=>simp at hlen;omega
  | cons z rest =>
   have hf':Fr [] H (av H4 ⟨q,i,none⟩ (.int .i64 (dL s.h w (i:Int)))):=Fr.late (f3.trans f4) (by show H.size<=q;omega)
   refine ⟨hw,⟨i+1,rest,rfl,by omega,?_,hf',(hb3.fr f4 (by simp)).fr hf (by simp;omega)⟩,by simp;omega⟩
   have et:(ag (cx s.h w i++z :: rest)).set i (.int .i64 (dL s.h w (i:Int)))=ag (cx s.h w (i+1)++rest):=by
    have h1:(cx s.h w i).length=i:=by simp [cx]
    have h2:cx s.h w (i+1)=cx s.h w i++[dL s.h w (i:Int)]:=by simp [cx,List.range_succ]
    rw [h2]
    simp only [ag,List.map_append,List.map_cons,List.append_assoc,List.singleton_append,List.map_nil]
    rw [List.set_append_right _ _ (by rw [List.length_map,h1];exact Nat.le_refl _),List.length_map,h1,Nat.sub_self]
    rfl
   rw [←et];exact hput
 ·have hi2:i=n:=by omega
  subst hi2
  have:rest=[]:=List.eq_nil_of_length_eq_zero (by omega)
  subst this
  rw [List.append_nil] at ho3
  exact h q H3 ho3 (by omega) f3
theorem t6 {r:RH}{k:Int}{xs:List Int} (h:kk r k xs) (h1:1<=k) (h2:k<=65536):cx r (4*k) xs.length=xs:=by
 apply List.ext_getElem?
 intro i
 unfold cx
 by_cases hi:i<xs.length
 ·rw [List.getElem?_map,List.getElem?_range hi]
  simp only [Option.map_some]
  rw [vZ h h1 h2 hi]
  simp [hi]
 ·rw [List.getElem?_eq_none (by simp;omega),List.getElem?_eq_none (by omega)]
theorem oc (hK:PK H b F s t){k:Int}{y:ByteArray} (hs:kk s.h k (bk y)) (h1:1<=k) (h2:k<=65536) (hy:y.size<=100000) (h:∀ H',Fr [] H H'->Q (.string y) H') :
  ac PP xc #[cv b r a l c,.int .i64 (4*k)] Q H:=by
 have hbl:=fc y
 apply r0
 unfold BY A0 iV wW pV sV lV cS;dsimp only [shH]
 have f:=Fr.push [] H (.cells (cc b r a l c) 138)
 have hb:=aV.new H (cc b r a l c) 138
 have sz:(H.push (.cells (cc b r a l c) 138)).size=H.size+1:=by simp
 have hK1:=hK.nil f
 generalize (H.push (.cells (cc b r a l c) 138))=H1 at f hb sz hK1 ⊢
 refine oN hK1.kinds ?_
 unfold iE
 rw [if_neg (by rw [fC h1 h2];decide)]
 refine ⟨_,_,rfl,?_⟩
 simp only [show ((10:Int) == 0)=false from rfl,cond_false]
 have f2:=Fr.push [] H1 (.cells #[.pointer none,.slice none 0 0] 295)
 have hBl:jH 295 (H1.push (.cells #[.pointer none,.slice none 0 0] 295)) H1.size (.slice none 0 0):=⟨_,by simp,.inl rfl⟩
 have hb2:=hb.push (.cells #[.pointer none,.slice none 0 0] 295)
 have hK2:=hK1.nil f2
 have f02:=f.trans f2
 have sz2:(H1.push (.cells #[.pointer none,.slice none 0 0] 295)).size=H1.size+1:=by simp
 generalize (H1.push (.cells #[.pointer none,.slice none 0 0] 295))=H2 at f2 hBl hb2 hK2 f02 sz2 ⊢
 refine ⟨_,hb2.cell 0,_,hb2.cell 1,_,_,_,hb2.cell 2,pu hK2 (n:=y.size) (by rw [sw hs h1 h2];simp only [hbl]) (by omega) fun q H3 ho3 hq3 f3=>⟨_,_,_,rfl,?_⟩⟩
 have hsl:=t6 hs h1 h2
 rw [hbl] at hsl
 rw [hsl] at ho3
 have hBl3:=hBl.keep (f3.2 _ hBl.lt (by simp))
 refine ⟨fun w' H'=>∃(i:Nat) (a':Option Addr) (c':Nat) (G:az),w'=[.int .i64 i]∧i<=y.size∧jH 295 H' H1.size (.slice a' i c')∧tN 5 H' a' i c' ((Fj y).take i) G∧H1.size∉G∧q∉G∧(∀ x∈G,H.size<=x)∧bK 1 H' (some ⟨q,0,none⟩) y.size y.size (ag (bk y)) [q]∧Fr [] H H',fun w' _=>match w' with
  | [.int _ i]=>((y.size:Int)-i).toNat
  | _=>0,⟨0,none,0,[],rfl,Nat.zero_le _,hBl3,⟨bK.nil _ _,by simp,Nat.zero_le _⟩,by simp,by simp,by simp,ho3,f02.trans f3⟩,?_⟩
 rintro w' H4 ⟨i,a',c',G,rfl,hi,hBl4,hB4,n1,n2,hlo,ho4,f4⟩ _
 refine ⟨_,rfl,cY (fun hlt=>?_) fun hge=>?_⟩
 ·have hil:i<y.size:=by omega
  have e1:IntKind.wrap .i64 ((i:Int)+1)=((i+1:Nat):Int):=by rw [ah (by omega) (by omega)];omega
  obtain ⟨p,hp1,hp2,hp3⟩:=ho4.rd.int (i:=(i:Int)) (by omega) (by omega)
  cases hp1
  simp only [Int.toNat_natCast] at hp2
  have hu:=(y[i]).toNat_lt
  have hbi:(bk y).getD i 0=((y[i]).toNat:Int):=by
   unfold bk
   rw [List.getD_eq_getElem?_getD,List.getElem?_map,Array.getElem?_toList]
   have:y.data[i]?=some y[i]:=by
    have h1:i<y.data.size:=hil
    rw [Array.getElem?_eq_getElem h1];rfl
   rw [this];rfl
  have hui:(Fj y)[i]?=some (.int .u8 ((y[i]).toNat:Int)):=by
   unfold Fj
   rw [List.getElem?_map,Array.getElem?_toList]
   have:y.data[i]?=some y[i]:=by
    have h1:i<y.data.size:=hil
    rw [Array.getElem?_eq_getElem h1];rfl
   rw [this];rfl
  refine ⟨⟨by omega,hlt⟩,_,rfl,_,by rw [Int.toNat_natCast,Nat.mul_one];exact hp2,?_⟩
  rw [hbi,e1]
  have eu:IntKind.wrap .u8 ((y[i]).toNat:Int)=((y[i]).toNat:Int):=by
   unfold IntKind.wrap
   simp only [IntKind.bits,IntKind.signed]
   first
    | (simp;omega)
    | omega
  rw [eu]
  refine Aw hBl4 hB4 n1 (by omega) fun H5 a5 c5 G5 hBl5 hB5 n5 u5=>⟨_,rfl,?_⟩
  have hq4:q<H4.size:=ho4.lt q (by simp)
  have hqb:q≠H1.size:=by omega
  refine ⟨⟨i+1,a5,c5,G5,rfl,by omega,hBl5,?_,n5,fun hm=>?_,fun x hx=>?_,ho4.fr u5.1 (by simpa using ⟨hqb,n2⟩),?_⟩,by simp;omega⟩
  ·rw [List.take_add_one,hui];exact hB5
  ·rcases u5.2 q (by simp [hm]) with h3 | h3
   ·simp only [List.mem_cons] at h3
    exact h3.elim hqb n2
   ·omega
  ·rcases u5.2 x (by simp [hx]) with h3 | h3
   ·simp only [List.mem_cons] at h3
    rcases h3 with rfl | h3
    ·omega
    ·exact hlo x h3
   ·have:=f4.1;omega
  ·refine ⟨Nat.le_trans f4.1 u5.1.1,fun x hx _=>?_⟩
   rw [u5.1.2 x (Nat.lt_of_lt_of_le hx f4.1) (fun hm=>?_),f4.2 x hx (by simp)]
   rcases List.mem_cons.1 hm with rfl | hm
   ·omega
   ·have:=hlo x hm;omega
 ·have hi2:i=y.size:=by omega
  subst hi2
  have hB5:tN 5 H4 a' y.size c' (Fj y) G:=by
   rw [List.take_of_length_le (by simp [Fj])] at hB4
   exact hB4
  exact uo (H0:=H) hBl4 hB5 hlo n1 f4 fun H' f'=>⟨_,rfl,h H' f'⟩
end
theorem xy (H:ae) (n:Int) (e:TypeId):Rd 1 (H.push (.cells #[.int .i64 n] e)) (some ⟨H.size,0,none⟩) 1 (ag [n]) :=
 (show bK 1 (H.push (.cells #[.int .i64 n] e)) (some ⟨H.size,0,none⟩) 1 1 (ag [n]) [H.size] from ⟨by simp [ag],Nat.le_refl _,.inr ⟨_,_,rfl,rfl,aV.new _ _ _,by simp,by simp [ag]⟩⟩).rd
theorem mS {s:SP}{t:TB}{v:KV} (hv:KAllW s t v) (w:Int) (hl:s.stack.length+1<60000):KAllW (s.keepW [w]).2 t v∧(s.keepW [w]).2.h=s.h∧(s.keepW [w]).2.stack.length<=s.stack.length+1:=by
 unfold SP.keepW
 split
 ·exact ⟨hv,rfl,Nat.le_succ _⟩
 rename_i hw
 split
 ·exact ⟨hv,rfl,Nat.le_succ _⟩
 ·have hw':cR w:=Classical.byContradiction fun e=>hw ⟨w,by simp,e⟩
  refine ⟨⟨⟨{ hv.ks.wf with many:=by simp;omega,words:=fun x hx=>?_ },hv.ks.gc,hv.ks.op,hv.ks.king,hv.ks.view,hv.ks.sep,hv.ks.shape⟩,hv.names,by simp;omega⟩,rfl,by simp⟩
  rcases List.mem_append.1 hx with hx | hx
  ·exact hv.ks.wf.words x hx
  ·rw [List.mem_singleton.1 hx];exact hw'
structure SD (H:ae) (db:Nat) (D:az) (s:SP) (t:TB) (v:KV) (ws:List Int) (N:Nat):Prop where
 dk:DK H db D s t ws
 all:KAllW s t v
 st:s.stack.length<=N
 wl:ws.length<=N
theorem SD.nil {H H':ae}{db:Nat}{D:az}{s:SP}{t:TB}{v:KV}{ws:List Int}{N:Nat} (h:SD H db D s t v ws N) (f:Fr [] H H'):SD H' db D s t v ws N:=⟨h.dk.nil f,h.all,h.st,h.wl⟩
section
variable {H:ae}{db:Nat}{D:az}{s:SP}{t:TB}{v:KV}{ws:List Int}{N:Nat}{Q:QT}{r:Int}
theorem rE {n:Int} (hn:mn n) (h:Q (.int .i64 (2*n+1)) H):ac PP G6 #[.int .i64 n] Q H:=by
 apply Dp
 unfold LY iV wW
 obtain ⟨h1,h2⟩:=hn
 rw [ah (n:=2*n) (by omega) (by omega),ah (by omega) (by omega)]
 exact h
theorem Il (hD:DK H db D s t ws){H':ae} (f:Fr [] H H'):∀ p,(some ⟨H'.size,0,none⟩:Option Addr)=some p->p.block∉D:=fun p hp hm=>by
 cases hp
 have:=hD.lt _ hm
 have:=f.1
 simp only at *
 omega
end
def HB (H:ae) (b sb hb:Nat):Prop:=aa H ⟨b,0,none⟩=some (.pointer (some ⟨sb,0,none⟩))∧aa H ⟨sb,0,none⟩=some (.pointer (some ⟨hb,0,none⟩))
theorem fk {H:ae}{b o:Nat}{v:Value} (h:aa H ⟨b,o,none⟩=some v):b<H.size:=by
 unfold aa at h
 rcases Nat.lt_or_ge b H.size with h1 | h1
 ·exact h1
 ·simp only [Array.getElem?_eq_none h1] at h;cases h
theorem HB.nil {H H':ae}{b sb hb:Nat} (h:HB H b sb hb) (hf:Fr [] H H'):HB H' b sb hb:=by
 obtain ⟨h1,h2⟩:=h
 exact ⟨by rw [cQ hf (by simp) (fk h1)];exact h1,by rw [cQ hf (by simp) (fk h2)];exact h2⟩
section
variable {H:ae}{b sb hb:Nat}{F:az}{s:SP}{t:TB}{Q:QT}
theorem PK.hp (hK:PK H b F s t) (hB:HB H b sb hb):∃ F1,bW H hb F1 s.h∧(∀ x∈F1,x∈F)∧∀ H' r',bW H' hb F1 r'->Fr F1 H H'->PK H' b F { s with h:=r' } t∧HB H' b sb hb:=by
 obtain ⟨sb',F1,hc,hS,hsub,hbF,_,hup⟩:=hK.sp
 obtain ⟨hc1,hc2⟩:=hB
 rw [hc] at hc1
 have e:sb'=sb:=by simpa using hc1
 subst e
 obtain ⟨hb',F2,hR,c0,_,_,hsub2,hnb,hup2⟩:=hS.upd
 rw [c0] at hc2
 have e:hb'=hb:=by simpa using hc2
 subst e
 have hbl:=hK.lt b hK.bmem
 have hsl:=hS.lt _ hS.bmem
 refine ⟨F2,hR,fun x hx=>hsub x (hsub2 x hx),fun H' r' hR' hf=>⟨hup H' _ (hup2 H' r' hR' hf) (hf.mono hsub2),?_,?_⟩⟩
 ·rw [cQ hf (fun hm=>hbF (hsub2 b hm)) hbl];exact hc
 ·rw [cQ hf hnb hsl];exact c0
theorem PK.tbB (hK:PK H b F s t) (hB:HB H b sb hb):∃ tb F2,aa H ⟨b,1,none⟩=some (.pointer (some ⟨tb,0,none⟩))∧lJ H tb F2 t∧∀ H' F2' t',lJ H' tb F2' t'->Up F2 H F2' H'->(∃ F',PK H' b F' s t'∧Up F H F' H')∧HB H' b sb hb:=by
 obtain ⟨sb0,tb,F1,F2,rfl,h1,h2,h3,k1,k2,hBl,hS,hT⟩:=hK
 have hK:PK H b (b :: (F1++F2)) s t:=⟨sb0,tb,F1,F2,rfl,h1,h2,h3,k1,k2,hBl,hS,hT⟩
 obtain ⟨tb',F2',hc',hT',hsub',hbF',hup',_⟩:=hK.tb
 obtain ⟨hc1,hc2⟩:=hB
 have e0:aa H ⟨b,0,none⟩=some (.pointer (some ⟨sb0,0,none⟩)):=hBl.cell 0
 rw [e0] at hc1
 have e:sb0=sb:=by simpa using hc1
 subst e
 have hbl:=hK.lt b hK.bmem
 have hsl:=hS.lt _ hS.bmem
 refine ⟨tb,F2,hBl.cell 1,hT,fun H' F2' t' hT2 hu=>⟨?_,?_,?_⟩⟩
 ·have hlt:=hK.lt
  have hgl:=hK.kinds.lt
  have hgS:=hS.gk
  refine ⟨b :: (F1++F2'),⟨_,tb,F1,F2',rfl,h1,Up.out hu h2 hbl,fun x hx hx2=>?_,k1,Up.out hu k2 hgl,hBl.fr hu.1 h2,hS.fr hu.1 h3 k2,hT2⟩,hu.1.mono fun x hx=>by simp [hx],fun x hx=>?_⟩
  ·rcases hu.2 x hx2 with h4 | h4
   ·exact h3 x hx h4
   ·have:=hlt x (by simp [hx]);omega
  ·rcases List.mem_cons.1 hx with rfl | hx
   ·exact .inl (by simp)
   ·rcases List.mem_append.1 hx with hx | hx
    ·exact .inl (by simp [hx])
    ·exact (hu.2 x hx).imp (fun h4=>by simp [h4]) id
 ·rw [cQ hu.1 h2 hbl];exact e0
 ·rw [cQ hu.1 (h3 _ hS.bmem) hsl];exact hc2
theorem kL {r:RH} (h:∀ k x,am r.objs k=some x->x.fmt=0) (k i w:Int):∀ j x,am (r.put k i w).2.objs j=some x->x.fmt=0:=fun j x hx=>by
 obtain ⟨y,h1,h2⟩:=sT k i w j hx
 rw [h2];exact h j y h1
theorem yb (o:Int) (l:List Int):∀ (i:Int){r:RH},(∀ k x,am r.objs k=some x->x.fmt=0)->∀ j x,am (r.lay o i l).objs j=some x->x.fmt=0:=by
 induction l with
 | nil=>intro i r h;exact h
 | cons w l ih=>intro i r h;exact ih (i+1) (kL h o i w)
theorem mX {r:RH} (h:∀ k x,am r.objs k=some x->x.fmt=0) (n:Nat):∀ j x,am (iB r n).objs j=some x->x.fmt=0:=by
 induction n with
 | zero=>exact h
 | succ n ih=>exact kL (yb _ _ _ ih) _ _ _
theorem Ct (hK:PK H b F s ⟨4096,[]⟩) (hB:HB H b sb hb) (hfmt:∀ k x,am s.h.objs k=some x->x.fmt=0)
  (h:∀ H' F',PK H' b F' { s with h:=bR s.h } bq->HB H' b sb hb->Up F H F' H'->Q (.tuple #[]) H'):ac PP IF #[.pointer (some ⟨b,0,none⟩)] Q H:=by
 have h14:bG.length=14:=rfl
 apply Ew
 unfold LV A0 iV wW pV sV lV cS
 obtain ⟨sb0,F1,hc,hS,_⟩:=hK.sp
 have e0:sb0=sb:=by
  have:=hB.1
  rw [hc] at this;simpa using this
 subst e0
 refine ⟨_,rfl,_,hc,?_⟩
 have hps:∀ {Q':Value->ae->Prop},Q' (.pointer (some ⟨hb,0,none⟩)) H->ac PP su #[.pointer (some ⟨sb0,0,none⟩)] Q' H:=by
  intro Q' hq
  obtain ⟨hb',F1',hR,c0,_⟩:=hS.upd
  obtain ⟨hc1,hc2⟩:=hB
  rw [c0] at hc2
  have e:hb'=hb:=by simpa using hc2
  subst e
  apply vP
  unfold K9 pV
  refine eJ hS ⟨_,rfl,?_⟩
  simp only [cond_false]
  exact ⟨_,rfl,_,c0,hq⟩
 refine hps ⟨_,rfl,?_⟩
 apply uX
 unfold K4 A0 sV lV
 refine ⟨_,_,_,rfl,?_⟩
 have fp:=(Fr.push [] H (.cells (bg bG).toArray 9))
 have hN:Rd 1 (H.push (.cells (bg bG).toArray 9)) (some ⟨H.size,0,none⟩) 14 (bg bG):=by
  refine ⟨rfl,(fun h=>by cases h),fun p hp k hk=>?_⟩
  cases hp
  rw [al,Nat.zero_add,(aV.new H _ _).cell]
  simp
 have hNo:uK (H.push (.cells (bg bG).toArray 9)) (some ⟨H.size,0,none⟩) F:=fun p hp=>by
  cases hp
  exact ⟨by simp,fun hm=>absurd (hK.lt _ hm) (Nat.lt_irrefl _)⟩
 have hK1:=hK.nil fp
 have hB1:HB (H.push (.cells (bg bG).toArray 9)) b sb0 hb:=HB.nil hB fp
 show ∃(I8:List Value->ae->Prop) (μ8:List Value->ae->Nat),I8 [.int .i64 0] (H.push (.cells (bg bG).toArray 9))∧_
 generalize (H.push (.cells (bg bG).toArray 9))=H0 at fp hN hNo hK1 hB1 ⊢
 refine ⟨fun w H'=>∃(i:Nat) (F':az),w=[.int .i64 i]∧i<=14∧PK H' b F' { s with h:=iB s.h i } ⟨4096,bG.take i⟩∧HB H' b sb0 hb∧Up F H0 F' H',fun w _=>match w with
  | [.int _ i]=>(14-i).toNat
  | _=>0,⟨0,F,rfl,by decide,hK1,hB1,Up.refl _ _⟩,?_⟩
 rintro w H3 ⟨i,F3,rfl,hi,hK3,hB3,hu3⟩ _
 refine ⟨_,rfl,?_⟩
 rw [af]
 refine ap (fun hlt=>?_) fun hlt=>?_
 ·have hlt':i<bG.length:=by omega
  obtain ⟨p,hlt2,hp,hcell⟩:=(hNo.rd hu3 hN).str (i:=(i:Int)) (by omega) (by omega)
  cases hp
  simp only [Int.toNat_natCast] at hcell hlt2
  have e1:IntKind.wrap .i64 ((i:Int)+1)=((i+1:Nat):Int):=by rw [ah (by omega) (by omega)];omega
  have e1':IntKind.wrap .i64 ((i:Int)+1)=(i:Int)+1:=ah (by omega) (by omega)
  have e4:IntKind.wrap .i64 (4+(i:Int))=4+(i:Int):=ah (by omega) (by omega)
  obtain ⟨tb,F4,hc4,hT4,hup4⟩:=PK.tbB hK3 hB3
  refine ⟨⟨by omega,hlt⟩,_,rfl,_,by rw [Int.toNat_natCast,Nat.mul_one];exact hcell,_,rfl,_,hc4,oD hT4 fun H4 F4' hT4' hu4=>⟨_,_,rfl,?_⟩⟩
  rw [xQ hlt'] at hT4' ⊢
  obtain ⟨⟨F5,hK5,hu5⟩,hB5⟩:=hup4 H4 F4' _ hT4' hu4
  refine vO ⟨by simp only;omega,by simp only;omega⟩ ⟨_,_,rfl,cg (by decide) ⟨_,rfl,?_⟩⟩
  refine ⟨fun w H'=>w=[.int .i64 (if i=0 then 4 else 16)]∧H'=H4,?_,?_⟩
  ·rw [aX,af]
   refine ap (fun h0=>cg (by decide) ⟨_,rfl,?_,rfl⟩) fun h0=>⟨?_,rfl⟩
   ·rw [if_pos (by omega)];rfl
   ·rw [if_neg (by omega)];rfl
  rintro w H4' ⟨rfl,rfl⟩ _
  refine ⟨_,rfl,cg (by decide) ⟨_,rfl,cg (by decide) ⟨_,rfl,cg (by decide) ⟨_,rfl,ib (by decide) ⟨_,rfl,?_⟩⟩⟩⟩⟩
  rw [e1',e4]
  refine ib ⟨by omega,by omega⟩ ⟨_,rfl,?_⟩
  have fq:=(Fr.push [] H4' (.cells (ag (dt i)).toArray 26))
  have hW:Rd 1 (H4'.push (.cells (ag (dt i)).toArray 26)) (some ⟨H4'.size,0,none⟩) 7 (ag (dt i)):=lf (cs:=dt i)
  have hWo:uK (H4'.push (.cells (ag (dt i)).toArray 26)) (some ⟨H4'.size,0,none⟩) F5:=fun p hp=>by
   cases hp
   exact ⟨by simp,fun hm=>absurd (hK5.lt _ hm) (Nat.lt_irrefl _)⟩
  have hK6:=hK5.nil fq
  have hB6:HB (H4'.push (.cells (ag (dt i)).toArray 26)) b sb0 hb:=HB.nil hB5 fq
  show ∃(I38:List Value->ae->Prop) (μ38:List Value->ae->Nat),I38 [.int .i64 0] (H4'.push (.cells (ag (dt i)).toArray 26))∧_
  generalize (H4'.push (.cells (ag (dt i)).toArray 26))=H6 at fq hW hWo hK6 hB6 ⊢
  refine ⟨fun w H'=>∃(k:Nat) (r:RH),w=[.int .i64 k]∧k<=7∧PK H' b F5 { s with h:=r } ⟨4096,bG.take (i+1)⟩∧HB H' b sb0 hb∧Fr F5 H6 H'∧r.lay (4+i) k ((dt i).drop k)=(iB s.h i).lay (4+i) 0 (dt i)∧∀ j x,am r.objs j=some x->x.fmt=0,fun w _=>match w with
   | [.int _ k]=>(7-k).toNat
   | _=>0,⟨0,iB s.h i,rfl,by decide,hK6,hB6,Fr.refl _ _,rfl,mX hfmt i⟩,?_⟩
  rintro w H7 ⟨k,r,rfl,hk7,hK7,hB7,hf7,hlay,hr⟩ _
  refine ⟨_,rfl,?_⟩
  rw [af]
  refine ap (fun hkl=>?_) fun hkl=>?_
  ·have hkl':k<(dt i).length:=by show k<7;omega
   obtain ⟨p,hp,hcell,hlt3⟩:=(hW.fr' hf7 fun p hp=>(hWo p hp).2).int (i:=(k:Int)) (by omega) (by omega)
   cases hp
   rw [Int.toNat_natCast] at hcell hlt3
   have hx:(dt i).getD k 0=(dt i)[k]:=by simp [hkl']
   rw [hx] at hcell
   have ed:(dt i).drop k=(dt i)[k] :: (dt i).drop (k+1):=List.drop_eq_getElem_cons hkl'
   have ek:IntKind.wrap .i64 ((k:Int)+1)=((k+1:Nat):Int):=by rw [ah (by omega) (by omega)];omega
   obtain ⟨F8,hR8,hsub8,hup8⟩:=PK.hp hK7 hB7
   refine ⟨⟨by omega,hkl⟩,_,rfl,_,by rw [Int.toNat_natCast,Nat.mul_one];exact hcell,lR hR8 (hr _) fun H9 hR9 hf9=>⟨_,rfl,?_⟩⟩
   obtain ⟨hK9,hB9⟩:=hup8 H9 _ hR9 hf9
   rw [ek]
   refine ⟨⟨k+1,(r.put (4+i) k (dt i)[k]).2,rfl,by omega,hK9,hB9,hf7.trans (hf9.mono hsub8),?_,kL hr _ _ _⟩,by simp;omega⟩
   rw [←hlay,ed]
   rfl
  ·have hk:k=7:=by omega
   subst hk
   have hz:(dt i).drop 7=[]:=rfl
   rw [hz] at hlay
   simp only [RH.lay] at hlay
   subst hlay
   refine cg ⟨by omega,by omega⟩ ⟨_,rfl,?_⟩
   obtain ⟨F8,hR8,hsub8,hup8⟩:=PK.hp hK7 hB7
   refine lR hR8 (hr _) fun H9 hR9 hf9=>⟨_,rfl,?_⟩
   obtain ⟨hK9,hB9⟩:=hup8 H9 _ hR9 hf9
   rw [show (i:Int)+1=((i+1:Nat):Int) by omega]
   refine ⟨⟨i+1,F5,rfl,by omega,hK9,hB9,?_⟩,by simp;omega⟩
   exact (hu3.trans hu5).trans ((Up.of_nil fq).trans ⟨hf7.trans (hf9.mono hsub8),fun _ h=>.inl h⟩)
 ·have hi14:i=14:=by omega
  subst hi14
  have fq:=(Fr.push [] H3 (.cells (ag [20,18,18,18,1,2,3]).toArray 3))
  have hW:Rd 1 (H3.push (.cells (ag [20,18,18,18,1,2,3]).toArray 3)) (some ⟨H3.size,0,none⟩) 7 (ag [20,18,18,18,1,2,3]):=lf (cs:=[20,18,18,18,1,2,3])
  have hWo:uK (H3.push (.cells (ag [20,18,18,18,1,2,3]).toArray 3)) (some ⟨H3.size,0,none⟩) F3:=fun p hp=>by
   cases hp
   exact ⟨by simp,fun hm=>absurd (hK3.lt _ hm) (Nat.lt_irrefl _)⟩
  have hK6:=hK3.nil fq
  have hB6:HB (H3.push (.cells (ag [20,18,18,18,1,2,3]).toArray 3)) b sb0 hb:=HB.nil hB3 fq
  show ∃(I38:List Value->ae->Prop) (μ38:List Value->ae->Nat),I38 [.int .i64 0] (H3.push (.cells (ag [20,18,18,18,1,2,3]).toArray 3))∧_
  generalize (H3.push (.cells (ag [20,18,18,18,1,2,3]).toArray 3))=H6 at fq hW hWo hK6 hB6 ⊢
  refine ⟨fun w H'=>∃(k:Nat) (r:RH),w=[.int .i64 k]∧k<=7∧PK H' b F3 { s with h:=r } bq∧HB H' b sb0 hb∧Fr F3 H6 H'∧r.lay 19 k (pU.drop k)=bR s.h∧∀ j x,am r.objs j=some x->x.fmt=0,fun w _=>match w with
   | [.int _ k]=>(7-k).toNat
   | _=>0,⟨0,iB s.h 14,rfl,by decide,by rw [show bq=⟨4096,bG.take 14⟩ from rfl];exact hK6,hB6,Fr.refl _ _,by rw [bR];rfl,mX hfmt 14⟩,?_⟩
  rintro w H7 ⟨k,r,rfl,hk7,hK7,hB7,hf7,hlay,hr⟩ _
  refine ⟨_,rfl,?_⟩
  rw [af]
  refine ap (fun hkl=>?_) fun hkl=>?_
  ·have hkl':k<7:=by omega
   obtain ⟨p,hp,hcell,hlt3⟩:=(hW.fr' hf7 fun p hp=>(hWo p hp).2).int (i:=(k:Int)) (by omega) (by omega)
   cases hp
   rw [Int.toNat_natCast] at hcell hlt3
   have ek:IntKind.wrap .i64 ((k:Int)+1)=((k+1:Nat):Int):=by rw [ah (by omega) (by omega)];omega
   have hx:1<=([20,18,18,18,1,2,3]:List Int).getD k 0∧([20,18,18,18,1,2,3]:List Int).getD k 0<=65536∧pU.drop k=4*([20,18,18,18,1,2,3]:List Int).getD k 0 :: pU.drop (k+1):=by
    rcases k with _ | _ | _ | _ | _ | _ | _ | k
    all_goals first | exact ⟨by decide,by decide,by decide⟩ | omega
   obtain ⟨F8,hR8,hsub8,hup8⟩:=PK.hp hK7 hB7
   refine ⟨⟨by omega,hkl⟩,_,rfl,_,by rw [Int.toNat_natCast,Nat.mul_one];exact hcell,cg ⟨hx.1,hx.2.1⟩ ⟨_,rfl,lR hR8 (hr _) fun H9 hR9 hf9=>⟨_,rfl,?_⟩⟩⟩
   obtain ⟨hK9,hB9⟩:=hup8 H9 _ hR9 hf9
   rw [ek]
   refine ⟨⟨k+1,_,rfl,by omega,hK9,hB9,hf7.trans (hf9.mono hsub8),?_,kL hr _ _ _⟩,by simp;omega⟩
   rw [←hlay,hx.2.2]
   rfl
  ·have hk:k=7:=by omega
   subst hk
   have hz:pU.drop 7=[]:=rfl
   rw [hz] at hlay
   have hlay':r=bR s.h:=hlay
   rw [hlay'] at hK7
   have hu7:Up F3 H3 F3 H7:=(Up.of_nil fq).trans ⟨hf7,fun _ h=>.inl h⟩
   have hu9:Up F H F3 H7:=((Up.of_nil fp).trans hu3).trans hu7
   exact h H7 F3 hK7 hB7 hu9
end
def cH:List (Int × Int)->List Value
 | []=>[]
 | (c,n) :: l=>.int .i64 c :: .int .i64 n :: cH l
theorem i8 (l m:List (Int × Int)):cH (l++m)=cH l++cH m:=by
 induction l with
 | nil=>rfl
 | cons x l ih=>obtain ⟨c,n⟩:=x;simp [cH,ih]
theorem tq (l:List (Int × Int)):(cH l).length=2*l.length:=by
 induction l with
 | nil=>rfl
 | cons x l ih=>obtain ⟨c,n⟩:=x;simp only [cH,List.length_cons,ih];omega
theorem tI (l:List (Int × Int)):∀ v∈cH l,dC v=true:=by
 induction l with
 | nil=>intro v hv;cases hv
 | cons x l ih =>
  obtain ⟨c,n⟩:=x
  intro v hv
  simp only [cH,List.mem_cons] at hv
  rcases hv with rfl | rfl | hv
  ·rfl
  ·rfl
  ·exact ih v hv
theorem tD {l:List (Int × Int)}{i:Nat} (h:i<l.length):(cH l)[i*2]?=some (.int .i64 l[i].1)∧(cH l)[i*2+1]?=some (.int .i64 l[i].2):=by
 induction l generalizing i with
 | nil=>simp at h
 | cons x l ih =>
  obtain ⟨c,n⟩:=x
  cases i with
  | zero=>simp [cH]
  | succ i =>
   have:=ih (i:=i) (by simpa using h)
   have e:(i+1)*2=i*2+2:=by omega
   rw [e]
   simpa [cH] using this
theorem mE (r:RH) (x:Int × Int) (l:List (Int × Int)):r.allocAll (x :: l)=if (r.alloc (4*x.1) x.2 0).1.2≠0 then ((r.alloc (4*x.1) x.2 0).1.2,(r.alloc (4*x.1) x.2 0).2) else RH.allocAll (r.alloc (4*x.1) x.2 0).2 l:=by
 obtain ⟨c,n⟩:=x;rfl
theorem tM (words oops:Int):bR (((bF words oops).allocAll ay).2)=bf words oops:=rfl
theorem uc {words oops:Int} (hz:((bF words oops).allocAll ay).1=0):((bF words oops).allocAll ay).2.objs=cn:=by
 rw [iH ay (r:=bF words oops) rfl hz];rfl
theorem um {words oops:Int} (hw:WFH (bf words oops)) (hz:((bF words oops).allocAll ay).1=0):((bf words oops).clsAt 19).2=0:=by
 obtain ⟨x,hx,_⟩:=sS hw hz (p:=(19,[80,72,72,72,4,8,12,4])) (by decide)
 unfold RH.clsAt
 simp only at hx
 rw [hx]
attribute [local irreducible] bf bR cn
section
variable {H:ae}{Q:QT}
theorem qC:∀ i (hi:i<ay.length),1<=(ay[i]).1∧(ay[i]).1<=65536:=by decide
theorem AF {words oops:Int} (hk:cq H) (hbad:¬ (0<=words∧words<=1048576∧0<=oops∧oops<=65536)->Q (.tuple #[.pointer none,.int .i64 1]) H)
  (h1:(0<=words∧words<=1048576∧0<=oops∧oops<=65536)->((bF words oops).allocAll ay).1≠0->∀ H',Fr [] H H'->Q (.tuple #[.pointer none,.int .i64 ((bF words oops).allocAll ay).1]) H')
  (h2:(0<=words∧words<=1048576∧0<=oops∧oops<=65536)->((bF words oops).allocAll ay).1=0->∀ b F H',PK H' b F (br words oops) bq->Fr [] H H'->(∀ x∈F,H.size<=x)->Q (.tuple #[.pointer (some ⟨b,0,none⟩),.int .i64 0]) H') :
  ac PP KE #[.int .i64 words,.int .i64 oops] Q H:=by
 have hs1:aI PP 121=some (2,16,some (.agg #[.int .i64 0,.int .i64 0])):=by kernel_rfl
 apply Bt
 unfold L6 A0 iV wW pV lV cS;dsimp only [shH]
 refine zz hk (fun hb=>⟨_,_,rfl,hbad hb⟩) fun hg sb F1 H1 hS1 hf1 hF1=>⟨_,_,rfl,?_⟩
 simp only [show ((0:Int) != 0)=false from rfl,cond_false]
 have h1:=h1 hg
 have h2:=h2 hg
 refine yt (fun hb=>absurd ⟨by decide,by decide⟩ hb) fun _ tb F2 H2 hT2 hf2 hF2=>⟨_,_,rfl,?_⟩
 simp only [show ((0:Int) != 0)=false from rfl,cond_false]
 have hf12:=hf1.trans hf2
 have hS2:=hS1.nilfr hf2
 have hgl:=hk.lt
 have hK3:PK (H2.push (.cells #[.pointer (some ⟨sb,0,none⟩),.pointer (some ⟨tb,0,none⟩)] 65)) H2.size (H2.size :: (F1++F2)) ⟨bF words oops,0,[],false,0,0,0⟩ ⟨4096,[]⟩:=by
  have fp:=Fr.push [] H2 (.cells #[.pointer (some ⟨sb,0,none⟩),.pointer (some ⟨tb,0,none⟩)] 65)
  have l1:=hS2.lt
  have l1':=hS1.lt
  have l2:=hT2.lt
  refine ⟨sb,tb,F1,F2,rfl,fun hm=>absurd (l1 _ hm) (Nat.lt_irrefl _),fun hm=>absurd (l2 _ hm) (Nat.lt_irrefl _),fun x hx hx2=>?_,?_,fun hm=>?_,aV.new _ _ _,hS2.nilfr fp,hT2.fr fp (cA.nil_right _)⟩
  ·have:=hF2 x hx2;have:=l1' x hx;omega
  ·have:=hf12.1;omega
  ·have:=hF2 _ hm;have:=hf1.1;omega
 have hf3:Fr [] H (H2.push (.cells #[.pointer (some ⟨sb,0,none⟩),.pointer (some ⟨tb,0,none⟩)] 65)):=hf12.more
 have hF3:∀ x∈H2.size :: (F1++F2),H.size<=x:=fun x hx=>by
  rcases List.mem_cons.1 hx with rfl | hx
  ·exact hf12.1
  ·rcases List.mem_append.1 hx with hx | hx
   ·exact hF1 x hx
   ·exact Nat.le_trans hf1.1 (hF2 x hx)
 generalize hH3:(H2.push (.cells #[.pointer (some ⟨sb,0,none⟩),.pointer (some ⟨tb,0,none⟩)] 65))=H3 at hK3 hf3 ⊢
 generalize (H2.size :: (F1++F2))=F3 at hK3 hF3
 apply uX
 unfold K4 A0 sV lV
 refine ⟨_,_,_,rfl,?_⟩
 have hlt3:=hK3.lt
 have hO0:bK 2 (H3.push (.cells (cH [(5,0),(6,0),(7,0)]).toArray 120)) (some ⟨H3.size,0,none⟩) 3 3 (cH [(5,0),(6,0),(7,0)]) [H3.size]:=⟨rfl,Nat.le_refl _,.inr ⟨H3.size,_,rfl,rfl,aV.new _ _ _,rfl,rfl⟩⟩
 have fq:Fr [] H3 (H3.push (.cells (cH [(5,0),(6,0),(7,0)]).toArray 120)):=Fr.push _ _ _
 generalize hH4:(H3.push (.cells (cH [(5,0),(6,0),(7,0)]).toArray 120))=H4 at hO0 fq
 have hO1:bK 2 (H4.push (.cells (bg bG).toArray 9)) (some ⟨H3.size,0,none⟩) 3 3 (cH [(5,0),(6,0),(7,0)]) [H3.size]:=hO0.fr (Fr.push [] _ _) (by simp)
 have fr1:Fr [] H3 (H4.push (.cells (bg bG).toArray 9)):=fq.more
 show ∃(I11:List Value->ae->Prop) (μ11:List Value->ae->Nat),I11 [.slice (some ⟨H3.size,0,none⟩) 3 3,.int .i64 0] ((H3.push (.cells (cH [(5,0),(6,0),(7,0)]).toArray 120)).push (.cells (bg bG).toArray 9))∧_
 rw [hH4]
 generalize (H4.push (.cells (bg bG).toArray 9))=H5 at hO1 fr1 ⊢
 refine ⟨fun w H'=>∃(i:Nat) (a:Option Addr) (l c:Nat) (G:az),w=[.slice a l c,.int .i64 i]∧i<=14∧bK 2 H' a l c (cH ([(5,0),(6,0),(7,0)]++List.replicate i (12,7))) G∧Fr [] H3 H'∧(∀ x∈G,H3.size<=x),fun w _=>match w with
  | [_,.int _ i]=>(14-i).toNat
  | _=>0,⟨0,_,_,_,_,rfl,by decide,hO1,fr1,by simp⟩,?_⟩
 rintro w H6 ⟨i,a,l,c,G,rfl,hi,ho,hf6,hG⟩ _
 have hl:l=3+i:=by have:=ho.len;rw [tq] at this;simp at this;omega
 refine ⟨_,_,_,_,rfl,?_⟩
 rw [af]
 refine ap (fun hlt=>?_) fun hlt=>?_
 ·have e1:IntKind.wrap .i64 ((i:Int)+1)=((i+1:Nat):Int):=by rw [ah (by omega) (by omega)];omega
  refine bJ hs1 rfl (by kernel_rfl) ho rfl (by simp [dC]) (by omega) (by decide) (by decide) fun a' c' G2 H7 g1 g2 g3=>⟨_,_,_,rfl,?_⟩
  obtain ⟨f7,hG7⟩:=Up.fresh hf6 g2 hG
  rw [e1]
  refine ⟨⟨i+1,a',l+1,c',G2,rfl,by omega,?_,f7,hG7⟩,by simp;omega⟩
  rw [List.replicate_succ',←List.append_assoc,i8]
  exact g1
 have hi14:i=14:=by omega
 subst hi14
 have fl:Fr [] H6 (H6.push (.cells (cH [(11,0),(11,8),(11,14)]).toArray 120)):=Fr.push _ _ _
 refine dn (l2:=3) (ys:=cH [(11,0),(11,8),(11,14)]) hs1 rfl (by kernel_rfl) (ho.fr fl (by simp)) ⟨rfl,(fun h=>by cases h),fun p hp k hk'=>?_⟩ (tI _) (by omega) (by decide) (by decide) fun a' c' G2 H7 g1 g2 g3=>⟨_,_,_,rfl,?_⟩
 ·cases hp
  rw [al,Nat.zero_add]
  exact ((aV.new H6 (cH [(11,0),(11,8),(11,14)]).toArray 120).cell k).trans (by simp)
 obtain ⟨f7,hG7⟩:=Up.fresh (hf6.trans fl) g2 hG
 rw [←i8] at g1
 have ep:[(5,0),(6,0),(7,0)]++List.replicate 14 (12,7)++[(11,0),(11,8),(11,14)]=ay:=rfl
 rw [ep] at g1
 subst hl
 have hr7:Rd 2 H7 a' 20 (cH ay):=g1.rd
 have ho7:uK H7 a' F3:=fun p hp=>by
  have hlt:=g1.lt
  rcases g1.2.2 with ⟨h3,_⟩ | ⟨b',cs,h3,h4,_⟩
  ·rw [h3] at hp;cases hp
  ·rw [h3] at hp;cases hp
   have hb':b'∈G2:=by rw [h4];simp
   exact ⟨hlt _ hb',fun hm=>by have h5:=hG7 _ hb';have h6:=hlt3 _ hm;simp only at h6;omega⟩
 have hK7:=hK3.nil f7
 have hc3:aa H3 ⟨H2.size,0,none⟩=some (.pointer (some ⟨sb,0,none⟩)):=by rw [←hH3];exact (aV.new H2 _ _).cell 0
 have hc7:aa H7 ⟨H2.size,0,none⟩=some (.pointer (some ⟨sb,0,none⟩)):=by rw [cQ f7 (by simp) (fk hc3)];exact hc3
 have hf7:=hf3.trans f7
 have h20:ay.length=20:=rfl
 refine ⟨fun w H'=>∃(k:Nat) (r:RH) (st:List Int) (F':az),w=[.int .i64 k]∧k<=20∧PK H' H2.size F' ⟨r,0,st,false,0,0,0⟩ ⟨4096,[]⟩∧Up F3 H7 F' H'∧st.length=k∧aa H' ⟨H2.size,0,none⟩=some (.pointer (some ⟨sb,0,none⟩))∧r.allocAll (ay.drop k)=(bF words oops).allocAll ay,fun w _=>match w with
  | [.int _ k]=>(20-k).toNat
  | _=>0,⟨0,_,_,_,rfl,by decide,hK7,Up.refl _ _,rfl,hc7,rfl⟩,?_⟩
 rintro w H8 ⟨k,r,st,F8,rfl,hk20,hK8,hu8,hst,hcb,hall⟩ _
 refine ⟨_,rfl,?_⟩
 rw [af]
 refine ap (fun hlt=>?_) fun hlt=>?_
 ·have hkl:k<ay.length:=by omega
  have e1:IntKind.wrap .i64 ((k:Int)+1)=((k+1:Nat):Int):=by rw [ah (by omega) (by omega)];omega
  have hr8:Rd 2 H8 a' 20 (cH ay):=hr7.fr' hu8.1 fun p hp=>(ho7 p hp).2
  have hpb:=qC k hkl
  obtain ⟨q0,q1⟩:=tD hkl
  have ed:ay.drop k=ay[k] :: ay.drop (k+1):=List.drop_eq_getElem_cons hkl
  rw [ed] at hall
  have hex:∃ q,a'=some q:=by
   cases ha:a' with
   | none=>have:=hr8.2.1 ha;omega
   | some q=>exact ⟨q,rfl⟩
  obtain ⟨q,rfl⟩:=hex
  have c0:=hr8.2.2 q rfl (k*2) (by omega)
  have c1:=hr8.2.2 q rfl (k*2+1) (by omega)
  rw [q0] at c0
  rw [q1] at c1
  have eadd:(q.add (k*2)).add 1=q.add (k*2+1):=Addr.add_add _ _ _
  refine ⟨⟨by omega,by omega⟩,_,rfl,_,by rw [Int.toNat_natCast];exact c0,_,by rw [Int.toNat_natCast,eadd];exact c1,?_⟩
  have fpx:Fr [] H8 (H8.push (.cells #[.int .i64 0,.int .i64 0] 120)):=Fr.push _ _ _
  have hBx:=aV.new H8 #[.int .i64 0,.int .i64 0] 120
  generalize (H8.push (.cells #[.int .i64 0,.int .i64 0] 120))=H9 at fpx hBx ⊢
  have hB9:=(hBx.set 0 (.int .i64 (ay[k]).1)).set 1 (.int .i64 (ay[k]).2)
  have f9:Fr [] H8 (av (av H9 ⟨H8.size,0,none⟩ (.int .i64 (ay[k]).1)) ⟨H8.size,1,none⟩ (.int .i64 (ay[k]).2)):=Fr.late (Fr.late fpx (Nat.le_refl _)) (Nat.le_refl _)
  refine ⟨hBx.wr (o:=0) (by simp),(hBx.set 0 _).wr (o:=1) (by simp),?_⟩
  show ∃ n25:Int,aa (av (av H9 ⟨H8.size,0,none⟩ (.int .i64 (ay[k]).1)) ⟨H8.size,1,none⟩ (.int .i64 (ay[k]).2)) ⟨H8.size,0,none⟩=some (.int .i64 n25)∧∃ n26:Int,aa (av (av H9 ⟨H8.size,0,none⟩ (.int .i64 (ay[k]).1)) ⟨H8.size,1,none⟩ (.int .i64 (ay[k]).2)) ⟨H8.size,1,none⟩=some (.int .i64 n26)∧ac PP su _ _ (av (av H9 ⟨H8.size,0,none⟩ (.int .i64 (ay[k]).1)) ⟨H8.size,1,none⟩ (.int .i64 (ay[k]).2))
  generalize (av (av H9 ⟨H8.size,0,none⟩ (.int .i64 (ay[k]).1)) ⟨H8.size,1,none⟩ (.int .i64 (ay[k]).2))=HA at hB9 f9 ⊢
  have hKA:=hK8.nil f9
  obtain ⟨sbA,FA,hcA,hSA,hsubA,hbA,hupA,hupA2⟩:=hKA.sp
  have esb:sbA=sb:=by rw [cQ f9 (by simp) (fk hcb),hcb] at hcA;simpa using hcA.symm
  subst esb
  refine ⟨_,hB9.cell 0,_,hB9.cell 1,cE hSA fun hb FB hRB hsubB hupB=>⟨_,rfl,⟨⟨hB9.cell 1,trivial⟩,⟨hB9.cell 0,trivial⟩,trivial⟩,cg hpb ⟨_,rfl,⟨⟨hB9.cell 1,trivial⟩,trivial⟩,nL hRB fun HB' hRB' hfB=>⟨_,_,rfl,trivial,?_⟩⟩⟩⟩
  have hSB:=hupB HB' _ hRB' hfB
  have hKB:=hupA2 HB' _ hSB (hfB.mono hsubB)
  have huB:Up F8 HA F8 HB':=⟨(hfB.mono hsubB).mono hsubA,fun _ h=>.inl h⟩
  have hu8B:Up F3 H7 F8 HB':=hu8.trans ((Up.of_nil f9).trans huB)
  rw [mE] at hall
  rw [aY,af]
  refine ap (fun he=>?_) fun he=>?_
  ·rw [if_pos he] at hall
   have e0:((bF words oops).allocAll ay).1=(r.alloc (4*(ay[k]).1) (ay[k]).2 0).1.2:=by rw [←hall]
   have:=h1 (by rw [e0];exact he) HB' ?_
   ·rw [e0] at this;exact this
   ·exact (Up.fresh hf7 hu8B hF3).1
  rw [if_neg he] at hall
  have hz:(r.alloc (4*(ay[k]).1) (ay[k]).2 0).1.2=0:=Classical.byContradiction he
  have hob:=gX hK8.wfs.h hz
  refine cg ⟨hob.2.1,hob.2.2.1⟩ ⟨_,rfl,?_⟩
  have fpy:Fr [] HB' (HB'.push (.cells #[.int .i64 (4*(r.alloc (4*(ay[k]).1) (ay[k]).2 0).1.1)] 26)):=Fr.push _ _ _
  have hKC:=hKB.nil fpy
  obtain ⟨sbC,FC,hcC,hSC,hsubC,hbC,hupC,_⟩:=hKC.sp
  have hcB':aa HB' ⟨H2.size,0,none⟩=some (.pointer (some ⟨sbA,0,none⟩)):=by rw [cQ hfB (fun hm=>hbA (hsubB _ hm)) (fk hcA)];exact hcA
  have hcP:=cQ fpy (b:=H2.size) (o:=0) (by simp) (fk hcB')
  rw [hcB'] at hcP
  have esb:sbC=sbA:=by rw [hcP] at hcC;simpa using hcC.symm
  subst esb
  have hkw:=ia (s:=⟨(r.alloc (4*(ay[k]).1) (ay[k]).2 0).2,0,st,false,0,0,0⟩) (bB hob.2.1 hob.2.2.1) (by show st.length<65536;omega)
  refine lE hSC (lf (cs:=[4*(r.alloc (4*(ay[k]).1) (ay[k]).2 0).1.1])) (by decide) fun HD FD hSD huD=>⟨_,rfl,?_⟩
  rw [hkw] at hSD ⊢
  simp only [show ((0:Int) != 0)=false from rfl,cond_false]
  obtain ⟨FE,hKE,huE⟩:=hupC HD FD _ hSD huD
  rw [e1]
  exact ⟨⟨k+1,_,_,FE,rfl,by omega,hKE,hu8B.trans ((Up.of_nil fpy).trans huE),by simp [hst],by rw [cQ huD.1 hbC (fk hcC)];exact hcC,hall⟩,by simp;omega⟩
 ·have hk20':k=20:=by omega
  subst hk20'
  have ez:ay.drop 20=[]:=rfl
  rw [ez] at hall
  have hall':(0,r)=(bF words oops).allocAll ay:=hall
  have hz:((bF words oops).allocAll ay).1=0:=by rw [←hall']
  have hrr:r=((bF words oops).allocAll ay).2:=by rw [←hall']
  have hbH:bR r=bf words oops:=by rw [hrr];exact tM _ _
  have hro:r.objs=cn:=by rw [hrr];exact uc hz
  obtain ⟨sb8,F9,hc8,hS8,_⟩:=hK8.sp
  obtain ⟨hb8,_,_,hcx,_⟩:=hS8.upd
  have esb8:sb8=sb:=by rw [hcb] at hc8;simpa using hc8.symm
  subst esb8
  refine Ct hK8 ⟨hc8,hcx⟩ (fun j x hx=>?_) fun H9 FA hKA hBA huA=>⟨rfl,?_⟩
  ·rw [hro] at hx
   exact of_decide_eq_true (List.all_eq_true.1 t7 x (au hx).1)
  have hKA':PK H9 H2.size FA ⟨bf words oops,0,st,false,0,0,0⟩ bq:=by rw [←hbH];exact hKA
  obtain ⟨sbA,F10,hcA,hSA,hsubA,hbA,_,hupA⟩:=hKA'.sp
  have esb:sbA=sb8:=by have:=hBA.1;rw [hcA] at this;simpa using this
  subst esb
  have hwf:WFH (bf words oops):=hKA'.wfs.h
  have hcl:((bf words oops).clsAt 19).2=0:=um hwf hz
  refine uw hSA fun HB hSB hfB=>⟨_,rfl,?_⟩
  have ecr:(SP.crown ⟨bf words oops,0,st,false,0,0,0⟩ 19)=(0,⟨bf words oops,19,st,false,0,0,0⟩):=by
   unfold SP.crown
   rw [if_neg (by simpa using hcl)]
  rw [ecr] at hSB
  have hKB:=hupA HB _ hSB hfB
  obtain ⟨sbB,F11,hcB,hSB',hsubB,_,_,hupB⟩:=hKB.sp
  have esb:sbB=sbA:=by rw [cQ hfB hbA (fk hcA),hcA] at hcB;simpa using hcB.symm
  subst esb
  refine me hSB' ⟨by decide,by decide⟩ fun HC hSC hfC=>⟨_,rfl,?_⟩
  have edr:(SP.drop ⟨bf words oops,19,st,false,0,0,0⟩ ((20:Nat):Int))=(0,br words oops):=by
   unfold SP.drop
   rw [if_neg (by simp only [hst];decide)]
   simp [hst,br]
  have e20:((3+14+3:Nat):Int)=((20:Nat):Int):=rfl
  rw [edr] at hSC
  have hKC:=hupB HC _ hSC hfC
  have huC:Up F3 H7 FA HC:=(hu8.trans huA).trans ⟨(hfB.mono hsubA).trans (hfC.mono hsubB),fun _ h=>.inl h⟩
  have:=Up.fresh hf7 huC hF3
  exact h2 hz H2.size FA HC hKC this.1 this.2
end
end Go.Proofs.YtgjfejoohojokaaGreatDoor
namespace Kw
open Go
def gF (l:List (Int × Int)):Int:=(l.map fun p=>2+p.2).sum
theorem mu:∀ (l:List (Int × Int)){r:RH}{k:Nat}{m:Int},RoomyK r (k+l.length) (m+gF l)->0<=m->(∀ p∈l,1<=p.1∧p.1<=65536∧0<=p.2∧p.2<=8192)->(r.allocAll l).1=0∧RoomyK (r.allocAll l).2 k m:=by
 intro l
 induction l with
 | nil=>intro r k m h _ _;exact ⟨rfl,h.less (by simp) (by simp [gF])⟩
 | cons p l ih =>
  intro r k m h hm hp
  obtain ⟨c,n⟩:=p
  obtain ⟨h1,h2,h3,h4⟩:=hp (c,n) (by simp)
  simp only at h1 h2 h3 h4
  have hi:cR (4*c):=bB h1 h2
  have hpos:0<=gF l:=by
   have:∀ l:List (Int × Int),(∀ p∈l,0<=p.2)->0<=gF l:=by
    intro l
    induction l with
    | nil=>intro _;simp [gF]
    | cons q l ih2 =>
     intro h
     have a1:=h q (by simp)
     have a2:=ih2 fun x hx=>h x (by simp [hx])
     unfold gF at a2 ⊢
     simp only [List.map_cons,List.sum_cons]
     omega
   exact this l fun q hq=>(hp q (by simp [hq])).2.2.1
  have hlen:lenOf n 0=2+n:=by unfold lenOf;rw [if_neg (by decide)]
  have hR:RoomyK r ((k+l.length)+1) ((m+gF l)+lenOf n 0):=by
   rw [hlen]
   refine h.less (by simp only [List.length_cons];omega) ?_
   unfold gF
   simp only [List.map_cons,List.sum_cons]
   omega
  obtain ⟨e1,hr⟩:=lA (cls:=4*c) hR (by omega) hi (.inl rfl) h3 h4
  unfold RH.allocAll
  have e0:(r.alloc (4*c) n 0).1.2=0:=by rw [e1]
  rw [if_neg (by rw [e0];simp)]
  exact ih hr hm fun q hq=>hp q (by simp [hq])
theorem ra {k:Nat}{m:Int}:∀ (n:Nat){r:RH},RoomyK r k m->RoomyK (iB r n) k m:=by
 intro n
 induction n with
 | zero=>intro r h;exact h
 | succ n ih =>
  intro r h
  unfold iB A8
  exact lM (lG (ih h) _ _ _) _ _ _
theorem il {words oops:Int}{k:Nat}{m:Int} (hw:words=160+m) (ho:oops=20+k) (hm:0<=m):((bF words oops).allocAll ay).1=0∧RoomyK (bf words oops) k m:=by
 have h0:RoomyK (bF words oops) (k+ay.length) (m+gF ay):=by
  refine ⟨rfl,?_,?_⟩
  ·show ((0:Nat):Int)+((k+20:Nat):Int)<=oops
   omega
  ·show (0:Int)+(m+gF ay)<=words
   have:gF ay=160:=by decide
   omega
 obtain ⟨e1,e2⟩:=mu ay h0 hm (by decide)
 refine ⟨e1,?_⟩
 unfold bf bR
 exact lG (ra 14 e2) _ _ _
abbrev bD:ByteArray:=⟨#[80,97,105,114]⟩
abbrev iu:ByteArray:=⟨#[79,98,106,101,99,116]⟩
abbrev xB:ByteArray:=⟨#[120]⟩
abbrev yB:ByteArray:=⟨#[121]⟩
theorem jZ {lo hi:Nat}{s:ByteArray} (h1:1<=s.size) (h2:s.size<=32) (h3:lo<=gB s 0) (h4:gB s 0<=hi) (h:(List.range s.size).all (fun i=>decide (dg (gB s i)))=true):fX lo hi s :=
 ⟨h1,h2,h3,h4,fun i hi=>by simpa using List.all_eq_true.1 h i (List.mem_range.2 hi)⟩
theorem oL {words oops:Int} (hb:KAll (br words oops) bq ba):jM ba bq bD iu [xB,yB]=(4,0):=by
 have hf:bp ba 0=[]:=hb.ks.fields0 (by decide)
 have n1:fX 65 90 bD:=jZ (by decide) (by decide) (by decide) (by decide) (by decide)
 have f1:fw xB:=⟨by decide,jZ (by decide) (by decide) (by decide) (by decide) (by decide)⟩
 have f2:fw yB:=⟨by decide,jZ (by decide) (by decide) (by decide) (by decide) (by decide)⟩
 have e1:eh ba bq bD=(0,130):=by decide
 have e2:eh ba bq iu=(4,0):=by decide
 have e3:dw ba 4=some 0:=by decide
 have t1:¬ gA ba bq bD:=by
  unfold gA
  rw [e1]
  rintro (h | h)
  ·simp at h
  ·simp [eP,ba] at h
 have o1:ma ([]:List ByteArray) [] [xB,yB]=0:=by
  unfold ma ma ma
  rw [if_neg (fun h=>h f1),if_neg (by simp),if_neg (by simp),if_neg (fun h=>h f2),if_neg (by simp),if_neg (by simp)]
 unfold jM
 rw [if_neg (fun h=>h n1),if_neg t1,e2,if_neg (by simp)]
 simp only [e3]
 rw [if_neg (by omega),hf]
 simp only [List.map_nil,o1]
 rw [if_neg (by simp),if_neg (by simp),if_neg (by decide)]
end Kw
namespace Kw
open Go
attribute [local irreducible] bf bR cn
theorem mV {words oops:Int}{k:Nat}{m:Int} (hw:words=160+(m+30)) (ho:oops=20+((k+3:Nat):Int)) (hm:0<=m) (h1:words<=1048576) (h2:oops<=65536) :
  (bc (br words oops) ba bq bD iu [xB,yB]).1.2=0∧RoomyK (bc (br words oops) ba bq bD iu [xB,yB]).2.1.h k m∧(bc (br words oops) ba bq bD iu [xB,yB]).2.2.texts.length<=17∧(bc (br words oops) ba bq bD iu [xB,yB]).2.2.most=4096 ∧
  ∃ n ns l d,KAll (bc (br words oops) ba bq bD iu [xB,yB]).2.1 (bc (br words oops) ba bq bD iu [xB,yB]).2.2 (ba.addC ⟨(bc (br words oops) ba bq bD iu [xB,yB]).1.1,n,4,ns,l,18,18,[],[],0⟩ d):=by
 obtain ⟨e0,hR⟩:=il (k:=k+3) (m:=m+30) hw ho (by omega)
 have hb:=kH (words:=words) (oops:=oops) (by omega) h1 (by omega) h2 e0
 have hd:=oL hb
 have e:bc (br words oops) ba bq bD iu [xB,yB]=bn (br words oops) bq ba.clsW bD 4 [xB,yB]:=by
  unfold bc
  rw [if_neg (by rw [hd];simp),hd]
 rw [e]
 have g1:bx bD:=by decide
 have g2:∀ s∈[xB,yB],bx s:=by
  intro s hs
  simp only [List.mem_cons,List.not_mem_nil,or_false] at hs
  rcases hs with rfl | rfl <;> decide
 obtain ⟨a1,a2,a3,a4⟩:=nW (k:=k) (m:=m) hb.ks (by rw [hb.stack];decide) hb.names.wf (up:=4) (by decide) (by decide) g1 g2 (by decide) (by decide) (by
  have:ba.cls.length=14:=rfl
  rw [this]
  have h2l:([xB,yB]:List ByteArray).length=2:=rfl
  rw [h2l]
  exact hR.less (by omega) (by omega)) hm
 have hno:∀ c∈ba.cls,tx bq c.name≠bD:=by decide
 have hk:=(qE hb (j:=0) (by decide) (by decide) (name:=bD) (own:=[xB,yB]) hno).2
 have e4:(ba.cls[0]'(by decide)).oop=4:=rfl
 rw [e4] at hk
 obtain ⟨n,ns,l,d,hall,_⟩:=hk a1
 exact ⟨a1,a2,a3,a4,n,ns,l,d,hall⟩
end Kw
namespace Kw
open Go
theorem Cs (s:SP) (n:Int):(s.drop n).2.h=s.h:=by
 unfold SP.drop
 split <;> rfl
theorem jU {s:SP}{r:RH}{P:Int->Prop} (h:bd r s.h P) (t:TB) (m c k e:Int):bd r (nX s t m c k e).1.h P:=by
 unfold nX
 split
 ·rw [Cs];exact h
 ·show bd r (if e=24 then s.h else (s.h.marks m).2) P
  split
  ·exact h
  ·exact h.trans ((gE m).mono fun _ _=>trivial)
attribute [local irreducible] bf
end Kw
namespace Kw
open Go
attribute [local irreducible] bf bR cn
def CO (r:RH):Prop:=∃ x,am r.objs 10=some x∧x.cls=48∧x.fmt=0∧x.slots.length=7
theorem CO.keep {r r':RH}{P:Int->Prop} (h:CO r) (hk:bd r r' P) (hp:P 10):CO r':=by
 obtain ⟨x,h1,h2,h3,h4⟩:=h
 obtain ⟨y,g1,g2,g3,g4⟩:=hk 10 hp x h1
 exact ⟨y,g1,g2.trans h2,g3.trans h3,by rw [g4];exact h4⟩
theorem CO.same1 {r r':RH}{k:Int} (h:CO r) (hs:kn r r' k) (hk:k≠10):CO r':=by
 obtain ⟨x,h1,h2⟩:=h
 exact ⟨x,by rw [hs 10 (Ne.symm hk)];exact h1,h2⟩
theorem CO.str {r:RH}{k:Int}{xs:List Int} (h:CO r) (hs:kk r k xs):k≠10:=by
 rintro rfl
 obtain ⟨x,h1,h2,h3,_⟩:=h
 obtain ⟨o,g1,g2,_⟩:=hs
 rw [h1] at g1
 cases g1
 omega
section
attribute [local semireducible] bf bR cn
theorem wO (w o m b t:Int):(match am (bR ⟨w,o,m,b,t,cn⟩).objs 10 with | some x=>decide (x.cls=48) && decide (x.fmt=0) && decide (x.slots.length=7) | none=>false)=true:=by kernel_rfl
end
theorem AN {words oops:Int} (h:((bF words oops).allocAll ay).1=0):CO (bf words oops):=by
 have e:=jo h
 have h1:=wO words oops 0 20 0
 rw [←e] at h1
 split at h1
 ·rename_i x hx
  simp only [Bool.and_eq_true,decide_eq_true_eq] at h1
  exact ⟨x,hx,h1.1.1,h1.1.2,h1.2⟩
 ·cases h1
theorem x9 {words oops:Int}{k:Nat}{m:Int} (hw:words=160+(m+30)) (ho:oops=20+((k+3:Nat):Int)) (hm:0<=m) (h1:words<=1048576) (h2:oops<=65536) :
  CO (bc (br words oops) ba bq bD iu [xB,yB]).2.1.h:=by
 obtain ⟨e0,_⟩:=il (k:=k+3) (m:=m+30) hw ho (by omega)
 have hb:=kH (words:=words) (oops:=oops) (by omega) h1 (by omega) h2 e0
 have hd:=oL hb
 have e:bc (br words oops) ba bq bD iu [xB,yB]=bn (br words oops) bq ba.clsW bD 4 [xB,yB]:=by
  unfold bc
  rw [if_neg (by rw [hd];simp),hd]
 rw [e]
 have D:=nO hb.ks (by rw [hb.stack];decide) (j:=0) (by decide) (by decide) hb.names.wf bD [xB,yB]
 have e4:(ba.cls[0]'(by decide)).oop=4:=rfl
 rw [e4] at D
 unfold bn
 refine (AN e0).keep (jU D.keep _ _ _ _ _) ⟨?_,by decide⟩
 have hr:=hb.ks.reach
 have hmem:((10,(ba.cls[6]'(by decide)).slots 6):mC)∈ba.roles:=by
  unfold KV.roles
  simp only [List.mem_cons]
  refine .inr (.inr (.inr (.inr (.inr ?_))))
  decide +kernel
 exact hr _ hmem
theorem kk.same1 {r r':RH}{k j:Int}{xs:List Int} (h:kk r j xs) (hs:kn r r' k) (hk:j≠k):kk r' j xs:=by
 obtain ⟨o,h1,h2⟩:=h
 exact ⟨o,by rw [hs j hk];exact h1,h2⟩
theorem kk.at {r:RH}{k:Int}{xs:List Int} (h:kk r k xs):am r.objs k≠none:=by
 obtain ⟨o,h1,_⟩:=h
 rw [h1];simp
theorem kk.uniq {r:RH}{k:Int}{xs ys:List Int} (h:kk r k xs) (h':kk r k ys):xs=ys:=by
 obtain ⟨o,h1,_,_,rfl⟩:=h
 obtain ⟨o',h2,_,_,rfl⟩:=h'
 rw [h1] at h2
 cases h2;rfl
end Kw
namespace Kw
open Go
attribute [local irreducible] bf bR cn
abbrev Lq:=Int × Int × List Int
def ob (r:RH) (k:Int):Option Lq:=(am r.objs k).map fun o=>(o.cls,o.fmt,o.slots)
theorem bA {r:RH}{k c f:Int}{l:List Int}:ob r k=some (c,f,l)↔∃ o,am r.objs k=some o∧o.cls=c∧o.fmt=f∧o.slots=l:=by
 unfold ob
 constructor
 ·intro h
  obtain ⟨o,h1,h2⟩:=Option.map_eq_some_iff.1 h
  simp only [Prod.mk.injEq] at h2
  exact ⟨o,h1,h2⟩
 ·rintro ⟨o,h1,rfl,rfl,rfl⟩
  rw [h1];rfl
theorem iW {r:RH}{k:Int}:ob r k=none↔am r.objs k=none:=by
 unfold ob;simp
theorem bd.ob {r r':RH}{P:Int->Prop} (h:bd r r' P){k:Int} (hp:P k){x:Lq} (hx:ob r k=some x):ob r' k=some x:=by
 obtain ⟨c,f,l⟩:=x
 obtain ⟨o,h1,rfl,rfl,rfl⟩:=bA.1 hx
 obtain ⟨y,g1,g2,g3,g4⟩:=h k hp o h1
 exact bA.2 ⟨y,g1,g2,g3,g4⟩
theorem o6:∀ (l:List RO) (a k:Int),((am (bo a l) k).map fun o=>(o.cls,o.fmt,o.slots))=(am l k).map fun o=>(o.cls,o.fmt,o.slots)
 | [],_,_=>rfl
 | o :: l,a,k=>by
  have ih:=o6 l (a+o.len) k
  unfold am at ih ⊢
  simp only [bo,List.find?_cons]
  split
  ·rename_i h
   have:decide (o.oop=k)=true:=h
   simp [this]
  ·rename_i h
   have:decide (o.oop=k)=false:=h
   simp only [this]
   exact ih
theorem ig {r:RH}{l:List Int} (hall:∀ k∈l,am r.objs k≠none){k:Int}{x:Lq} (h:ob (r.keep l).2 k=some x):ob r k=some x∧k∈l:=by
 unfold RH.keep at h
 rw [if_neg (by rintro ⟨k,h1,h2⟩;exact hall k h1 h2)] at h
 unfold ob at h
 simp only [RH.keepO] at h
 rw [o6] at h
 obtain ⟨o,h1,h2⟩:=Option.map_eq_some_iff.1 h
 have hm:=au h1
 have hf:=List.mem_filter.1 hm.1
 have hk:k∈l:=by have:=of_decide_eq_true hf.2;rw [hm.2] at this;exact this
 refine ⟨?_,hk⟩
 unfold ob
 have:am r.objs k=some o:=by
  unfold am at h1 ⊢
  rw [List.find?_filter] at h1
  rw [←h1]
  congr 1
  funext a
  by_cases ha:a.oop=k
  ·simp [ha,hk]
  ·simp [ha]
 rw [this,←h2];rfl
theorem cy {r:RH} (hw:WFH r) (c n f:Int):(∀ k x,ob r k=some x->ob (r.alloc c n f).2 k=some x) ∧
  ((r.alloc c n f).1.2≠0->∀ k x,ob (r.alloc c n f).2 k=some x->ob r k=some x) ∧
  ((r.alloc c n f).1.2=0->ob r (r.alloc c n f).1.1=none∧1<=(r.alloc c n f).1.1∧(r.alloc c n f).1.1<=65536∧ob (r.alloc c n f).2 (r.alloc c n f).1.1=some (c,f,List.replicate n.toNat (if f=1 then 0 else 4))∧∀ k x,k≠(r.alloc c n f).1.1->ob (r.alloc c n f).2 k=some x->ob r k=some x):=by
 refine ⟨fun k x h=>(gO hw c n f).ob trivial h,fun he=>?_,fun he=>?_⟩
 ·unfold RH.alloc at he ⊢
  split
  ·exact fun _ _ h=>h
  split
  ·exact fun _ _ h=>h
  split
  ·exact fun _ _ h=>h
  split
  ·exact fun _ _ h=>h
  ·rename_i g1 g2 g3 g4
   rw [if_neg g1,if_neg g2,if_neg g3,if_neg g4] at he
   exact absurd rfl he
 ·obtain ⟨a1,a2,a3,_⟩:=gX hw he
  refine ⟨iW.2 a1,a2,a3,?_⟩
  unfold RH.alloc at he a1 ⊢
  split at he
  ·cases he
  rename_i g1
  split at he
  ·cases he
  rename_i g2
  split at he
  ·cases he
  rename_i g3
  split at he
  ·cases he
  rename_i g4
  rw [if_neg g1,if_neg g2,if_neg g3,if_neg g4] at a1 ⊢
  simp only at a1 ⊢
  refine ⟨bA.2 ⟨cl r c n f,?_,rfl,rfl,rfl⟩,fun k x hk h=>?_⟩
  ·rw [dd,a1]
   simp [cl]
  ·unfold ob at h ⊢
   simp only at h
   rw [dd] at h
   cases ho:am r.objs k with
   | some o=>rw [ho] at h;exact h
   | none =>
    rw [ho] at h
    have:¬ (cl r c n f).oop=k:=fun e=>hk e.symm
    simp only [if_neg this] at h
    cases h
structure AllocR (s:SP) (c n f:Int) (res:Int × Int) (s':SP):Prop where
 stk:s'.stack=s.stack
 keep:∀ k,Reaches s.h s.roots k->∀ x,ob s.h k=some x->ob s'.h k=some x
 bad:res.2≠0->∀ k x,ob s'.h k=some x->ob s.h k=some x
 good:res.2=0->∃ o,res.1=4*o∧1<=o∧o<=65536∧ob s'.h o=some (c,f,List.replicate n.toNat (if f=1 then 0 else 4))∧¬ Reaches s.h s.roots o∧∀ k x,k≠o->ob s'.h k=some x->ob s.h k=some x
 surv:(∀ k x,ob s.h k=some x->ob s'.h k=some x)∨(∀ k x,ob s'.h k=some x->(res.2=0∧res.1=4*k)∨Reaches s.h s.roots k)
theorem sR {s:SP}{t:TB}{v:KV} (hv:KAllW s t v){c:Int} (hc:aD c=3) (n f:Int):AllocR s c n f (s.alloc c n f).1 (s.alloc c n f).2∧KAllW (s.alloc c n f).2 t v:=by
 have hw:=hv.ks.wf
 have hr:=ki s c n f
 have hk:=iZ hw c n f
 refine ⟨?_,⟨⟨nB hw c n f,nz hv.ks.gc hc n f,hr.2.2.trans hv.ks.op,hr.1.trans hv.ks.king,hv.ks.view.keep hk hv.ks.reach,hv.ks.sep,hv.ks.shape⟩,hv.names,by rw [hr.2.1];exact hv.top⟩⟩
 refine { stk:=hr.2.1,keep:=fun k h x hx=>hk.ob h hx,bad:=?_,good:=?_,surv:=?_ }
 all_goals unfold SP.alloc
 all_goals split
 ·exact (cy hw.h c n f).2.1
 ·have hall:∀ k∈s.reach,am s.h.objs k≠none:=fun k hk=>((RH.mem_reach hw.h).1 hk).there
  exact fun he k x h=>(ig hall ((cy (dF hw.h _) c n f).2.1 he k x h)).1
 ·intro he
  obtain ⟨a1,a2,a3,a4,a5⟩:=(cy hw.h c n f).2.2 he
  exact ⟨_,rfl,a2,a3,a4,fun h=>h.there (iW.1 a1),a5⟩
 ·intro he
  have hall:∀ k∈s.reach,am s.h.objs k≠none:=fun k hk=>((RH.mem_reach hw.h).1 hk).there
  obtain ⟨a1,a2,a3,a4,a5⟩:=(cy (dF hw.h _) c n f).2.2 he
  refine ⟨_,rfl,a2,a3,a4,fun h=>?_,fun k x hk h=>(ig hall (a5 k x hk h)).1⟩
  cases hx:ob s.h ((s.h.keep s.reach).2.alloc c n f).1.1 with
  | none=>exact h.there (iW.1 hx)
  | some x =>
   have:=(gq s.reach).ob ((RH.mem_reach hw.h).2 h) hx
   rw [a1] at this;cases this
 ·exact .inl (cy hw.h c n f).1
 ·refine .inr fun k x h=>?_
  have hall:∀ k∈s.reach,am s.h.objs k≠none:=fun k hk=>((RH.mem_reach hw.h).1 hk).there
  by_cases he:((s.h.keep s.reach).2.alloc c n f).1.2=0
  ·obtain ⟨a1,a2,a3,a4,a5⟩:=(cy (dF hw.h _) c n f).2.2 he
   by_cases hk:k=((s.h.keep s.reach).2.alloc c n f).1.1
   ·exact .inl ⟨he,by rw [hk]⟩
   ·exact .inr ((RH.mem_reach hw.h).1 (ig hall (a5 k x hk h)).2)
  ·exact .inr ((RH.mem_reach hw.h).1 (ig hall ((cy (dF hw.h _) c n f).2.1 he k x h)).2)
def jB (s:SP) (v:KV) (G:Int->Prop) (w:Int):Prop:=cR w∧(aD w=3->ob s.h (w / 4)≠none∧(w / 4=1∨w / 4=2∨w / 4=3∨w / 4=18∨(∃ c∈v.cls,c.oop=w / 4)∨G (w / 4)))
def bO (v:KV):List (Int × Int):=(1,20) :: (2,24) :: (3,28) :: (18,44) :: v.cls.map fun c=>(c.oop,48)
def mm (v:KV) (c:Int):Prop:=c=44∨∃ o i,c=4*o∧dw v o=some i∧(o=4∨14<=i)
structure UI (s:SP) (v:KV) (G:Int->Prop):Prop where
 ten:4∈s.stack∧8∈s.stack∧12∈s.stack
 st:∀ w∈s.stack,jB s v G w
 base:∀ p∈bO v,∃ f l,ob s.h p.1=some (p.2,f,l)
 gob:∀ k,G k->(∀ p∈v.roles,p.1≠k)∧k≠2∧k≠3∧∀ c f l,ob s.h k=some (c,f,l)->(f=1∧c=40)∨(f=0∧mm v c∧∀ w∈l,jB s v G w)
theorem jB.mono {s s':SP}{v:KV}{G G':Int->Prop}{w:Int} (h:jB s v G w) (hs:aD w=3->ob s.h (w / 4)≠none->ob s'.h (w / 4)≠none) (hG:∀ k,G k->G' k):jB s' v G' w :=
 ⟨h.1,fun hk=>⟨hs hk (h.2 hk).1,(h.2 hk).2.imp id (.imp id (.imp id (.imp id (.imp id (hG _)))))⟩⟩
theorem ck {w:Int} (h:aD w=3):w=4*(w / 4)∧1<=w / 4∧w / 4<=65536:=by
 have:=aS w
 omega
theorem gK {r:RH}{w:Int} (h:aD w=3) (ho:ob r (w / 4)≠none):aT r w=w / 4:=by
 have:=ck h
 unfold aT
 have hn:(am r.objs (w / 4)).isSome:=by
  cases hx:am r.objs (w / 4) with
  | none=>exact absurd (iW.2 hx) ho
  | some o=>rfl
 rw [if_pos ⟨h,hn⟩]
end Kw
namespace Kw
open Go
attribute [local irreducible] bf bR cn
theorem iP {r:RH}{ws:List Int}{k c w:Int}{l:List Int} (hr:Reaches r ws k) (hx:ob r k=some (c,0,l)) (hw:w∈l) (hk:aD w=3) (hn:ob r (w / 4)≠none):Reaches r ws (w / 4):=by
 obtain ⟨o,h1,h2,h3,h4⟩:=bA.1 hx
 have hm:=au h1
 have:=ck hk
 have:=Reaches.slot (o:=o) (w:=w) (by rw [hm.2];exact hr) hm.1 h3 (by rw [h4];exact hw) (by rw [gK hk hn];omega)
 rw [gK hk hn] at this
 exact this
section
variable {s s':SP}{t:TB}{v:KV}{G:Int->Prop}{res:Int × Int}{c n f:Int}
theorem UI.reach (hU:UI s v G){w:Int} (hw:w∈s.stack) (hk:aD w=3):Reaches s.h s.roots (w / 4):=by
 have hn:=((hU.st w hw).2 hk).1
 have:=ck hk
 have:=Reaches.root (r:=s.h) (ws:=s.roots) (w:=w) (by unfold SP.roots;simp [hw]) (by rw [gK hk hn];omega)
 rw [gK hk hn] at this
 exact this
theorem UI.breach (hU:UI s v G) (hk:KS s v):∀ p∈bO v,Reaches s.h s.roots p.1:=by
 intro p hp
 unfold bO at hp
 simp only [List.mem_cons] at hp
 rcases hp with rfl | rfl | rfl | rfl | hp
 ·exact hk.reach (1,[]) (by simp [KV.roles])
 ·exact hU.reach hU.ten.2.1 (by decide)
 ·exact hU.reach hU.ten.2.2 (by decide)
 ·exact hk.reach (18,[]) (by simp [KV.roles])
 ·obtain ⟨c,hc,rfl⟩:=List.mem_map.1 hp
  obtain ⟨i,hi,rfl⟩:=List.mem_iff_getElem.1 hc
  exact hk.reach ((v.cls[i]).oop,(v.cls[i]).slots i) (by
   unfold KV.roles
   simp only [List.mem_cons]
   exact .inr (.inr (.inr (.inr (.inr (fR (i:=0) hi (by simp [crole])))))))
theorem UI.not2 (hU:UI s v G) (hk:KS s v){o:Int} (ho:¬ Reaches s.h s.roots o):(∀ p∈v.roles,p.1≠o)∧o≠2∧o≠3:=by
 refine ⟨fun p hp e=>ho (e ▸ hk.reach p hp),fun e=>ho ?_,fun e=>ho ?_⟩
 ·rw [e];exact hU.breach hk (2,24) (by simp [bO])
 ·rw [e];exact hU.breach hk (3,28) (by simp [bO])
theorem UI.alloc (hU:UI s v G) (hk:KS s v) (A:AllocR s c n f res s') (hown:res.2=0->(f=1∧c=40)∨(f=0∧mm v c)):UI s' v (fun k=>G k∨(res.2=0∧res.1=4*k)):=by
 have hbase:∀ p∈bO v,∃ f l,ob s'.h p.1=some (p.2,f,l):=fun p hp=>by
  obtain ⟨f,l,h⟩:=hU.base p hp
  exact ⟨f,l,A.keep _ (hU.breach hk p hp) _ h⟩
 have ok4:∀ G',jB s' v G' 4:=fun G'=>by
  refine ⟨by decide,fun _=>⟨fun e=>?_,.inl rfl⟩⟩
  obtain ⟨f,l,h⟩:=hbase (1,20) (by simp [bO])
  rw [show (4:Int) / 4=1 from rfl,h] at e
  cases e
 have fresh:∀ k,(res.2=0∧res.1=4*k)->(∀ p∈v.roles,p.1≠k)∧k≠2∧k≠3∧∀ c' f' l,ob s'.h k=some (c',f',l)->(f'=1∧c'=40)∨(f'=0∧mm v c'∧∀ w∈l,jB s' v (fun k=>G k∨(res.2=0∧res.1=4*k)) w):=by
  rintro k ⟨h0,h1⟩
  obtain ⟨o,e,_,_,ho,hnr,_⟩:=A.good h0
  have:k=o:=by omega
  subst this
  obtain ⟨g1,g2,g3⟩:=hU.not2 hk hnr
  refine ⟨g1,g2,g3,fun c' f' l h=>?_⟩
  rw [ho] at h
  simp only [Option.some.injEq,Prod.mk.injEq] at h
  obtain ⟨rfl,rfl,rfl⟩:=h
  rcases hown h0 with ⟨a,b⟩ | ⟨a,b⟩
  ·exact .inl ⟨a,b⟩
  ·refine .inr ⟨a,b,fun w hw=>?_⟩
   rw [if_neg (by omega)] at hw
   rw [(List.mem_replicate.1 hw).2]
   exact ok4 _
 refine ⟨by rw [A.stk];exact hU.ten,fun w hw=>?_,hbase,fun k hG=>?_⟩
 ·rw [A.stk] at hw
  refine (hU.st w hw).mono (fun hkw hn=>?_) fun k h=>.inl h
  cases hx:ob s.h (w / 4) with
  | none=>exact absurd hx hn
  | some x=>rw [A.keep _ (hU.reach hw hkw) x hx];simp
 ·by_cases hnew:res.2=0∧res.1=4*k
  ·exact fresh k hnew
  have hGk:G k:=hG.elim id fun h=>absurd h hnew
  obtain ⟨g1,g2,g3,g4⟩:=hU.gob k hGk
  refine ⟨g1,g2,g3,fun c' f' l h=>?_⟩
  have hold:ob s.h k=some (c',f',l):=by
   by_cases h0:res.2=0
   ·obtain ⟨o,e,_,_,_,_,hfrom⟩:=A.good h0
    exact hfrom k _ (fun e'=>hnew ⟨h0,by omega⟩) h
   ·exact A.bad h0 k _ h
  refine (g4 c' f' l hold).imp id fun ⟨a,b,d⟩=>⟨a,b,fun w hw=>(d w hw).mono (fun hkw hn=>?_) fun k h=>.inl h⟩
  subst a
  cases hx:ob s.h (w / 4) with
  | none=>exact absurd hx hn
  | some x =>
   rcases A.surv with hs | hs
   ·rw [hs _ x hx];simp
   ·have hr:Reaches s.h s.roots k:=(hs k _ h).elim (fun e=>absurd e hnew) id
    rw [A.keep _ (iP hr hold hw hkw hn) x hx];simp
end
theorem ml {r:RH} (k i w:Int):∀ j,j≠k->ob (r.put k i w).2 j=ob r j:=fun j hj=>by
 unfold ob
 rw [na r k i w j hj]
theorem B4 {r:RH}{k c f i w:Int}{l:List Int} (hx:ob r k=some (c,f,l)) (hi:0<=i∧i<l.length) (hw:eO f w):(r.put k i w).1=0∧ob (r.put k i w).2 k=some (c,f,l.set i.toNat w):=by
 obtain ⟨o,h1,rfl,rfl,rfl⟩:=bA.1 hx
 unfold RH.put
 rw [h1]
 simp only
 rw [if_neg (by omega),if_neg (fun e=>e hw)]
 refine ⟨rfl,bA.2 ⟨cM i w o,?_,rfl,rfl,rfl⟩⟩
 show am (fg r.objs k (cM i w)) k=_
 rw [bZ (f:=cM i w) fun _=>rfl,h1]
 have:=(au h1).2
 simp [this]
theorem KS.putN {s:SP}{v:KV} (h:KS s v){k:Int} (hk:∀ p∈v.roles,p.1≠k) (i w:Int):KS { s with h:=(s.h.put k i w).2 } v :=
 ⟨{ h.wf with h:=jW h.wf.h k i w },rO h.gc k i w,h.op,h.king,h.view.same1 (na _ _ _ _) hk,h.sep,h.shape⟩
section
variable {s s':SP}{t:TB}{v:KV}{G:Int->Prop}
theorem UI.put (hU:UI s v G) (hv:KAllW s t v){k c f i w:Int}{l:List Int} (hG:G k) (hx:ob s.h k=some (c,f,l)) (k1:1<=k) (k2:k<=65536) (hi:0<=i∧i<l.length) (h1:f=1->0<=w∧w<=255) (h0:f=0->jB s v G w) :
  ∃ s2,s.putW (4*k) i w=(0,s2)∧UI s2 v G∧KAllW s2 t v∧s2.stack=s.stack∧ob s2.h k=some (c,f,l.set i.toNat w)∧∀ j,j≠k->ob s2.h j=ob s.h j:=by
 obtain ⟨g1,g2,g3,g4⟩:=hU.gob k hG
 have hcf:=g4 c f l hx
 have hm:eO f w:=by
  unfold eO
  rcases hcf with ⟨a,_⟩ | ⟨a,_⟩
  ·rw [if_pos a];exact h1 a
  ·rw [if_neg (by omega)];exact (h0 a).1
 obtain ⟨e1,e2⟩:=B4 hx hi hm
 have hne:=ml (r:=s.h) k i w
 have hex:∀ j,ob s.h j≠none->ob (s.h.put k i w).2 j≠none:=fun j hj=>by
  by_cases hjk:j=k
  ·rw [hjk,e2];simp
  ·rw [hne j hjk];exact hj
 refine ⟨{ s with h:=(s.h.put k i w).2 },?_,?_,⟨hv.ks.putN g1 _ _,hv.names,hv.top⟩,rfl,e2,hne⟩
 ·unfold SP.putW
  rw [eQ k1 k2,e1]
 ·refine ⟨hU.ten,fun z hz=>(hU.st z hz).mono (fun _=>hex _) fun _ h=>h,fun p hp=>?_,fun j hj=>?_⟩
  ·obtain ⟨f',l',h⟩:=hU.base p hp
   by_cases hpk:p.1=k
   ·rw [hpk,hx] at h
    simp only [Option.some.injEq,Prod.mk.injEq] at h
    rw [hpk,←h.1]
    exact ⟨_,_,e2⟩
   ·exact ⟨f',l',(hne _ hpk).trans h⟩
  ·obtain ⟨a1,a2,a3,a4⟩:=hU.gob j hj
   refine ⟨a1,a2,a3,fun c' f' l' h=>?_⟩
   by_cases hjk:j=k
   ·rw [hjk] at h
    rw [show ob (s.h.put k i w).2 k=some (c,f,l.set i.toNat w) from e2] at h
    simp only [Option.some.injEq,Prod.mk.injEq] at h
    obtain ⟨rfl,rfl,rfl⟩:=h
    refine hcf.imp id fun ⟨b1,b2,b3⟩=>⟨b1,b2,fun z hz=>?_⟩
    rcases List.mem_or_eq_of_mem_set hz with hz | rfl
    ·exact (b3 z hz).mono (fun _=>hex _) fun _ h=>h
    ·exact (h0 b1).mono (fun _=>hex _) fun _ h=>h
   ·rw [show ob (s.h.put k i w).2 j=ob s.h j from hne j hjk] at h
    exact (a4 c' f' l' h).imp id fun ⟨b1,b2,b3⟩=>⟨b1,b2,fun z hz=>(b3 z hz).mono (fun _=>hex _) fun _ h=>h⟩
theorem UI.lay {k c f:Int} (k1:1<=k) (k2:k<=65536):∀ (xs done rest:List Int) (s:SP),UI s v G->KAllW s t v->G k->ob s.h k=some (c,f,done++rest)->rest.length=xs.length->(f=1->∀ w∈xs,0<=w∧w<=255)->(f=0->∀ w∈xs,jB s v G w) ->
  ∃ s2,s.layE (4*k) (done.length:Int) xs=(0,s2)∧UI s2 v G∧KAllW s2 t v∧s2.stack=s.stack∧ob s2.h k=some (c,f,done++xs)∧∀ j,j≠k->ob s2.h j=ob s.h j:=by
 intro xs
 induction xs with
 | nil =>
  intro done rest s hU hv hG hx hl _ _
  have:rest=[]:=List.eq_nil_of_length_eq_zero hl
  subst this
  exact ⟨s,rfl,hU,hv,rfl,hx,fun _ _=>rfl⟩
 | cons x xs ih =>
  intro done rest s hU hv hG hx hl h1 h0
  cases rest with
  | nil=>simp at hl
  | cons y rest =>
   obtain ⟨s2,e,hU2,hv2,hst,hx2,hne⟩:=hU.put hv hG hx k1 k2 (i:=(done.length:Int)) (w:=x) (by simp;omega) (fun h=>h1 h x (by simp)) fun h=>h0 h x (by simp)
   have eset:(done++y :: rest).set (done.length:Int).toNat x=(done++[x])++rest:=by simp
   rw [eset] at hx2
   have hex:∀ j,ob s.h j≠none->ob s2.h j≠none:=fun j hj=>by
    by_cases hjk:j=k
    ·rw [hjk,hx2];simp
    ·rw [hne j hjk];exact hj
   obtain ⟨s3,g1,g2,g3,g4,g5,g6⟩:=ih (done++[x]) rest s2 hU2 hv2 hG hx2 (by simpa using hl) (fun h w hw=>h1 h w (by simp [hw])) fun h w hw=>(h0 h w (by simp [hw])).mono (fun _=>hex _) fun _ h=>h
   refine ⟨s3,?_,g2,g3,g4.trans hst,by simpa using g5,fun j hj=>(g6 j hj).trans (hne j hj)⟩
   unfold SP.layE
   rw [e]
   simp only
   rw [if_neg (by simp),←g1]
   simp
theorem E3 (hv:KAllW s t v) (hU:UI s v G){c f:Int} (hc:1<=c∧c<=65536){xs:List Int} (hown:(f=1∧c=10∧∀ w∈xs,0<=w∧w<=255)∨(f=0∧mm v (4*c)∧∀ w∈xs,jB s v G w∧(aD w=3->Reaches s.h s.roots (w / 4)))) :
  KAllW (s.makeP c f xs).2 t v∧(s.makeP c f xs).2.stack=s.stack∧(∀ k,Reaches s.h s.roots k->∀ x,ob s.h k=some x->ob (s.makeP c f xs).2.h k=some x) ∧
  ∃ G',UI (s.makeP c f xs).2 v G'∧((s.makeP c f xs).1.2≠0->(s.makeP c f xs).1.1=0)∧((s.makeP c f xs).1.2=0->jB (s.makeP c f xs).2 v G' (s.makeP c f xs).1.1):=by
 obtain ⟨A,hv1⟩:=sR hv (c:=4*c) (by have:=aS (4*c);omega) (xs.length:Int) f
 have hU1:=hU.alloc hv.ks A fun _=>hown.imp (fun h=>⟨h.1,by omega⟩) fun h=>⟨h.1,h.2.1⟩
 unfold SP.makeP
 generalize s.alloc (4*c) (xs.length:Int) f=R at A hv1 hU1 ⊢
 by_cases he:R.1.2=0
 ·rw [if_neg (by simpa using he)]
  obtain ⟨o,e,o1,o2,ho,hnr,hfrom⟩:=A.good he
  obtain ⟨s2,g1,g2,g3,g4,g5,g6⟩:=UI.lay (t:=t) (k:=o) o1 o2 xs [] (List.replicate xs.length (if f=1 then 0 else 4)) R.2 hU1 hv1 (.inr ⟨he,e⟩) (by simpa using ho) (by simp)
   (fun h1=>by
    rcases hown with ⟨_,_,h⟩ | ⟨h,_⟩
    ·exact h
    ·omega)
   (fun h0 w hw=>by
    rcases hown with ⟨h,_⟩ | ⟨_,_,h⟩
    ·omega
    ·obtain ⟨a,b⟩:=h w hw
     refine a.mono (fun hkw hn=>?_) fun _ h=>.inl h
     cases hx:ob s.h (w / 4) with
     | none=>exact absurd hx hn
     | some x=>rw [A.keep _ (b hkw) x hx];simp)
  simp only [List.length_nil] at g1
  rw [e]
  have g1':R.2.layE (4*o) 0 xs=(0,s2):=g1
  rw [g1']
  refine ⟨g3,g4.trans A.stk,fun k hk x hx=>?_,_,g2,fun h=>absurd rfl h,fun _=>?_⟩
  ·have hko:k≠o:=fun e=>hnr (e ▸ hk)
   rw [g6 k hko]
   exact A.keep k hk x hx
  ·simp only [if_true]
   have h4:(4*o) / 4=o:=by omega
   refine ⟨bB o1 o2,fun _=>?_⟩
   rw [h4]
   exact ⟨by rw [g5];simp,.inr (.inr (.inr (.inr (.inr (.inr ⟨he,e⟩)))))⟩
 ·rw [if_pos (by simpa using he)]
  exact ⟨hv1,A.stk,A.keep,_,hU1,fun _=>rfl,fun h=>absurd h he⟩
end
end Kw
namespace Kw
open Go
attribute [local irreducible] bf bR cn
def qT (v:KV):Prop:=∃ oop n ns l d,v=ba.addC ⟨oop,n,4,ns,l,18,18,[],[],0⟩ d
structure PairV (v:KV):Prop where
 pl:dw v 4=some 0∧dw v 5=some 1∧dw v 6=some 2∧dw v 7=some 3∧dw v 8=some 4∧dw v 9=some 5∧dw v 10=some 6∧dw v 11=some 7∧dw v 12=some 8∧dw v 14=some 10∧dw v 17=some 13
 up:∀ i,di v i=0∨di v i=4∨∃ j,dw v (di v i)=some j∧14<=j
theorem qT.v {v:KV} (hp:qT v):PairV v:=by
 obtain ⟨oop,n,ns,l,d,rfl⟩:=hp
 refine ⟨⟨rfl,rfl,rfl,rfl,rfl,rfl,rfl,rfl,rfl,rfl,rfl⟩,fun i=>?_⟩
 unfold di
 have:(ba.addC ⟨oop,n,4,ns,l,18,18,[],[],0⟩ d).cls=ba.cls++[⟨oop,n,4,ns,l,18,18,[],[],0⟩]:=rfl
 rw [this]
 rcases i with _ | _ | _ | _ | _ | _ | _ | _ | _ | _ | _ | _ | _ | _ | _ | i
 all_goals first | exact .inl rfl | exact .inr (.inl rfl)
theorem t8 {v:KV} (hp:PairV v){k o:Int}{i:Nat} (h4:k≠4) (hk:dw v k=some i) (hi:i<14) (h:jn v k o=true):o=k:=by
 have go:∀ n o,kv v k n o=true->o=k:=by
  intro n
  induction n with
  | zero=>intro o h;cases h
  | succ n ih =>
   intro o h
   unfold kv at h
   split at h
   ·cases h
   split at h
   ·assumption
   split at h
   ·rename_i j _
    exfalso
    have e:=ih _ h
    rcases hp.up j with e2 | e2 | ⟨m,e2,hm⟩
    ·rw [e2] at h
     cases n with
     | zero=>cases h
     | succ n=>unfold kv at h;rw [if_pos rfl] at h;cases h
    ·exact h4 (e.symm.trans e2)
    ·rw [e,hk] at e2;cases e2;omega
   ·cases h
 exact go _ _ h
theorem Ho {r:RH}{w c f:Int}{l:List Int} (h3:aD w=3) (hx:ob r (w / 4)=some (c,f,l)) (hc:aD c=3):dh r w=c / 4:=by
 obtain ⟨o,ho,rfl,_,_⟩:=bA.1 hx
 have:=ck hc
 have eo:uM r w=(o.cls / 4,0):=by
  unfold uM
  rw [if_neg (by omega),if_neg (by omega),if_pos h3]
  unfold RH.clsAt
  rw [ho]
  simp only [if_true]
  unfold iO
  rw [if_pos hc]
 unfold dh
 rw [eo]
 rfl
theorem jX {r:RH}{w c f:Int}{l:List Int} (h3:aD w=3) (hx:ob r (w / 4)=some (c,f,l)):cD r w=((l.length:Int),f):=by
 obtain ⟨o,ho,_,rfl,rfl⟩:=bA.1 hx
 unfold cD
 rw [if_pos h3]
 unfold RH.size
 rw [ho]
theorem jC {r:RH}{w c f i:Int}{l:List Int} (h3:aD w=3) (hx:ob r (w / 4)=some (c,f,l)) (h0:0<=i) (h1:i<l.length):dL r w i=l.getD i.toNat 0:=by
 obtain ⟨o,ho,_,_,rfl⟩:=bA.1 hx
 unfold dL iO
 rw [if_pos h3]
 unfold RH.at
 rw [ho]
 simp only
 rw [if_neg (by omega)]
def SL (r:RH) (w:Int):List Int:=if aD w=3 then match ob r (w / 4) with
 | some (c,f,l)=>c :: f :: l
 | none=>[] else []
def AS:ByteArray:=⟨#[99,111,112,121]⟩
def xb:ByteArray:=⟨#[112,114,105,110,116,83,116,114,105,110,103]⟩
def vh:ByteArray:=⟨#[97,115,83,116,114,105,110,103]⟩
def uZ:ByteArray:=⟨#[44]⟩
def Gv:ByteArray:=⟨#[110,101,119]⟩
def Ba:ByteArray:=⟨#[110,101,119,58]⟩
def LR:ByteArray:=⟨#[97,116,58]⟩
def Bg:ByteArray:=⟨#[105,110,115,116,86,97,114,65,116,58]⟩
def Ib:ByteArray:=⟨#[115,101,108,101,99,116,111,114]⟩
def Bj:ByteArray:=⟨#[97,114,103,117,109,101,110,116,115]⟩
def nG:ByteArray:=⟨#[97,116,58,112,117,116,58]⟩
def mf:ByteArray:=⟨#[105,110,115,116,86,97,114,65,116,58,112,117,116,58]⟩
def BT:ByteArray:=⟨#[97,115,83,121,109,98,111,108]⟩
def jF (x:ByteArray):Prop:=x=AS∨x=xb∨x=vh∨x=uZ∨x=Gv∨x=Ba
def nP (x:ByteArray):Prop:=x=LR∨x=Bg∨x=Ib∨x=Bj
structure QR (s:SP) (t:TB) (v:KV) (x:ByteArray) (r:Int) (res:Int × Int) (s':SP) (t':TB):Prop where
 all:KAllW s' t' v
 stk:s'.stack=s.stack
 ui:∃ G',UI s' v G'∧(res.2=0->jB s' v G' res.1)
 bad:res.2≠0->res.1=0
 tab:t'.texts.length=t.texts.length∨(t'.texts.length=t.texts.length+1∧x=BT∧res.2=0)
 same:∀ z∈s.stack,SL s'.h z=SL s.h z∨(res.2=0∧z=r∧(x=nG∨x=mf)∧∃ i y,SL s'.h z=(SL s.h z).set i y)
 ans:res.2=0->res.1∈s.stack∨aD res.1≠3∨(SL s'.h res.1).head?=some 48∨res.1=72∨jF x∨nP x
section
variable {s s':SP}{t t':TB}{v:KV}{G G':Int->Prop}{x:ByteArray}{r:Int}{res:Int × Int}
theorem sH (hU:UI s v G) (hk:∀ k,Reaches s.h s.roots k->∀ x,ob s.h k=some x->ob s'.h k=some x){z:Int} (hz:z∈s.stack):SL s'.h z=SL s.h z:=by
 unfold SL
 by_cases h3:aD z=3
 ·rw [if_pos h3,if_pos h3]
  cases hx:ob s.h (z / 4) with
  | none=>exact absurd hx ((hU.st z hz).2 h3).1
  | some y=>rw [hk _ (hU.reach hz h3) y hx]
 ·rw [if_neg h3,if_neg h3]
theorem QR.look (hv:KAllW s t v) (hU:UI s v G) (hb:res.2≠0->res.1=0) (hok:res.2=0->jB s v G res.1) (ha:res.2=0->res.1∈s.stack∨aD res.1≠3∨(SL s.h res.1).head?=some 48∨res.1=72∨jF x∨nP x):QR s t v x r res s t :=
 ⟨hv,rfl,⟨G,hU,hok⟩,hb,.inl rfl,fun _ _=>.inl rfl,ha⟩
theorem QR.fail (hv:KAllW s t v) (hU:UI s v G){e:Int} (he:e≠0):QR s t v x r (0,e) s t :=
 .look hv hU (fun _=>rfl) (fun h=>absurd h he) fun h=>absurd h he
theorem QR.known (hv:KAllW s t v) (hU:UI s v G){w:Int} (hw:w∈s.stack):QR s t v x r (w,0) s t :=
 .look hv hU (fun h=>absurd rfl h) (fun _=>hU.st w hw) fun _=>.inl hw
theorem QR.tw (hv:KAllW s t v) (hU:UI s v G) (z:Bool):QR s t v x r (tw z,0) s t:=by
 refine QR.known hv hU ?_
 cases z
 ·exact hU.ten.2.1
 ·exact hU.ten.2.2
theorem QR.small (hv:KAllW s t v) (hU:UI s v G){w:Int} (h:aD w=1∨aD w=2):QR s t v x r (w,0) s t :=
 .look hv hU (fun h=>absurd rfl h) (fun _=>⟨(show aD w≠0 by omega),fun h3=>absurd (show aD w=3 from h3) (by omega)⟩) fun _=>.inr (.inl (show aD w≠3 by omega))
theorem QR.int (hv:KAllW s t v) (hU:UI s v G) (n:Int):QR s t v x r (fZ n) s t:=by
 by_cases h:-1073741824<=n∧n<=1073741823
 ·rw [zv h]
  refine QR.small hv hU (.inl ?_)
  unfold aD
  rw [if_pos (by omega)]
 ·unfold fZ
  rw [if_neg h]
  exact QR.fail hv hU (by decide)
theorem QR.made (hv:KAllW s t v) (hU:UI s v G) (hx:jF x){c f:Int} (hc:1<=c∧c<=65536){xs:List Int} (hown:(f=1∧c=10∧∀ w∈xs,0<=w∧w<=255)∨(f=0∧mm v (4*c)∧∀ w∈xs,jB s v G w∧(aD w=3->Reaches s.h s.roots (w / 4)))) :
  QR s t v x r (s.makeP c f xs).1 (s.makeP c f xs).2 t:=by
 obtain ⟨h1,h2,h3,G',h4,h5,h6⟩:=E3 hv hU hc hown
 exact ⟨h1,h2,⟨G',h4,h6⟩,h5,.inl rfl,fun z hz=>.inl (sH hU h3 hz),fun _=>.inr (.inr (.inr (.inr (.inl hx))))⟩
theorem QR.fresh (hv:KAllW s t v) (hU:UI s v G) (hx:jF x){c n f:Int} (hc:aD c=3) (hown:(f=1∧c=40)∨(f=0∧mm v c)) :
  QR s t v x r (if (s.alloc c n f).1.2=0 then (s.alloc c n f).1.1 else 0,(s.alloc c n f).1.2) (s.alloc c n f).2 t:=by
 obtain ⟨A,hv1⟩:=sR hv hc n f
 have hU1:=hU.alloc hv.ks A fun _=>hown
 generalize s.alloc c n f=R at A hv1 hU1 ⊢
 refine ⟨hv1,A.stk,⟨_,hU1,fun h0=>?_⟩,fun h0=>if_neg h0,.inl rfl,fun z hz=>.inl (sH hU A.keep hz),fun _=>.inr (.inr (.inr (.inr (.inl hx))))⟩
 have h0':R.1.2=0:=h0
 simp only [if_pos h0']
 obtain ⟨o,e,o1,o2,ho,_,_⟩:=A.good h0'
 have h4:R.1.1 / 4=o:=by omega
 refine ⟨by rw [e];exact bB o1 o2,fun _=>?_⟩
 rw [h4]
 exact ⟨by rw [ho];simp,.inr (.inr (.inr (.inr (.inr (.inr ⟨h0',e⟩)))))⟩
theorem QR.put (hv:KAllW s t v) (hU:UI s v G) (hx:x=nG∨x=mf){c f i y y':Int}{l:List Int} (h3:aD r=3) (hG:G (r / 4)) (ho:ob s.h (r / 4)=some (c,f,l)) (hi:0<=i∧i<l.length) (h1:f=1->0<=y∧y<=255) (h0:f=0->jB s v G y) (hy':y'∈s.stack) :
  QR s t v x r (y',(s.putW r i y).1) (s.putW r i y).2 t:=by
 obtain ⟨e,r1,r2⟩:=ck h3
 obtain ⟨s2,g1,g2,g3,g4,g5,g6⟩:=hU.put hv hG ho r1 r2 hi h1 h0
 rw [←e] at g1
 rw [g1]
 refine ⟨g3,g4,⟨G,g2,fun _=>g2.st y' (by rw [g4];exact hy')⟩,fun h=>absurd rfl h,.inl rfl,fun z hz=>?_,fun _=>.inl hy'⟩
 unfold SL
 by_cases hz3:aD z=3
 ·rw [if_pos hz3,if_pos hz3]
  by_cases hzr:z / 4=r / 4
  ·have hzr':z=r:=by have:=ck hz3;omega
   refine .inr ⟨rfl,hzr',hx,i.toNat+2,y,?_⟩
   rw [hzr,g5,ho]
   rfl
  ·rw [g6 _ hzr];exact .inl rfl
 ·rw [if_neg hz3,if_neg hz3];exact .inl rfl
end
theorem UI.cases {s:SP}{v:KV}{G:Int->Prop} (hU:UI s v G) (hk:KS s v){w:Int} (hw:jB s v G w) (h3:aD w=3):∃ c f l,ob s.h (w / 4)=some (c,f,l) ∧
  ((c=20∨c=24∨c=28)∨(w=72∧c=44∧l=[])∨(c=48∧f=0∧∃ i,∃ hi:i<v.cls.length,w / 4=(v.cls[i]).oop∧l=(v.cls[i]).slots i)∨(G (w / 4)∧((f=1∧c=40)∨(f=0∧mm v c∧∀ w∈l,jB s v G w)))):=by
 obtain ⟨e,_⟩:=ck h3
 rcases (hw.2 h3).2 with h | h | h | h | ⟨c,hc,h⟩ | h
 ·obtain ⟨f,l,hx⟩:=hU.base (1,20) (by simp [bO])
  exact ⟨_,f,l,by rw [h];exact hx,.inl (.inl rfl)⟩
 ·obtain ⟨f,l,hx⟩:=hU.base (2,24) (by simp [bO])
  exact ⟨_,f,l,by rw [h];exact hx,.inl (.inr (.inl rfl))⟩
 ·obtain ⟨f,l,hx⟩:=hU.base (3,28) (by simp [bO])
  exact ⟨_,f,l,by rw [h];exact hx,.inl (.inr (.inr rfl))⟩
 ·obtain ⟨f,l,hx⟩:=hU.base (18,44) (by simp [bO])
  refine ⟨_,f,l,by rw [h];exact hx,.inr (.inl ⟨by omega,rfl,?_⟩)⟩
  obtain ⟨o,h1,_,h2⟩:=hk.view.empty
  obtain ⟨o',g1,_,_,g2⟩:=bA.1 hx
  rw [h1] at g1
  cases g1
  rw [←g2,h2]
 ·obtain ⟨i,hi,rfl⟩:=List.mem_iff_getElem.1 hc
  obtain ⟨f,l,hx⟩:=hU.base ((v.cls[i]).oop,48) (by
   unfold bO
   simp only [List.mem_cons,List.mem_map]
   exact .inr (.inr (.inr (.inr ⟨v.cls[i],hc,rfl⟩))))
  refine ⟨_,f,l,by rw [←h];exact hx,.inr (.inr (.inl ?_))⟩
  have hv:=hk.view ((v.cls[i]).oop,(v.cls[i]).slots i) (by
   unfold KV.roles
   simp only [List.mem_cons]
   exact .inr (.inr (.inr (.inr (.inr (fR (i:=0) hi (by simp [crole])))))))
  obtain ⟨o,h1,h2,h3'⟩:=hv
  obtain ⟨o',g1,_,g2,g3⟩:=bA.1 hx
  rw [h1] at g1
  cases g1
  exact ⟨rfl,by rw [←g2];exact h2,i,hi,h.symm,by rw [←g3];exact h3'⟩
 ·cases hx:ob s.h (w / 4) with
  | none=>exact absurd hx (hw.2 h3).1
  | some y =>
   obtain ⟨c,f,l⟩:=y
   exact ⟨c,f,l,rfl,.inr (.inr (.inr ⟨h,(hU.gob _ h).2.2.2 c f l hx⟩))⟩
end Kw
namespace Kw
open Go
attribute [local irreducible] bf bR cn
def BO (r:RH) (l:List (Int × Int)):Prop:=∀ p∈l,∃ f sl,ob r p.1=some (p.2,f,sl)
theorem r8 {r:RH}{k c f:Int}{l:List Int} (h:ob r k=some (c,f,l)) (j i w:Int):∃ l',ob (r.put j i w).2 k=some (c,f,l'):=by
 by_cases hk:k=j
 ·subst hk
  obtain ⟨o,h1,rfl,rfl,rfl⟩:=bA.1 h
  unfold RH.put
  rw [h1]
  simp only
  split
  ·exact ⟨_,h⟩
  split
  ·exact ⟨_,h⟩
  ·refine ⟨_,bA.2 ⟨cM i w o,?_,rfl,rfl,rfl⟩⟩
   show am (fg r.objs k (cM i w)) k=_
   rw [bZ (f:=cM i w) fun _=>rfl,h1]
   have:=(au h1).2
   simp [this]
 ·exact ⟨l,(ml j i w k hk).trans h⟩
theorem rX:∀ (ws:List Int){r:RH}{k c f:Int}{l:List Int},ob r k=some (c,f,l)->∀ j i,∃ l',ob (r.lay j i ws) k=some (c,f,l')
 | [],_,_,_,_,l,h,_,_=>⟨l,h⟩
 | w :: ws,_,_,_,_,_,h,j,i=>by
  obtain ⟨l',h'⟩:=r8 h j i w
  exact rX ws h' j (i+1)
theorem qY {s:SP} (hw:WFS s){c n f:Int} (he:(s.alloc c n f).1.2=0):∃ o l,(s.alloc c n f).1.1=4*o∧ob (s.alloc c n f).2.h o=some (c,f,l):=by
 unfold SP.alloc at he ⊢
 split at he
 ·rename_i hc
  rw [if_pos hc]
  obtain ⟨a1,a2,a3,a4,a5⟩:=(cy hw.h c n f).2.2 he
  exact ⟨_,_,rfl,a4⟩
 ·rename_i hc
  rw [if_neg hc]
  obtain ⟨a1,a2,a3,a4,a5⟩:=(cy (dF hw.h _) c n f).2.2 he
  exact ⟨_,_,rfl,a4⟩
theorem vT {s:SP}{v:KV} (hk:KS s v) (hst:s.stack.length<65536){cls:Int} (hcls:1<=cls∧cls<=65536){ws:List Int} (hws:∀ w∈ws,cR w) (e:(s.make cls ws).1.2=0) :
  ∃ o,(s.make cls ws).1.1=4*o∧1<=o∧o<=65536∧(s.make cls ws).2.stack=s.stack++[4*o]∧∃ f l,ob (s.make cls ws).2.h o=some (4*cls,f,l):=by
 obtain ⟨o,e1,e2,o1,o2,_⟩:=(ie hk hst hcls hws).2.2.2 e
 refine ⟨o,e1,o1,o2,e2,?_⟩
 unfold SP.make at e e1 ⊢
 by_cases he:(s.alloc (4*cls) ws.length 0).1.2=0
 ·rw [if_neg (by simpa using he)] at e e1 ⊢
  obtain ⟨o',l,g1,g2⟩:=qY hk.wf he
  simp only at e1 ⊢
  have:o'=o:=by omega
  subst this
  obtain ⟨l',hl'⟩:=rX ws g2 ((s.alloc (4*cls) ws.length 0).1.1 / 4) 0
  refine ⟨0,l',?_⟩
  have hk2:∀ {s1:SP} (l:List Int),(s1.keepW l).2.h=s1.h:=fun l=>by unfold SP.keepW;split;rfl;split <;> rfl
  rw [hk2]
  exact hl'
 ·rw [if_pos (by simpa using he)] at e
  exact absurd e he
theorem ri {s:SP}{v:KV}{t:TB} (hk:KS s v) (hst:s.stack.length<65000){c:Int} (hc:1<=c∧c<=65536) (hr:Reaches s.h s.roots c){f:Int}{l:List Int} (ho:ob s.h c=some (48,f,l)) (e:(cF s t v.clsW (4*c)).1.2=0) :
  (cF s t v.clsW (4*c)).1.1=c∧∃ f l,ob (cF s t v.clsW (4*c)).2.1.h c=some (48,f,l):=by
 have hws:∀ w∈v.clsW++[4*c],cR w:=fun w hw=>by
  rcases List.mem_append.1 hw with hw | hw
  ·exact gh hk w hw
  ·simp only [List.mem_singleton] at hw;rw [hw];exact bB hc.1 hc.2
 have hkeep:=(eU hk (by omega) hws).2.1
 have h1:=hkeep.ob hr ho
 unfold cF at e ⊢
 by_cases he:(s.array (v.clsW++[4*c])).1.2=0
 ·rw [if_neg (by simpa using he)]
  refine ⟨by simp only;omega,?_⟩
  obtain ⟨l',hl'⟩:=r8 h1 (s.array (v.clsW++[4*c])).2.king 0 (s.array (v.clsW++[4*c])).1.1
  exact ⟨_,l',hl'⟩
 ·rw [if_pos (by simpa using he)] at e
  exact absurd e he
theorem rz {s:SP}{v:KV}{t:TB} (hk:KS s v) (hst:s.stack.length<64000){n up l:Int} (hn:cR n) (hup:1<=up∧up<=65536) (hl:cR l) (hlt:v.cls.length<256) (e:(ee s t v.clsW n up l).1.2=0) :
  ∃ f sl,ob (ee s t v.clsW n up l).2.1.h (ee s t v.clsW n up l).1.1=some (48,f,sl):=by
 have hcl:v.clsW.length=v.cls.length:=by simp [KV.clsW]
 have hws:=dI (n:=n) (up:=up) (l:=l) (k:=v.clsW.length) hn (bB hup.1 hup.2) hl (by omega)
 unfold ee at e ⊢
 by_cases he:(s.make 12 (bv n up l v.clsW.length)).1.2=0
 ·rw [if_neg (by simpa using he)] at e ⊢
  obtain ⟨o,e1,o1,o2,es,f,sl,ho⟩:=vT hk (by omega) (cls:=12) (by decide) hws he
  obtain ⟨g1,_⟩:=ie hk (by omega) (cls:=12) (by decide) hws
  rw [e1] at e ⊢
  generalize (s.make 12 (bv n up l v.clsW.length)).2=s2 at *
  have h4:(4*o) / 4=o:=by omega
  have h3:aD (4*o)=3:=by have:=aS (4*o);omega
  have hnm:aT s2.h (4*o)=o:=by
   have:=gK (r:=s2.h) h3 (by rw [h4,ho];simp)
   omega
  have hr:Reaches s2.h s2.roots o:=by
   have:=Reaches.root (r:=s2.h) (ws:=s2.roots) (w:=4*o) (by unfold SP.roots;rw [es];simp) (by rw [hnm];omega)
   rw [hnm] at this
   exact this
  obtain ⟨d1,f',l',d2⟩:=ri g1 (by rw [es];simp;omega) ⟨o1,o2⟩ hr ho e
  exact ⟨f',l',by rw [d1];exact d2⟩
 ·rw [if_pos (by simpa using he)] at e
  exact absurd e he
theorem ro {s:SP}{v:KV}{t:TB} (hk:KS s v) (hst:s.stack.length<60000){n up:Int}{ns:List Int} (hn:cR n) (hup:1<=up∧up<=65536) (hns:∀ w∈ns,cR w) (hlt:v.cls.length<256) (e:(fE s t v.clsW n up ns).1.2=0) :
  ∃ f sl,ob (fE s t v.clsW n up ns).2.1.h (fE s t v.clsW n up ns).1.1=some (48,f,sl):=by
 obtain ⟨g1,_,⟨l,gl,gl1⟩,g4⟩:=eU hk (by omega) hns
 unfold fE at e ⊢
 by_cases he:(s.array ns).1.2=0
 ·rw [if_neg (by simpa using he)] at e ⊢
  obtain ⟨o,eo,o1,o2,_⟩:=g4 he
  rw [eo] at e ⊢
  exact rz g1 (by rw [gl];simp;omega) hn hup (bB o1 o2) hlt e
 ·rw [if_pos (by simpa using he)] at e
  exact absurd e he
section
attribute [local semireducible] bf bR cn
theorem wS (w o m b t:Int):((bO ba).all fun p=>match am (bR ⟨w,o,m,b,t,cn⟩).objs p.1 with | some x=>decide (x.cls=p.2) | none=>false)=true:=by kernel_rfl
end
theorem xm {words oops:Int} (h:((bF words oops).allocAll ay).1=0):BO (bf words oops) (bO ba):=by
 have e:=jo h
 have h1:=wS words oops 0 20 0
 rw [←e] at h1
 intro p hp
 have:=List.all_eq_true.1 h1 p hp
 split at this
 ·rename_i x hx
  exact ⟨_,_,bA.2 ⟨x,hx,of_decide_eq_true this,rfl,rfl⟩⟩
 ·cases this
theorem yp {words oops:Int}{k:Nat}{m:Int} (hw:words=160+(m+30)) (ho:oops=20+((k+3:Nat):Int)) (hm:0<=m) (h1:words<=1048576) (h2:oops<=65536) :
  BO (bc (br words oops) ba bq bD iu [xB,yB]).2.1.h (bO ba++[((bc (br words oops) ba bq bD iu [xB,yB]).1.1,48)]):=by
 obtain ⟨e0,_⟩:=il (k:=k+3) (m:=m+30) hw ho (by omega)
 have hb:=kH (words:=words) (oops:=oops) (by omega) h1 (by omega) h2 e0
 have hd:=oL hb
 obtain ⟨p1,_⟩:=mV hw ho hm h1 h2
 have e:bc (br words oops) ba bq bD iu [xB,yB]=bn (br words oops) bq ba.clsW bD 4 [xB,yB]:=by
  unfold bc
  rw [if_neg (by rw [hd];simp),hd]
 rw [e] at p1 ⊢
 have D:=nO hb.ks (by rw [hb.stack];decide) (j:=0) (by decide) (by decide) hb.names.wf bD [xB,yB]
 have e4:(ba.cls[0]'(by decide)).oop=4:=rfl
 rw [e4] at D
 have hbo:=xm e0
 have r19:Reaches (br words oops).h (br words oops).roots 19:=hb.ks.reach (19,ba.rootW) (by simp [KV.roles])
 have viaRoot:∀ w:Int,w∈ba.rootW->aD w=3->ob (br words oops).h (w / 4)≠none->Reaches (br words oops).h (br words oops).roots (w / 4):=fun w hw hk hn=>by
  obtain ⟨x,hx1,hx2,hx3⟩:=hb.ks.view.root
  exact iP r19 (bA.2 ⟨x,hx1,rfl,hx2,hx3⟩) hw hk hn
 have keep:∀ p∈bO ba,Reaches (br words oops).h (br words oops).roots p.1∧p.1≠19:=by
  intro p hp
  have hex:=hbo p hp
  have hex':ob (br words oops).h p.1≠none:=by
   obtain ⟨f,sl,hx⟩:=hex
   show ob (bf words oops) p.1≠none
   rw [hx];simp
  have hall:∀ p∈bO ba,p.1=1∨p.1=2∨p.1=3∨p.1=18∨∃ i,∃ hi:i<ba.cls.length,p.1=(ba.cls[i]).oop:=by
   intro p hp
   unfold bO at hp
   simp only [List.mem_cons,List.mem_map] at hp
   rcases hp with rfl | rfl | rfl | rfl | ⟨c,hc,rfl⟩
   ·exact .inl rfl
   ·exact .inr (.inl rfl)
   ·exact .inr (.inr (.inl rfl))
   ·exact .inr (.inr (.inr (.inl rfl)))
   ·obtain ⟨i,hi,rfl⟩:=List.mem_iff_getElem.1 hc
    exact .inr (.inr (.inr (.inr ⟨i,hi,rfl⟩)))
  rcases hall p hp with h | h | h | h | ⟨i,hi,h⟩
  ·exact ⟨by rw [h];exact hb.ks.reach (1,[]) (by simp [KV.roles]),by omega⟩
  ·refine ⟨?_,by omega⟩
   rw [h] at hex' ⊢
   exact viaRoot 8 (by decide) (by decide) hex'
  ·refine ⟨?_,by omega⟩
   rw [h] at hex' ⊢
   exact viaRoot 12 (by decide) (by decide) hex'
  ·exact ⟨by rw [h];exact hb.ks.reach (18,[]) (by simp [KV.roles]),by omega⟩
  ·refine ⟨?_,?_⟩
   ·rw [h]
    exact hb.ks.reach ((ba.cls[i]).oop,(ba.cls[i]).slots i) (by
     unfold KV.roles
     simp only [List.mem_cons]
     exact .inr (.inr (.inr (.inr (.inr (fR (i:=0) hi (by simp [crole])))))))
   ·have h14:i<14:=by have:ba.cls.length=14:=rfl;omega
    have:=hb.ks.shape.kern i hi h14
    omega
 have hend:bd (br words oops).h (bn (br words oops) bq ba.clsW bD 4 [xB,yB]).2.1.h (fun k=>Reaches (br words oops).h (br words oops).roots k∧k≠19):=by
  unfold bn
  exact jU D.keep _ _ _ _ _
 intro p hp
 rcases List.mem_append.1 hp with hp | hp
 ·obtain ⟨f,sl,hx⟩:=hbo p hp
  exact ⟨f,sl,hend.ob (keep p hp) hx⟩
 ·rw [List.mem_singleton.1 hp]
  unfold bn at p1 ⊢
  simp only at p1 ⊢
  have pe:(dO (br words oops) bq ba.clsW bD 4 [xB,yB]).1.2=0:=p1
  rw [if_pos pe]
  have hko:∃ f sl,ob (dO (br words oops) bq ba.clsW bD 4 [xB,yB]).2.1.h (dO (br words oops) bq ba.clsW bD 4 [xB,yB]).1.1=some (48,f,sl):=by
   have w1:=fo hb.names.wf bD
   have hns:=fj w1 (acc:=[]) (l:=[xB,yB]) (by simp)
   unfold dO at pe ⊢
   by_cases ha:(bq.add bD).1.2=0
   ·rw [if_neg (by simpa using ha)] at pe ⊢
    have hn:cR (4*(bq.add bD).1.1+2):=by
     have:=fj hb.names.wf (acc:=[]) (l:=[bD]) (by simp) (4*(bq.add bD).1.1+2) (by simp [TB.addAll,ha])
     exact this
    by_cases hb2:((bq.add bD).2.addAll [] [xB,yB]).1.2=0
    ·rw [if_neg (by simpa using hb2)] at pe ⊢
     exact ro hb.ks (by rw [hb.stack];decide) hn (by decide) hns (by decide) pe
    ·rw [if_pos (by simpa using hb2)] at pe
     exact absurd pe hb2
   ·rw [if_pos (by simpa using ha)] at pe
    exact absurd pe ha
  obtain ⟨f,sl,hx⟩:=hko
  have hk:=jU (bd.refl (dO (br words oops) bq ba.clsW bD 4 [xB,yB]).2.1.h fun _=>True) (dO (br words oops) bq ba.clsW bD 4 [xB,yB]).2.2 (br words oops).h.mark bq.texts.length (br words oops).stack.length (dO (br words oops) bq ba.clsW bD 4 [xB,yB]).1.2
  exact ⟨f,sl,hk.ob trivial hx⟩
end Kw
namespace Go.Proofs.YtgjfejoohojokaaGreatDoor
open Kw
attribute [local irreducible] bf bR cn
section
variable {H:ae}{db:Nat}{D:az}{s:SP}{t:TB}{v:KV}{ws:List Int}{N:Nat}{Q:QT}
theorem vC {words oops:Int}{k:Nat}{m:Int} (hw:words=160+(m+30)) (ho:oops=20+((k+3:Nat):Int)) (hm:0<=m) (h1:words<=1048576) (h2:oops<=65536) (hk:cq H) (ht:d7 H)
  (h:∀ H' db D s t v w10,DK H' db D s t [4,12,8,7,16,32,40,44,2,w10]->KAllW s t v->s.stack=[4,12,8,7,16,32,40,44,2,w10]->RoomyK s.h k m->t.texts.length<=17->t.most=4096->qT v->CO s.h->BO s.h (bO v)->(∃ c∈v.cls,w10=4*c.oop)->Fr [] H H'->(∀ x∈D,H.size<=x)->Q (.pointer (some ⟨db,0,none⟩)) H') :
  ac PP LA #[.int .i64 words,.int .i64 oops] Q H:=by
 obtain ⟨e0,_⟩:=il (words:=words) (oops:=oops) (k:=k+3) (m:=m+30) hw ho (by omega)
 have hall:=kH (words:=words) (oops:=oops) (by omega) h1 (by omega) h2 e0
 obtain ⟨p1,p2,p3,p4,n,ns,l,d,hall2⟩:=mV hw ho hm h1 h2
 have p5:=x9 hw ho hm h1 h2
 have p6:=yp hw ho hm h1 h2
 have hst0:=hall2.stack
 apply GX
 unfold k6 A0 iV wW pV sV lV cS
 refine AF hk (fun hb=>absurd ⟨by omega,h1,by omega,h2⟩ hb) (fun _ he=>absurd e0 he) fun _ _ b F H1 hK1 f1 hF1=>⟨_,_,rfl,?_⟩
 simp only [Option.isNone_some,cond_false]
 refine dR ⟨_,rfl,?_⟩
 simp only [show ((0:Int) != 0)=false from rfl,cond_false]
 have fp:=Fr.push [] H1 (.cells #[.string xB,.string yB] 9)
 have hr:Rd 1 (H1.push (.cells #[.string xB,.string yB] 9)) (some ⟨H1.size,0,none⟩) 2 (bg [xB,yB]):=(show bK 1 (H1.push (.cells #[.string xB,.string yB] 9)) (some ⟨H1.size,0,none⟩) 2 2 (bg [xB,yB]) [H1.size] from ⟨rfl,Nat.le_refl _,.inr ⟨_,_,rfl,rfl,aV.new _ _ _,rfl,rfl⟩⟩).rd
 have hnF:H1.size∉F:=fun hm=>by have:=hK1.lt _ hm;omega
 refine tZ (hK1.nil fp) hall.w (by rw [hall.stack];decide) hr (.inr fun p hp=>?_) (Nat.le_refl _) (by decide) fun H3 F3 hK3 u3=>⟨_,_,rfl,dR ⟨_,rfl,?_⟩⟩
 ·cases hp
  exact ⟨by simp,hnF⟩
 rw [p1]
 simp only [show ((0:Int) != 0)=false from rfl,cond_false]
 generalize (bc (br words oops) ba bq bD iu [xB,yB])=R at p1 p2 p3 p4 p5 p6 hst0 hall2 hK3 ⊢
 have f13:Fr [] H H3:=by
  have fq:Fr [] H (H1.push (.cells #[.string xB,.string yB] 9)):=f1.trans fp
  refine ⟨Nat.le_trans fq.1 u3.1.1,fun y hy _=>?_⟩
  rw [u3.1.2 y (Nat.lt_of_lt_of_le hy fq.1) (fun hm=>by have:=hF1 y hm;omega),fq.2 y hy (by simp)]
 have hF3:∀ x∈F3,H.size<=x:=fun x hx=>by
  rcases u3.2 x hx with h4 | h4
  ·exact hF1 x h4
  ·have:=(f1.trans fp).1;omega
 have hgk:=hk.lt
 have hlt3:=hK3.lt
 have fa:=Fr.push [] H3 (.cells #[.pointer (some ⟨b,0,none⟩),.slice none 0 0] 32)
 have hB:=aV.new H3 #[.pointer (some ⟨b,0,none⟩),.slice none 0 0] 32
 have sz:(H3.push (.cells #[.pointer (some ⟨b,0,none⟩),.slice none 0 0] 32)).size=H3.size+1:=by simp
 have hK4:=hK3.nil fa
 generalize (H3.push (.cells #[.pointer (some ⟨b,0,none⟩),.slice none 0 0] 32))=H4 at fa hB sz hK4 ⊢
 have fb:=Fr.push [] H4 (.cells #[.int .i64 4,.int .i64 12,.int .i64 8,.int .i64 7,.int .i64 16,.int .i64 32,.int .i64 40,.int .i64 44,.int .i64 2,.int .i64 (IntKind.wrap .i64 (4*R.1.1))] 26)
 have hA:aV (H4.push (.cells #[.int .i64 4,.int .i64 12,.int .i64 8,.int .i64 7,.int .i64 16,.int .i64 32,.int .i64 40,.int .i64 44,.int .i64 2,.int .i64 (IntKind.wrap .i64 (4*R.1.1))] 26)) H4.size (ag [4,12,8,7,16,32,40,44,2,IntKind.wrap .i64 (4*R.1.1)]).toArray:=aV.new _ _ _
 have hD0:DK (H4.push (.cells #[.int .i64 4,.int .i64 12,.int .i64 8,.int .i64 7,.int .i64 16,.int .i64 32,.int .i64 40,.int .i64 44,.int .i64 2,.int .i64 (IntKind.wrap .i64 (4*R.1.1))] 26)) H3.size (H3.size :: ([]++F3)) R.2.1 R.2.2 []:=by
  refine ⟨b,F3,none,0,0,[],rfl,hB.fr fb (by simp),bK.nil 1 _,hK4.nil fb,fun hm=>by have:=hlt3 _ hm;omega,by simp,cA.nil_left _,?_⟩
  simp only [List.nil_append,List.mem_cons,not_or]
  have:=f13.1
  have htl:=ht.lt
  refine ⟨⟨by omega,hK3.gk⟩,⟨by omega,fun hm=>by have:=hF3 _ hm;omega⟩,((ht.fr f13 (by simp)).fr fa (by simp)).fr fb (by simp)⟩
 generalize (H4.push (.cells #[.int .i64 4,.int .i64 12,.int .i64 8,.int .i64 7,.int .i64 16,.int .i64 32,.int .i64 40,.int .i64 44,.int .i64 2,.int .i64 (IntKind.wrap .i64 (4*R.1.1))] 26))=H5 at fb hA hD0 ⊢
 have hrng:1<=R.1.1∧R.1.1<=65536:=by
  obtain ⟨f,sl,hx⟩:=p6 (R.1.1,48) (by simp)
  obtain ⟨o,ho',_⟩:=bA.1 hx
  have hmo:=au ho'
  have hg:=hall2.ks.wf.h.objs.good o hmo.1
  have g1:=hg.oop1
  have g2:=hg.oop2
  have g3:=hall2.ks.wf.h.o1
  have g4:o.oop=R.1.1:=hmo.2
  omega
 have ew:IntKind.wrap .i64 (4*R.1.1)=4*R.1.1:=ah (by omega) (by omega)
 rw [ew] at hA
 have hw10:∀ x∈[4,12,8,7,16,32,40,44,2,4*R.1.1],cR x:=by
  intro x hx
  simp only [List.mem_cons,List.not_mem_nil,or_false] at hx
  rcases hx with rfl | rfl | rfl | rfl | rfl | rfl | rfl | rfl | rfl | rfl
  all_goals first | decide | exact bB hrng.1 hrng.2
 have hnA:H4.size∉H3.size :: ([]++F3):=by
  simp only [List.nil_append,List.mem_cons,not_or]
  exact ⟨by omega,fun hm=>by have:=hlt3 _ hm;omega⟩
 have hA5:=hA.lt
 refine ⟨fun w H'=>∃(i:Nat) (D':az) (s':SP),w=[.int .i64 i]∧i<=10∧DK H' H3.size D' s' R.2.2 ([4,12,8,7,16,32,40,44,2,4*R.1.1].take i)∧KAllW s' R.2.2 (ba.addC ⟨R.1.1,n,4,ns,l,18,18,[],[],0⟩ d)∧s'.stack=[4,12,8,7,16,32,40,44,2,4*R.1.1].take i∧s'.h=R.2.1.h∧Up (H3.size :: ([]++F3)) H5 D' H',fun w _=>match w with
  | [.int _ i]=>((10:Int)-i).toNat
  | _=>0,⟨0,_,_,rfl,Nat.zero_le _,hD0,hall2.w,hst0,rfl,Up.refl _ _⟩,?_⟩
 rintro w H6 ⟨i,D6,s6,rfl,hi,hD6,hv6,hst6,e6,u6⟩ _
 have hA6:=hA.fr u6.1 hnA
 refine ⟨_,rfl,cY (fun hlt=>?_) fun hge=>?_⟩
 ·have hil:i<10:=by omega
  have e1:IntKind.wrap .i64 ((i:Int)+1)=((i+1:Nat):Int):=by rw [ah (by omega) (by omega)];omega
  have hc:=hA6.cell i
  have hex:∃ x:Int,(ag [4,12,8,7,16,32,40,44,2,4*R.1.1]).toArray[i]?=some (.int .i64 x)∧[4,12,8,7,16,32,40,44,2,4*R.1.1][i]?=some x:=by
   rcases i with _ | _ | _ | _ | _ | _ | _ | _ | _ | _ | i
   all_goals first | exact ⟨_,rfl,rfl⟩ | omega
  obtain ⟨x,hx,hx2⟩:=hex
  rw [hx] at hc
  have htk:[4,12,8,7,16,32,40,44,2,4*R.1.1].take (i+1)=[4,12,8,7,16,32,40,44,2,4*R.1.1].take i++[x]:=by rw [List.take_add_one,hx2];rfl
  have hxw:cR x:=hw10 x (List.mem_of_getElem? hx2)
  have hlst:s6.stack.length<=10:=by rw [hst6];simp only [List.length_take];omega
  have ekw:=ia (s:=s6) hxw (by omega)
  obtain ⟨k1,_,_⟩:=mS hv6 x (by omega)
  refine ⟨⟨by omega,hlt⟩,_,rfl,x,by rw [Int.toNat_natCast,Nat.mul_one,al,Nat.zero_add];exact hc,nN hD6 (by simp only [List.length_take];omega) fun H7 D7 hD7 u7=>⟨rfl,?_⟩⟩
  rw [e1]
  rw [ekw] at hD7 k1
  rw [←htk] at hD7
  exact ⟨⟨i+1,D7,_,rfl,by omega,hD7,k1,by rw [htk,←hst6],e6,u6.trans u7⟩,by simp;omega⟩
 ·have hi10:i=10:=by omega
  subst hi10
  refine h H6 H3.size D6 s6 R.2.2 _ _ hD6 hv6 hst6 (by rw [e6];exact p2) p3 p4 ⟨_,_,_,_,_,rfl⟩ (by rw [e6];exact p5) (fun p hp=>?_) ⟨⟨R.1.1,n,4,ns,l,18,18,[],[],0⟩,by simp [KV.addC],rfl⟩ ?_ fun x hx=>?_
  ·rw [e6]
   refine p6 p ?_
   have hb:bO (ba.addC ⟨R.1.1,n,4,ns,l,18,18,[],[],0⟩ d)=bO ba++[(R.1.1,48)]:=by
    simp [bO,KV.addC]
   rw [hb] at hp
   exact hp
  ·have f35:Fr [] H H5:=(f13.trans fa).trans fb
   refine ⟨Nat.le_trans f35.1 u6.1.1,fun y hy _=>?_⟩
   rw [u6.1.2 y (Nat.lt_of_lt_of_le hy f35.1) (fun hm=>?_),f35.2 y hy (by simp)]
   simp only [List.nil_append,List.mem_cons] at hm
   have:=f13.1
   rcases hm with hm | hm
   ·omega
   ·have:=hF3 y hm;omega
  ·have:=f13.1
   rcases u6.2 x hx with h4 | h4
   ·simp only [List.nil_append,List.mem_cons] at h4
    rcases h4 with rfl | h4
    ·omega
    ·exact hF3 x h4
   ·have:=((f13.trans fa).trans fb).1;omega
end
end Go.Proofs.YtgjfejoohojokaaGreatDoor
namespace Go.Proofs.YtgjfejoohojokaaGreatDoor
open Kw
def mP (n:Int):ByteArray:=⟨(Lib.itoa n).toArray⟩
theorem rU {n:Int} (h:mn n):(mP n).size<=11:=by
 have:=vy h.1 h.2
 unfold mP
 show (Lib.itoa n).toArray.size<=11
 simpa using this
theorem d7.is {H : ae} (h : d7 H) : ∀ w : World, w.heap = H -> Lib.TabIs PP w "internal/strconv.uint64pow10" .u64 Lib.pow10Tab := by
 intro w hw
 obtain ⟨e,h⟩:=h
 have hg : PP.globalNamed "internal/strconv.uint64pow10" = some gP := by kernel_rfl
 unfold Lib.TabIs World.var?
 rw [hg]
 simp only [Option.bind_some]
 rw [hw,h]
section
variable {H:ae}{b:Nat}{F:az}{s:SP}{t:TB}{v:KV}{Q:QT}{a:Option Addr}{l c:Nat}
theorem yo {n:Int} (hn:mn n) (ht:d7 H) (h:∀ H',Fr [] H H'->Q (.tuple #[.string (mP n),.int .i64 0]) H'):ac PP Fg #[.int .i64 n] Q H:=by
 obtain ⟨h0,h1⟩:=hn
 apply xJ
 unfold KA iV sV cS
 refine pP ⟨h0,h1⟩ ⟨_,rfl,?_⟩
 rw [Bool.not_true,cond_false]
 exact rP Tryz.itoa ⟨_,Tryz.func353,rfl⟩ (by omega) (by omega) ht.is fun H' f=>⟨_,rfl,h H' f⟩
theorem vQ (hK:PK H b F s t) (ht:d7 H){n:Int} (hn:mn n) (h:∀ H',PK H' b F (s.makeP 10 1 (bk (mP n))).2 t->Fr F H H'->Q (.tuple #[.int .i64 (s.makeP 10 1 (bk (mP n))).1.1,.int .i64 (s.makeP 10 1 (bk (mP n))).1.2]) H') :
  ac PP Bq #[cv b (2*n+1) a l c] Q H:=by
 apply xS
 unfold Gl A0 iV pV sV lV cS;dsimp only [shH]
 have f:=Fr.push [] H (.cells (cc b (2*n+1) a l c) 138)
 have hb:=aV.new H (cc b (2*n+1) a l c) 138
 refine ⟨_,hb.cell 0,_,hb.cell 1,_,_,_,hb.cell 2,ln (hK.nil f) fun H1 f1=>⟨_,rfl,?_⟩⟩
 rw [sU hn]
 have f01:=f.trans f1
 have hb1:=hb.fr f1 (by simp)
 refine yo hn (ht.fr f01 (by simp)) fun H2 f2=>⟨_,_,rfl,?_⟩
 have f02:=f01.trans f2
 have hb2:=hb1.fr f2 (by simp)
 have hsz:=rU hn
 refine ⟨_,hb2.cell 0,_,hb2.cell 1,_,_,_,hb2.cell 2,qQ (hK.nil f02) (by omega) fun H' hK' f'=>⟨_,_,rfl,h H' hK' ?_⟩⟩
 exact ⟨Nat.le_trans f02.1 f'.1,fun y hy hn=>by rw [f'.2 y (Nat.lt_of_lt_of_le hy f02.1) hn,f02.2 y hy (by simp)]⟩
end
theorem FS:∀ (n m:Int){H:ae}{Q:QT},Q (.bool (decide (n<m))) H->ac PP CK #[.int .i64 n,.int .i64 m] Q H:=fun _ _ {_ _} h=>by
 apply zn
 exact h
theorem GF:∀ (n m:Int){H:ae}{Q:QT},Q (.bool (decide (n > m))) H->ac PP Eo #[.int .i64 n,.int .i64 m] Q H:=fun _ _ {_ _} h=>by
 apply Av
 exact h
theorem Gf:∀ (n m:Int){H:ae}{Q:QT},Q (.bool (decide (n<=m))) H->ac PP Ez #[.int .i64 n,.int .i64 m] Q H:=fun _ _ {_ _} h=>by
 apply AD
 exact h
theorem Hp:∀ (n m:Int){H:ae}{Q:QT},Q (.bool (decide (n ≥ m))) H->ac PP BX #[.int .i64 n,.int .i64 m] Q H:=fun _ _ {_ _} h=>by
 apply yC
 exact h
theorem Rd.argc {H:ae}{q:Addr}{l:Nat}{ar:List Int} (hr:Rd 1 H (some q) l (ag ar)) (i:Nat) (hi:i<ar.length):aa H (q.add (i*1))=some (.int .i64 (ar.getD i 0)):=by
 have hlen:l=ar.length:=by have:=hr.1;simpa [ag] using this.symm
 obtain ⟨p,hp,hc,_⟩:=hr.int (i:=(i:Int)) (by omega) (by omega)
 cases hp
 simp only [Int.toNat_natCast] at hc
 rw [Nat.mul_one];exact hc
section
variable {H:ae}{b:Nat}{F:az}{s:SP}{t:TB}{v:KV}{Q:QT}{x:Int}{q:Addr}{l c:Nat}{ws:List Int}{k j:Int}{y z:ByteArray}
theorem rQ (hK:PK H b F s t) (hv:KAllW s t v) (hs:kk s.h k (bk y)) (hz:kk s.h j (bk z)) (hy:y.size<=100000) (hy2:z.size<=100000) (hr:Rd 1 H (some q) l (ag [4*j])) (h:∀ H',Fr [] H H'->Q (.tuple #[.string y,.string z,.bool true]) H') :
  ac PP uT #[cv b (4*k) (some q) l c] Q H:=by
 obtain ⟨k1,k2⟩:=sk hv hs
 obtain ⟨j1,j2⟩:=sk hv hz
 have hlen:l=1:=by have:=hr.1;simpa [ag] using this.symm
 subst hlen
 apply sa
 unfold E5 A0 iV pV sV lV cS;dsimp only [shH]
 have f:=Fr.push [] H (.cells (cc b (4*k) (some q) 1 c) 138)
 have hb:=aV.new H (cc b (4*k) (some q) 1 c) 138
 have a0:=Rd.argc (Rd.nilF hr f) 0 (by simp)
 refine ⟨_,hb.cell 0,_,hb.cell 1,_,_,_,hb.cell 2,_,_,_,hb.cell 2,⟨by decide,by decide⟩,q,rfl,_,a0,kr (hK.nil f) hv fun H1 f1=>⟨_,rfl,trivial,?_⟩⟩
 rw [show ([4*j].getD 0 0)=4*j from rfl,C9 hz j1 j2]
 simp only [show ((10:Int) != 10)=false from rfl,cond_false]
 have f01:=f.trans f1
 have hb1:=hb.fr f1 (by simp)
 have a1:=Rd.argc (Rd.nilF hr f01) 0 (by simp)
 refine ⟨_,hb1.cell 0,_,hb1.cell 1,_,_,_,hb1.cell 2,_,hb1.cell 1,_,hb1.cell 0,_,hb1.cell 1,_,_,_,hb1.cell 2,_,_,_,hb1.cell 2,⟨by decide,by decide⟩,q,rfl,_,a1,oc (hK.nil f01) hs k1 k2 hy fun H2 f2=>?_⟩
 have f02:=f01.trans f2
 have hb2:=hb1.fr f2 (by simp)
 have a2:=Rd.argc (Rd.nilF hr f02) 0 (by simp)
 exact ⟨_,rfl,⟨⟨a2,trivial⟩,⟨hb2.cell 2,trivial⟩,⟨hb2.cell 0,hb2.cell 1,hb2.cell 2,trivial⟩,trivial⟩,oc (hK.nil f02) hz j1 j2 hy2 fun H3 f3=>⟨_,rfl,trivial,h _ (f02.trans f3)⟩⟩
variable {a:Option Addr}
end
def eb (v:KV) (o:Int):Bool:=decide (o=4) || match dw v o with
 | some i=>decide (14<(i:Int)+1)
 | none=>false
def cu (r:RH) (v:KV) (w:Int):Int:=if eb v (dh r w) then (cD r w).1 else 0
def mj (t:TB) (n:Int):ByteArray:=if h:0<=n∧n<t.texts.length then t.texts[n.toNat]'(by omega) else ⟨#[]⟩
section
variable {H:ae}{b:Nat}{F:az}{s:SP}{t:TB}{v:KV}{Q:QT}{r x:Int}{a:Option Addr}{q:Addr}{l c:Nat}{ws:List Int}
theorem vz (hK:PK H b F s t) (hv:KAllW s t v) (ho:1<=dh s.h r∧dh s.h r<=65536) (h:∀ H',Fr [] H H'->Q (.tuple #[.int .i64 (4*dh s.h r),.int .i64 0]) H'):ac PP CS #[cv b r a l c] Q H:=by
 apply zu
 unfold GK A0 iV pV lV cS;dsimp only [shH]
 have f:=Fr.push [] H (.cells (cc b r a l c) 138)
 have hb:=aV.new H (cc b r a l c) 138
 exact ⟨_,hb.cell 0,_,hb.cell 1,_,_,_,hb.cell 2,_,hb.cell 1,kr (hK.nil f) hv fun H1 f1=>⟨_,rfl,ky ho ⟨_,_,rfl,h _ (f.trans f1)⟩⟩⟩
theorem vX (h:∀ H',Fr [] H H'->Q (.tuple #[.int .i64 (tw (decide (r=4))),.int .i64 0]) H'):ac PP C0 #[cv b r a l c] Q H:=by
 apply AC
 unfold IS A0 iV pV lV cS
 have hb:=aV.new H (cc b r a l c) 138
 refine ⟨_,hb.cell 1,bU ⟨_,_,rfl,?_⟩⟩
 rw [aX];exact h _ (Fr.push _ _ _)
theorem tT (h:∀ H',Fr [] H H'->Q (.tuple #[.int .i64 (tw (decide (r≠4))),.int .i64 0]) H'):ac PP EI #[cv b r a l c] Q H:=by
 apply AI
 unfold FH A0 iV pV lV cS
 have hb:=aV.new H (cc b r a l c) 138
 refine ⟨_,hb.cell 1,bU ⟨_,_,rfl,?_⟩⟩
 rw [aY];exact h _ (Fr.push _ _ _)
theorem zM (h:∀ H',Fr [] H H'->Q (.tuple #[.int .i64 r,.int .i64 0]) H'):ac PP B2 #[cv b r a l c] Q H:=by
 apply yH
 unfold Hg A0 iV pV lV
 have hb:=aV.new H (cc b r a l c) 138
 exact ⟨_,hb.cell 1,h _ (Fr.push _ _ _)⟩
theorem ud (hK:PK H b F s t) (hv:KAllW s t v) (hr:Rd 1 H (some q) l (ag (x :: ws))) (hbad:∀ H',Fr [] H H'->Q (.tuple #[.int .i64 0,.int .i64 170]) H') (h:∀ z H',Fr [] H H'->Q (.tuple #[.int .i64 (tw z),.int .i64 0]) H'):ac PP Du #[cv b r (some q) l c] Q H:=by
 apply zP
 unfold Hs A0 iV pV lV cS;dsimp only [shH]
 have hl:0<(l:Int):=by have:=hr.1;simp [ag] at this;omega
 have f:=Fr.push [] H (.cells (cc b r (some q) l c) 138)
 have hb:=aV.new H (cc b r (some q) l c) 138
 have a0:=Rd.argc (Rd.nilF hr f) 0 (by simp)
 refine ⟨_,hb.cell 0,_,hb.cell 1,_,_,_,hb.cell 2,_,_,_,hb.cell 2,⟨by decide,hl⟩,q,rfl,_,a0,kr (hK.nil f) hv fun H1 f1=>⟨_,rfl,trivial,?_⟩⟩
 have f01:=f.trans f1
 have hb1:=hb.fr f1 (by simp)
 have a1:=Rd.argc (Rd.nilF hr f01) 0 (by simp)
 rw [aY,af]
 refine ap (fun _=>hbad _ f01) fun _=>⟨_,_,_,hb1.cell 2,⟨by decide,hl⟩,q,rfl,_,a1,fG (hK.nil f01).kinds ?_⟩
 unfold iE
 have go:∀ o e:Int,∃ n16 n17:Int,(Value.tuple #[.int .i64 o,.int .i64 e])=.tuple #[.int .i64 n16,.int .i64 n17]∧∃ p18:Option Addr,aa H1 (⟨H.size,0,none⟩:Addr)=some (.pointer p18)∧∃ n19:Int,aa H1 ((⟨H.size,0,none⟩:Addr).add 1)=some (.int .i64 n19)∧∃ a20:Option Addr,∃ l20:Nat,∃ c20:Nat,aa H1 ((⟨H.size,0,none⟩:Addr).add 2)=some (.slice a20 l20 c20)∧∃ n21:Int,aa H1 ((⟨H.size,0,none⟩:Addr).add 1)=some (.int .i64 n21)∧ac PP A4 #[.agg #[.pointer p18,.int .i64 n19,.slice a20 l20 c20],.int .i64 n21,.int .i64 n16] (fun v22 H3=>∃ b23:Bool,v22=.bool b23∧ac PP vo #[.bool b23] (fun v24 H4=>∃ n25:Int,∃ n26:Int,v24=.tuple #[.int .i64 n25,.int .i64 n26]∧Q (.tuple #[.int .i64 n25,.int .i64 n26]) H4) H3) H1:=fun o e =>
  ⟨_,_,rfl,_,hb1.cell 0,_,hb1.cell 1,_,_,_,hb1.cell 2,_,hb1.cell 1,ss (hK.nil f01) hv fun H3 f3=>⟨_,rfl,bU ⟨_,_,rfl,h _ _ (f01.trans f3)⟩⟩⟩
 split
 ·exact go _ _
 ·exact go _ _
theorem sW (hK:PK H b F s t) (hv:KAllW s t v){w:Int} (h:∀ H',Fr [] H H'->Q (.bool (eb v (dh s.h w))) H'):ac PP xe #[cv b r a l c,.int .i64 w] Q H:=by
 apply xF
 unfold Gb A0 iV pV lV cS;dsimp only [shH]
 have f:=Fr.push [] H (.cells (cc b r a l c) 138)
 have hb:=aV.new H (cc b r a l c) 138
 refine ⟨_,hb.cell 0,_,hb.cell 1,_,_,_,hb.cell 2,kr (hK.nil f) hv fun H1 f1=>⟨_,rfl,?_⟩⟩
 have f01:=f.trans f1
 have hb1:=hb.fr f1 (by simp)
 refine ⟨_,hb1.cell 0,pY (hK.nil f01) hv fun H2 f2=>?_⟩
 have hq:=h _ (f01.trans f2)
 unfold eb at hq
 cases hp:dw v (dh s.h w) with
 | none =>
  rw [hp] at hq
  refine ⟨_,_,rfl,?_⟩
  rw [aX,af]
  refine ap (fun h4=>?_) fun h4=>?_
  ·rw [decide_eq_true h4] at hq;exact hq
  ·rw [decide_eq_false h4] at hq;exact hq
 | some i =>
  rw [hp] at hq
  refine ⟨_,_,rfl,?_⟩
  rw [aX,af]
  refine ap (fun h4=>?_) fun h4=>?_
  ·rw [decide_eq_true h4] at hq;exact hq
  ·rw [decide_eq_false h4] at hq
   exact hq
theorem mM (hK:PK H b F s t) (hv:KAllW s t v) (h:∀ H',Fr [] H H'->Q (.int .i64 (cu s.h v r)) H'):ac PP Dz #[cv b r a l c] Q H:=by
 apply zT
 unfold HE A0 iV pV lV cS;dsimp only [shH]
 have f:=Fr.push [] H (.cells (cc b r a l c) 138)
 have hb:=aV.new H (cc b r a l c) 138
 refine ⟨_,hb.cell 0,_,hb.cell 1,_,_,_,hb.cell 2,_,hb.cell 1,sW (hK.nil f) hv fun H1 f1=>⟨_,rfl,?_⟩⟩
 have f01:=f.trans f1
 have hb1:=hb.fr f1 (by simp)
 unfold cu at h
 cases hi:eb v (dh s.h r) with
 | false =>
  rw [hi] at h
  exact h _ f01
 | true =>
  rw [hi] at h
  exact ⟨_,hb1.cell 0,_,hb1.cell 1,_,_,_,hb1.cell 2,_,hb1.cell 1,dG (hK.nil f01) fun H2 f2=>⟨_,_,rfl,h _ (f01.trans f2)⟩⟩
theorem uG (hK:PK H b F s t) (hv:KAllW s t v) (h:∀ H',Fr [] H H'->Q (.tuple #[.int .i64 (fZ (cu s.h v r)).1,.int .i64 (fZ (cu s.h v r)).2]) H'):ac PP DA #[cv b r a l c] Q H:=by
 apply xt
 unfold Kp A0 iV pV lV cS;dsimp only [shH]
 have f:=Fr.push [] H (.cells (cc b r a l c) 138)
 have hb:=aV.new H (cc b r a l c) 138
 exact ⟨_,hb.cell 0,_,hb.cell 1,_,_,_,hb.cell 2,mM (hK.nil f) hv fun H1 f1=>⟨_,rfl,iT ⟨_,_,rfl,h _ (f.trans f1)⟩⟩⟩
theorem sc (hK:PK H b F s t) (hr:Rd 1 H (some q) l (ag (x :: ws))) (ho:q.block∉F){n:Int} (hbad:(bl n x).2≠0->∀ H',Fr [] H H'->Q (.tuple #[.int .i64 0,.int .i64 (bl n x).2]) H')
  (hget:(bl n x).2=0->ws=[]->∀ H',Fr [] H H'->Q (.tuple #[.int .i64 (dL s.h r (bl n x).1),.int .i64 0]) H')
  (hput:(bl n x).2=0->∀ y ws',ws=y :: ws'->∀ H',PK H' b F (s.putW r (bl n x).1 y).2 t->Fr F H H'->Q (.tuple #[.int .i64 y,.int .i64 (s.putW r (bl n x).1 y).1]) H'):ac PP E9 #[cv b r (some q) l c,.int .i64 n] Q H:=by
 have hlt:=hK.lt
 have hlen:l=ws.length+1:=by have:=hr.1;simp [ag] at this;omega
 apply xz
 unfold Kt A0 iV pV lV cS;dsimp only [shH]
 have f:=Fr.push [] H (.cells (cc b r (some q) l c) 138)
 have hb:=aV.new H (cc b r (some q) l c) 138
 have hbF:H.size∉F:=fun hm=>by have:=hlt _ hm;omega
 refine ⟨_,hb.cell 0,_,hb.cell 1,_,_,_,hb.cell 2,lS (hK.nil f) (Rd.nilF hr f) fun H1 f1=>⟨_,_,rfl,?_⟩⟩
 have f01:=f.trans f1
 have hb1:=hb.fr f1 (by simp)
 rw [aY,af]
 refine ap (fun h0=>hbad h0 _ f01) fun h0=>?_
 have h0':(bl n x).2=0:=Classical.byContradiction h0
 refine ⟨_,_,_,hb1.cell 2,?_⟩
 rw [af]
 refine ap (fun h2=>?_) fun h2=>?_
 ·have hw:ws=[]:=List.eq_nil_of_length_eq_zero (by omega)
  exact ⟨_,hb1.cell 0,_,hb1.cell 1,_,_,_,hb1.cell 2,_,hb1.cell 1,jx (hK.nil f01) fun H2 f2=>⟨_,rfl,hget h0' hw _ (f01.trans f2)⟩⟩
 ·cases ws with
  | nil=>simp at hlen;omega
  | cons y ws =>
   have hl1:1<(l:Int):=by omega
   have a1:=Rd.argc (Rd.nilF hr f01) 1 (by simp)
   refine ⟨_,_,_,hb1.cell 2,⟨by decide,hl1⟩,q,rfl,_,a1,_,hb1.cell 0,_,hb1.cell 1,_,_,_,hb1.cell 2,_,hb1.cell 1,_,_,_,hb1.cell 2,⟨by decide,hl1⟩,q,rfl,_,a1,rS (hK.nil f01) fun H3 hK3 f3=>?_⟩
   have f03:Fr F H H3:=⟨Nat.le_trans f01.1 f3.1,fun z hz hn=>by rw [f3.2 z (Nat.lt_of_lt_of_le hz f01.1) hn,f01.2 z hz (by simp)]⟩
   have hb3:=hb1.fr f3 hbF
   have a3:=Rd.argc (hr.fr' f03 fun p hp=>by cases hp;exact ho) 1 (by simp)
   exact ⟨_,rfl,⟨⟨a3,trivial⟩,⟨hb3.cell 2,trivial⟩,trivial⟩,hput h0' y ws rfl H3 hK3 f03⟩
theorem AU (hK:PK H b F s t) (hr:Rd 1 H (some q) l (ag (x :: ws))) (ho:q.block∉F) (hbad:(bl (cD s.h r).1 x).2≠0->∀ H',Fr [] H H'->Q (.tuple #[.int .i64 0,.int .i64 (bl (cD s.h r).1 x).2]) H')
  (hget:(bl (cD s.h r).1 x).2=0->ws=[]->∀ H',Fr [] H H'->Q (.tuple #[.int .i64 (dL s.h r (bl (cD s.h r).1 x).1),.int .i64 0]) H')
  (hput:(bl (cD s.h r).1 x).2=0->∀ y ws',ws=y :: ws'->∀ H',PK H' b F (s.putW r (bl (cD s.h r).1 x).1 y).2 t->Fr F H H'->Q (.tuple #[.int .i64 y,.int .i64 (s.putW r (bl (cD s.h r).1 x).1 y).1]) H'):ac PP Cx #[cv b r (some q) l c] Q H:=by
 apply zc
 unfold Ij A0 iV pV lV cS;dsimp only [shH]
 have f:=Fr.push [] H (.cells (cc b r (some q) l c) 138)
 have hb:=aV.new H (cc b r (some q) l c) 138
 refine ⟨_,hb.cell 0,_,hb.cell 1,_,_,_,hb.cell 2,_,hb.cell 1,dG (hK.nil f) fun H1 f1=>⟨_,_,rfl,?_⟩⟩
 have f01:=f.trans f1
 have hb1:=hb.fr f1 (by simp)
 refine ⟨_,hb1.cell 0,_,hb1.cell 1,_,_,_,hb1.cell 2,sc (hK.nil f01) (Rd.nilF hr f01) ho (fun h0 H' f'=>⟨_,_,rfl,hbad h0 _ (f01.trans f')⟩) (fun h0 hw H' f'=>⟨_,_,rfl,hget h0 hw _ (f01.trans f')⟩) fun h0 y ws' hw H' hK' f'=>⟨_,_,rfl,hput h0 y ws' hw H' hK' ?_⟩⟩
 exact ⟨Nat.le_trans f01.1 f'.1,fun z hz hn=>by rw [f'.2 z (Nat.lt_of_lt_of_le hz f01.1) hn,f01.2 z hz (by simp)]⟩
theorem sq (hK:PK H b F s t) (hv:KAllW s t v) (hr:Rd 1 H (some q) l (ag (x :: ws))) (ho:q.block∉F) (hbad:(bl (cu s.h v r) x).2≠0->∀ H',Fr [] H H'->Q (.tuple #[.int .i64 0,.int .i64 (bl (cu s.h v r) x).2]) H')
  (hget:(bl (cu s.h v r) x).2=0->ws=[]->∀ H',Fr [] H H'->Q (.tuple #[.int .i64 (dL s.h r (bl (cu s.h v r) x).1),.int .i64 0]) H')
  (hput:(bl (cu s.h v r) x).2=0->∀ y ws',ws=y :: ws'->∀ H',PK H' b F (s.putW r (bl (cu s.h v r) x).1 y).2 t->Fr F H H'->Q (.tuple #[.int .i64 y,.int .i64 (s.putW r (bl (cu s.h v r) x).1 y).1]) H'):ac PP Fc #[cv b r (some q) l c] Q H:=by
 apply xA
 unfold F0 A0 iV pV lV cS;dsimp only [shH]
 have f:=Fr.push [] H (.cells (cc b r (some q) l c) 138)
 have hb:=aV.new H (cc b r (some q) l c) 138
 refine ⟨_,hb.cell 0,_,hb.cell 1,_,_,_,hb.cell 2,_,hb.cell 0,_,hb.cell 1,_,_,_,hb.cell 2,mM (hK.nil f) hv fun H1 f1=>?_⟩
 have f01:=f.trans f1
 have hb1:=hb.fr f1 (by simp)
 refine ⟨_,rfl,⟨⟨hb1.cell 0,hb1.cell 1,hb1.cell 2,trivial⟩,trivial⟩,sc (hK.nil f01) (Rd.nilF hr f01) ho (fun h0 H' f'=>⟨_,_,rfl,trivial,hbad h0 _ (f01.trans f')⟩) (fun h0 hw H' f'=>⟨_,_,rfl,trivial,hget h0 hw _ (f01.trans f')⟩) fun h0 y ws' hw H' hK' f'=>⟨_,_,rfl,trivial,hput h0 y ws' hw H' hK' ?_⟩⟩
 exact ⟨Nat.le_trans f01.1 f'.1,fun z hz hn=>by rw [f'.2 z (Nat.lt_of_lt_of_le hz f01.1) hn,f01.2 z hz (by simp)]⟩
theorem B5 (h:∀ H',Fr [] H H'->Q (.tuple #[.int .i64 (tw (decide (r=8))),.int .i64 0]) H'):ac PP Ec #[cv b r a l c] Q H:=by
 apply xV
 unfold KL A0 iV pV lV cS
 have hb:=aV.new H (cc b r a l c) 138
 refine ⟨_,hb.cell 1,bU ⟨_,_,rfl,?_⟩⟩
 rw [aX];exact h _ (Fr.push _ _ _)
theorem pC {n:Int} (h:∀ z e,e=0∨e=170->Q (.tuple #[.bool z,.int .i64 e]) H):ac PP CJ #[.int .i64 n] Q H:=by
 apply zl
 unfold Iy iV
 rw [aX,af]
 refine ap (fun _=>h _ _ (.inl rfl)) fun _=>?_
 rw [aX,af]
 exact ap (fun _=>h _ _ (.inl rfl)) fun _=>h _ _ (.inr rfl)
theorem wi (hr:Rd 1 H (some q) l (ag (x :: ws))) (hbad:∀ H',Fr [] H H'->Q (.tuple #[.int .i64 0,.int .i64 170]) H') (h:∀ z H',Fr [] H H'->Q (.tuple #[.int .i64 (tw z),.int .i64 0]) H'):ac PP Bz #[cv b r (some q) l c] Q H:=by
 have hl:0<(l:Int):=by have:=hr.1;simp [ag] at this;omega
 apply yc
 unfold GA A0 iV pV lV cS;dsimp only [shH]
 have f:=Fr.push [] H (.cells (cc b r (some q) l c) 138)
 have hb:=aV.new H (cc b r (some q) l c) 138
 have a0:=Rd.argc (Rd.nilF hr f) 0 (by simp)
 refine ⟨_,_,_,hb.cell 2,⟨by decide,hl⟩,q,rfl,_,a0,pC (fun z e he=>?_)⟩
 refine ⟨_,_,rfl,?_⟩
 rcases he with rfl | rfl
 ·simp only [show ((0:Int) != 0)=false from rfl,cond_false]
  cases z with
  | true=>exact ⟨_,hb.cell 1,bU ⟨_,_,rfl,h _ _ f⟩⟩
  | false=>rw [cond_false];exact bU ⟨_,_,rfl,h _ _ f⟩
 ·exact hbad _ f
theorem Ia (hr:Rd 1 H (some q) l (ag (x :: ws))) (hbad:∀ H',Fr [] H H'->Q (.tuple #[.int .i64 0,.int .i64 170]) H') (h:∀ z H',Fr [] H H'->Q (.tuple #[.int .i64 (tw z),.int .i64 0]) H'):ac PP CQ #[cv b r (some q) l c] Q H:=by
 have hl:0<(l:Int):=by have:=hr.1;simp [ag] at this;omega
 apply zr
 unfold IH A0 iV pV lV cS;dsimp only [shH]
 have f:=Fr.push [] H (.cells (cc b r (some q) l c) 138)
 have hb:=aV.new H (cc b r (some q) l c) 138
 have a0:=Rd.argc (Rd.nilF hr f) 0 (by simp)
 refine ⟨_,_,_,hb.cell 2,⟨by decide,hl⟩,q,rfl,_,a0,pC (fun z e he=>?_)⟩
 refine ⟨_,_,rfl,?_⟩
 rcases he with rfl | rfl
 ·simp only [show ((0:Int) != 0)=false from rfl,cond_false]
  cases z with
  | false=>exact ⟨_,hb.cell 1,bU ⟨_,_,rfl,h _ _ f⟩⟩
  | true=>rw [cond_true];exact bU ⟨_,_,rfl,h _ _ f⟩
 ·exact hbad _ f
theorem wG (hK:PK H b F s t) (hn:mn (eT r)) (h:∀ H',Fr [] H H'->Q (.tuple #[.int .i64 (fZ (mq 0 (eT r)).1).1,.int .i64 (fZ (mq 0 (eT r)).1).2]) H'):ac PP E2 #[cv b r a l c] Q H:=by
 apply xu
 unfold FZ A0 iV pV lV cS;dsimp only [shH]
 have f:=Fr.push [] H (.cells (cc b r a l c) 138)
 have hb:=aV.new H (cc b r a l c) 138
 refine ⟨_,hb.cell 0,_,hb.cell 1,_,_,_,hb.cell 2,ln (hK.nil f) fun H1 f1=>⟨_,rfl,uW 0 _ ⟨by decide,by decide⟩ hn ⟨_,_,rfl,?_⟩⟩⟩
 rw [show (mq 0 (eT r)).2=0 from rfl]
 simp only [show ((0:Int) != 0)=false from rfl,cond_false]
 exact iT ⟨_,_,rfl,h _ (f.trans f1)⟩
theorem DW (hK:PK H b F s t) (hn:mn (eT r)) (h1:∀ H',Fr [] H H'->Q (.tuple #[.int .i64 (fZ (mq 0 (eT r)).1).1,.int .i64 (fZ (mq 0 (eT r)).1).2]) H') (h:∀ H',Fr [] H H'->Q (.tuple #[.int .i64 r,.int .i64 0]) H'):ac PP Cl #[cv b r a l c] Q H:=by
 apply yX
 unfold HL A0 iV pV lV cS;dsimp only [shH]
 have f:=Fr.push [] H (.cells (cc b r a l c) 138)
 have hb:=aV.new H (cc b r a l c) 138
 refine ⟨_,hb.cell 0,_,hb.cell 1,_,_,_,hb.cell 2,ln (hK.nil f) fun H1 f1=>⟨_,rfl,?_⟩⟩
 have f01:=f.trans f1
 have hb1:=hb.fr f1 (by simp)
 rw [af]
 refine ap (fun _=>?_) fun _=>⟨_,hb1.cell 1,h _ f01⟩
 exact ⟨_,hb1.cell 0,_,hb1.cell 1,_,_,_,hb1.cell 2,wG (hK.nil f01) hn fun H' f'=>⟨_,_,rfl,h1 _ (f01.trans f')⟩⟩
theorem E4:tJ Dn fun n m=>(if m<n then m else n,0):=fun n m _ _ {Q H} h=>by
 apply zK
 exact h
theorem BR:tJ Dv fun n m=>(if n<m then m else n,0):=fun n m _ _ {Q H} h=>by
 apply xl
 exact h
theorem oV (hK:PK H b F s t){p:Nat}{i:Int} (hp:aV H p #[.int .i64 i]) (h:∀ H',Fr [] H H'->Q (.tuple #[.int .i64 (dL s.h r i),.int .i64 0]) H'):ac PP Bu #[cv b r a l c,.pointer (some ⟨p,0,none⟩)] Q H:=by
 apply xW
 unfold Gp A0 iV pV lV cS;dsimp only [shH]
 have f:=Fr.push [] H (.cells (cc b r a l c) 138)
 have hb:=aV.new H (cc b r a l c) 138
 exact ⟨_,hb.cell 0,_,hb.cell 1,_,_,_,hb.cell 2,_,hb.cell 1,_,(hp.fr f (by simp)).cell 0,jx (hK.nil f) fun H1 f1=>⟨_,rfl,h _ (f.trans f1)⟩⟩
end
theorem rh (t:TB) (n:Int):∃ e:Int,pF t n=.tuple #[.string (mj t n),.int .i64 e]:=by
 unfold pF mj
 by_cases h:0<=n∧n<t.texts.length
 ·rw [dif_pos h,dif_pos h];exact ⟨_,rfl⟩
 ·rw [dif_neg h,dif_neg h];exact ⟨_,rfl⟩
theorem gQ {F:az}{H H1 H2:ae} (f:Fr [] H H1) (g:Fr F H1 H2):Fr F H H2 :=
 ⟨Nat.le_trans f.1 g.1,fun w hw hn=>by rw [g.2 w (Nat.lt_of_lt_of_le hw f.1) hn,f.2 w hw (by simp)]⟩
theorem om {F F':az}{H H1 H2:ae} (f:Fr [] H H1) (g:Up F H1 F' H2):Up F H F' H2:=⟨gQ f g.1,fun w hw=>(g.2 w hw).imp id fun h=>Nat.le_trans f.1 h⟩
def ww (s:SP) (w:Int):Prop:=∃ k y,w=4*k∧kk s.h k (bk y)∧y.size<=8192
section
variable {H:ae}{b:Nat}{F:az}{s:SP}{t:TB}{v:KV}{Q:QT}{r x:Int}{a:Option Addr}{q:Addr}{l c:Nat}{ws:List Int}{k:Int}{y:ByteArray}
theorem kJ (hK:PK H b F s t){n:Int} (hn:0<=n∧n<4096) (h:∀ H',Fr [] H H'->Q (.string (mj t n)) H'):ac PP xc #[cv b r a l c,.int .i64 (4*n+2)] Q H:=by
 apply r0
 unfold BY A0 iV wW pV sV lV cS;dsimp only [shH]
 have f:=Fr.push [] H (.cells (cc b r a l c) 138)
 have hb:=aV.new H (cc b r a l c) 138
 have hK1:=hK.nil f
 refine oN hK1.kinds ?_
 unfold iE
 have hkw:aD (4*n+2)=2:=by
  unfold aD
  rw [if_neg (by omega),if_pos (by omega)]
 rw [if_pos hkw]
 refine ⟨_,_,rfl,?_⟩
 simp only [show ((0:Int) == 0)=true from rfl,cond_true]
 refine ⟨_,hb.cell 0,kU hK1 fun tb F1 _ hT=>⟨_,rfl,pK hT ?_⟩⟩
 rw [show (4*n+2) / 4=n by omega]
 obtain ⟨e,he⟩:=rh t n
 rw [he]
 exact ⟨_,_,rfl,h _ f⟩
theorem xh (hK:PK H b F s t){n:Int} (hn:0<=n∧n<4096) (h:∀ H',Fr [] H H'->Q (.tuple #[.int .i64 (fZ ((mj t n).size:Int)).1,.int .i64 (fZ ((mj t n).size:Int)).2]) H') :
  ac PP CC #[cv b (4*n+2) a l c] Q H:=by
 apply zg
 unfold Gt A0 iV pV sV lV cS;dsimp only [shH]
 have f:=Fr.push [] H (.cells (cc b (4*n+2) a l c) 138)
 have hb:=aV.new H (cc b (4*n+2) a l c) 138
 exact ⟨_,hb.cell 0,_,hb.cell 1,_,_,_,hb.cell 2,_,hb.cell 1,kJ (hK.nil f) hn fun H1 f1=>⟨_,rfl,iT ⟨_,_,rfl,h _ (f.trans f1)⟩⟩⟩
theorem B9 (hK:PK H b F s t){n:Int} (hn:0<=n∧n<4096) (hl:(mj t n).size<=1000) (h:∀ H',PK H' b F (s.makeP 10 1 (bk (mj t n))).2 t->Fr F H H'->Q (.tuple #[.int .i64 (s.makeP 10 1 (bk (mj t n))).1.1,.int .i64 (s.makeP 10 1 (bk (mj t n))).1.2]) H') :
  ac PP Ei #[cv b (4*n+2) a l c] Q H:=by
 apply Ar
 unfold IA A0 iV pV sV lV cS;dsimp only [shH]
 have f:=Fr.push [] H (.cells (cc b (4*n+2) a l c) 138)
 have hb:=aV.new H (cc b (4*n+2) a l c) 138
 refine ⟨_,hb.cell 0,_,hb.cell 1,_,_,_,hb.cell 2,_,hb.cell 0,_,hb.cell 1,_,_,_,hb.cell 2,_,hb.cell 1,kJ (hK.nil f) hn fun H1 f1=>?_⟩
 have f01:=f.trans f1
 have hb1:=hb.fr f1 (by simp)
 exact ⟨_,rfl,⟨⟨hb1.cell 0,hb1.cell 1,hb1.cell 2,trivial⟩,trivial⟩,qQ (hK.nil f01) (by omega) fun H' hK' f'=>⟨_,_,rfl,trivial,h H' hK' (gQ f01 f')⟩⟩
theorem qK (hK:PK H b F s t){n:Int} (hn:0<=n∧n<4096) (hr:Rd 1 H (some q) l (ag (x :: ws))) (hbad:∀ H',Fr [] H H'->Q (.tuple #[.int .i64 0,.int .i64 170]) H') (h:∀ z H',Fr [] H H'->Q (.tuple #[.int .i64 (tw z),.int .i64 0]) H') :
  ac PP Er #[cv b (4*n+2) (some q) l c] Q H:=by
 have hl:0<(l:Int):=by have:=hr.1;simp [ag] at this;omega
 apply Ax
 unfold Fq A0 iV pV sV lV cS;dsimp only [shH]
 have f:=Fr.push [] H (.cells (cc b (4*n+2) (some q) l c) 138)
 have hb:=aV.new H (cc b (4*n+2) (some q) l c) 138
 have a0:=Rd.argc (Rd.nilF hr f) 0 (by simp)
 refine ⟨_,_,_,hb.cell 2,⟨by decide,hl⟩,q,rfl,_,a0,fS (hK.nil f).kinds ⟨_,rfl,?_⟩⟩
 rw [show ((x :: ws).getD 0 0)=x from rfl,aY,af]
 refine ap (fun _=>hbad _ f) fun hk=>?_
 have hk2:aD x=2:=Classical.byContradiction hk
 have hx:∃ m,x=4*m+2∧0<=m∧m<4096:=by
  have:=aS x
  exact ⟨x / 4,by omega,by omega,by omega⟩
 obtain ⟨m,rfl,m0,m1⟩:=hx
 refine ⟨_,hb.cell 0,_,hb.cell 1,_,_,_,hb.cell 2,_,hb.cell 1,_,hb.cell 0,_,hb.cell 1,_,_,_,hb.cell 2,_,_,_,hb.cell 2,⟨by decide,hl⟩,q,rfl,_,a0,kJ (hK.nil f) hn fun H2 f2=>?_⟩
 have f02:=f.trans f2
 have hb2:=hb.fr f2 (by simp)
 have a2:=Rd.argc (Rd.nilF hr f02) 0 (by simp)
 exact ⟨_,rfl,⟨⟨a2,trivial⟩,⟨hb2.cell 2,trivial⟩,⟨hb2.cell 0,hb2.cell 1,hb2.cell 2,trivial⟩,trivial⟩,kJ (hK.nil f02) ⟨m0,m1⟩ fun H3 f3=>⟨_,rfl,trivial,bU ⟨_,_,rfl,trivial,h _ _ (f02.trans f3)⟩⟩⟩
theorem gM (hK:PK H b F s t) (hv:KAllW s t v) (hs:kk s.h k (bk y)) (hy:y.size<=8192) (hx:dh s.h x=10->ww s x) (hr:Rd 1 H (some q) l (ag [x])) (hbad:∀ H',Fr [] H H'->Q (.tuple #[.string ⟨#[]⟩,.string ⟨#[]⟩,.bool false]) H')
  (h:∀ j z H',x=4*j->kk s.h j (bk z)->z.size<=8192->Fr [] H H'->Q (.tuple #[.string y,.string z,.bool true]) H'):ac PP uT #[cv b (4*k) (some q) l c] Q H:=by
 by_cases h10:dh s.h x=10
 ·obtain ⟨j,z,rfl,hz,hzs⟩:=hx h10
  exact rQ hK hv hs hz (by omega) (by omega) hr fun H' f=>h j z H' rfl hz hzs f
 have hlen:l=1:=by have:=hr.1;simpa [ag] using this.symm
 subst hlen
 apply sa
 unfold E5 A0 iV pV sV lV cS;dsimp only [shH]
 have f:=Fr.push [] H (.cells (cc b (4*k) (some q) 1 c) 138)
 have hb:=aV.new H (cc b (4*k) (some q) 1 c) 138
 have a0:=Rd.argc (Rd.nilF hr f) 0 (by simp)
 refine ⟨_,hb.cell 0,_,hb.cell 1,_,_,_,hb.cell 2,_,_,_,hb.cell 2,⟨by decide,by decide⟩,q,rfl,_,a0,kr (hK.nil f) hv fun H1 f1=>⟨_,rfl,trivial,?_⟩⟩
 rw [show ([x].getD 0 0)=x from rfl,aY,af,if_pos h10]
 exact hbad _ (f.trans f1)
theorem qX (hK:PK H b F s t) (hv:KAllW s t v) (hs:kk s.h k (bk y)) (hy:y.size<=8192) (hx:dh s.h x=10->ww s x) (hr:Rd 1 H (some q) l (ag [x])) (hbad:∀ H',Fr [] H H'->Q (.tuple #[.int .i64 0,.int .i64 170]) H')
  (h:∀ z H',z.size<=8192->PK H' b F (s.makeP 10 1 (bk z)).2 t->Fr F H H'->Q (.tuple #[.int .i64 (s.makeP 10 1 (bk z)).1.1,.int .i64 (s.makeP 10 1 (bk z)).1.2]) H'):ac PP Cd #[cv b (4*k) (some q) l c] Q H:=by
 apply yS
 unfold Hw A0 iV wW pV sV lV cS;dsimp only [shH]
 have f:=Fr.push [] H (.cells (cc b (4*k) (some q) l c) 138)
 have hb:=aV.new H (cc b (4*k) (some q) l c) 138
 refine ⟨_,hb.cell 0,_,hb.cell 1,_,_,_,hb.cell 2,gM (hK.nil f) hv hs hy hx (Rd.nilF hr f) (fun H1 f1=>⟨_,_,_,rfl,hbad _ (f.trans f1)⟩) fun j z H1 _ _ hzs f1=>⟨_,_,_,rfl,?_⟩⟩
 have f01:=f.trans f1
 have hb1:=hb.fr f1 (by simp)
 rw [Bool.not_true,cond_false]
 rw [ah (by omega) (by omega),af]
 refine ap (fun _=>hbad _ f01) fun hle=>?_
 refine ⟨_,hb1.cell 0,_,hb1.cell 1,_,_,_,hb1.cell 2,?_⟩
 rw [af,if_neg (by rw [show IntKind.i64.max=9223372036854775807 from rfl];omega)]
 exact qQ (hK.nil f01) (by rw [ByteArray.size_append];omega) fun H' hK' f'=>⟨_,_,rfl,h (y++z) H' (by rw [ByteArray.size_append];omega) hK' (gQ f01 f')⟩
theorem tU (hK:PK H b F s t) (hv:KAllW s t v) (hs:kk s.h k (bk y)) (hy:y.size<=8192) (hx:dh s.h x=10->ww s x) (hr:Rd 1 H (some q) l (ag [x])) (h:∀ z H',Fr [] H H'->Q (.tuple #[.int .i64 (tw z),.int .i64 0]) H') :
  ac PP DE #[cv b (4*k) (some q) l c] Q H:=by
 apply zZ
 unfold HN A0 iV pV sV lV cS;dsimp only [shH]
 have f:=Fr.push [] H (.cells (cc b (4*k) (some q) l c) 138)
 have hb:=aV.new H (cc b (4*k) (some q) l c) 138
 exact ⟨_,hb.cell 0,_,hb.cell 1,_,_,_,hb.cell 2,gM (hK.nil f) hv hs hy hx (Rd.nilF hr f) (fun H1 f1=>⟨_,_,_,rfl,by rw [cond_false];exact bU ⟨_,_,rfl,h _ _ (f.trans f1)⟩⟩) fun j z H1 _ _ _ f1=>⟨_,_,_,rfl,by rw [cond_true];exact bU ⟨_,_,rfl,h _ _ (f.trans f1)⟩⟩⟩
theorem wu (hK:PK H b F s t) (hv:KAllW s t v) (hs:kk s.h k (bk y)) (hy:y.size<=8192) (hx:dh s.h x=10->ww s x) (hr:Rd 1 H (some q) l (ag [x])) (hbad:∀ H',Fr [] H H'->Q (.tuple #[.int .i64 0,.int .i64 170]) H') (h:∀ z H',Fr [] H H'->Q (.tuple #[.int .i64 (tw z),.int .i64 0]) H') :
  ac PP DN #[cv b (4*k) (some q) l c] Q H:=by
 apply xE
 unfold Ky A0 iV pV sV lV cS;dsimp only [shH]
 have f:=Fr.push [] H (.cells (cc b (4*k) (some q) l c) 138)
 have hb:=aV.new H (cc b (4*k) (some q) l c) 138
 exact ⟨_,hb.cell 0,_,hb.cell 1,_,_,_,hb.cell 2,gM (hK.nil f) hv hs hy hx (Rd.nilF hr f) (fun H1 f1=>⟨_,_,_,rfl,hbad _ (f.trans f1)⟩) fun j z H1 _ _ _ f1=>⟨_,_,_,rfl,by rw [Bool.not_true,cond_false];exact bU ⟨_,_,rfl,h _ _ (f.trans f1)⟩⟩⟩
theorem zC (hK:PK H b F s t) (hs:kk s.h k (bk y)) (k1:1<=k) (k2:k<=65536) (hy:y.size<=8192) (hm:t.texts.length<=4096) (hbad:∀ H',Fr [] H H'->Q (.tuple #[.int .i64 0,.int .i64 170]) H')
  (hfull:(t.add y).1.2≠0->∀ H' F',PK H' b F' s (t.add y).2->Up F H F' H'->Q (.tuple #[.int .i64 0,.int .i64 (t.add y).1.2]) H')
  (h:(t.add y).1.2=0->∀ H' F',PK H' b F' s (t.add y).2->Up F H F' H'->(0<=(t.add y).1.1∧(t.add y).1.1<4096)∧Q (.tuple #[.int .i64 (4*(t.add y).1.1+2),.int .i64 0]) H'):ac PP Bn #[cv b (4*k) a l c] Q H:=by
 apply xO
 unfold Gi A0 iV pV sV lV cS;dsimp only [shH]
 have f:=Fr.push [] H (.cells (cc b (4*k) a l c) 138)
 have hb:=aV.new H (cc b (4*k) a l c) 138
 refine ⟨_,hb.cell 0,_,hb.cell 1,_,_,_,hb.cell 2,_,hb.cell 1,oc (hK.nil f) hs k1 k2 (by omega) fun H1 f1=>⟨_,rfl,?_⟩⟩
 have f01:=f.trans f1
 have hb1:=hb.fr f1 (by simp)
 rw [af]
 refine ap (fun h1=>hbad _ f01) fun h1=>?_
 rw [af]
 refine ap (fun h2=>hbad _ f01) fun h2=>?_
 have hK1:=hK.nil f01
 obtain ⟨tb,F2,hc,hT,hsub,_,hup,_⟩:=hK1.tb
 refine ⟨_,hb1.cell 0,?_⟩
 apply vM
 unfold Lk pV
 refine ⟨_,rfl,_,hc,⟨_,rfl,oD hT fun H2 F3 hT2 u2=>⟨_,_,rfl,?_⟩⟩⟩
 obtain ⟨F',hK2,u3⟩:=hup H2 F3 _ hT2 u2
 have u:=om f01 u3
 rw [aY,af]
 refine ap (fun e0=>hfull e0 H2 F' hK2 u) fun e0=>?_
 obtain ⟨e1,hq⟩:=h (Classical.byContradiction e0) H2 F' hK2 u
 exact vO e1 ⟨_,_,rfl,hq⟩
theorem Ak (hK:PK H b F s t) (hs:kk s.h k (bk y)) (k1:1<=k) (k2:k<=65536) (hy:y.size<=8192){w:Int} (hr:Rd 1 H (some q) l (ag [x,w])) (ho:q.block∉F) (hbad:∀ e H',e=170∨e=171->Fr [] H H'->Q (.tuple #[.int .i64 0,.int .i64 e]) H')
  (h:∀ (i:Nat) H',i<y.size->aD w=1->0<=w / 2∧w / 2<=255->PK H' b F (s.putW (4*k) i (w / 2)).2 t->Fr F H H'->Q (.tuple #[.int .i64 w,.int .i64 (s.putW (4*k) i (w / 2)).1]) H') :
  ac PP EW #[cv b (4*k) (some q) l c] Q H:=by
 have hlt:=hK.lt
 have hbl:=fc y
 have hlen:l=2:=by have:=hr.1;simpa [ag] using this.symm
 subst hlen
 apply xn
 unfold FW A0 iV pV lV cS;dsimp only [shH]
 have f:=Fr.push [] H (.cells (cc b (4*k) (some q) 2 c) 138)
 have hb:=aV.new H (cc b (4*k) (some q) 2 c) 138
 have hbF:H.size∉F:=fun hm=>by have:=hlt _ hm;omega
 refine ⟨_,hb.cell 0,_,hb.cell 1,_,_,_,hb.cell 2,_,hb.cell 1,dG (hK.nil f) fun H1 f1=>⟨_,_,rfl,?_⟩⟩
 have f01:=f.trans f1
 have hb1:=hb.fr f1 (by simp)
 refine ⟨_,hb1.cell 0,_,hb1.cell 1,_,_,_,hb1.cell 2,lS (hK.nil f01) (Rd.nilF hr f01) fun H2 f2=>?_⟩
 rw [sw hs k1 k2]
 have f02:=f01.trans f2
 have hb2:=hb1.fr f2 (by simp)
 have a2:=Rd.argc (Rd.nilF hr f02) 1 (by simp)
 refine ⟨_,_,rfl,_,_,_,hb2.cell 2,⟨by decide,by decide⟩,q,rfl,_,a2,lP (hK.nil f02).kinds ?_⟩
 rw [show ([x,w].getD 1 0)=w from rfl] at a2 ⊢
 unfold bl
 simp only [hbl]
 by_cases hkx:aD x≠1
 ·rw [if_pos hkx]
  unfold iE
  split
  ·exact ⟨_,_,rfl,hbad _ _ (.inl rfl) f02⟩
  ·exact ⟨_,_,rfl,hbad _ _ (.inl rfl) f02⟩
 rw [if_neg hkx]
 have fin:∀ (i e:Int),(e=0∧0<=i∧i<y.size)∨e=171->∀ (n:Int) (e2:Int),(e2=0∧aD w=1∧n=w / 2)∨e2=10 ->
   cond (e == 170) (Q (.tuple #[.int .i64 0,.int .i64 170]) H2) (cond (e2 != 0) (Q (.tuple #[.int .i64 0,.int .i64 170]) H2) (cond (decide (n<0)) (Q (.tuple #[.int .i64 0,.int .i64 170]) H2) (cond (decide (n > 255)) (Q (.tuple #[.int .i64 0,.int .i64 170]) H2) (cond (e != 0) (Q (.tuple #[.int .i64 0,.int .i64 e]) H2)
    (∃ a23:Option Addr,∃ l23:Nat,∃ c23:Nat,aa H2 ((⟨H.size,0,none⟩:Addr).add 2)=some (.slice a23 l23 c23)∧((0:Int)<=1∧1<(l23:Int))∧∃ q24,a23=some q24∧∃ n25:Int,aa H2 (q24.add (Int.toNat 1*1))=some (.int .i64 n25)∧∃ p26:Option Addr,aa H2 (⟨H.size,0,none⟩:Addr)=some (.pointer p26)∧∃ n27:Int,aa H2 ((⟨H.size,0,none⟩:Addr).add 1)=some (.int .i64 n27)∧∃ a28:Option Addr,∃ l28:Nat,∃ c28:Nat,aa H2 ((⟨H.size,0,none⟩:Addr).add 2)=some (.slice a28 l28 c28)∧∃ n29:Int,aa H2 ((⟨H.size,0,none⟩:Addr).add 1)=some (.int .i64 n29) ∧
     ac PP wj #[.agg #[.pointer p26,.int .i64 n27,.slice a28 l28 c28],.int .i64 n29,.int .i64 i,.int .i64 n] (fun v30 H4=>∃ n31:Int,v30=.int .i64 n31∧((aa H4 (q24.add (Int.toNat 1*1))=some (.int .i64 n25)∧True)∧((aa H4 ((⟨H.size,0,none⟩:Addr).add 2)=some (.slice a23 l23 c23)∧True)∧True))∧Q (.tuple #[.int .i64 n25,.int .i64 n31]) H4) H2))))):=by
  intro i e he n e2 he2
  rw [aX,af]
  refine ap (fun _=>hbad _ _ (.inl rfl) f02) fun _=>?_
  rw [aY,af]
  refine ap (fun _=>hbad _ _ (.inl rfl) f02) fun g2=>?_
  rw [af]
  refine ap (fun _=>hbad _ _ (.inl rfl) f02) fun g3=>?_
  rw [af]
  refine ap (fun _=>hbad _ _ (.inl rfl) f02) fun g4=>?_
  rw [aY,af]
  refine ap (fun g5=>?_) fun g5=>?_
  ·rcases he with ⟨rfl,_⟩ | rfl
   ·exact absurd rfl g5
   ·exact hbad _ _ (.inr rfl) f02
  rcases he with ⟨rfl,i0,i1⟩ | rfl
  ·rcases he2 with ⟨rfl,hkw,rfl⟩ | rfl
   ·refine ⟨_,_,_,hb2.cell 2,⟨by decide,by decide⟩,q,rfl,_,a2,_,hb2.cell 0,_,hb2.cell 1,_,_,_,hb2.cell 2,_,hb2.cell 1,rS (hK.nil f02) fun H4 hK4 f4=>?_⟩
    have f04:=gQ f02 f4
    have hb4:=hb2.fr f4 hbF
    have hr4:=hr.fr' f04 fun p hp=>by cases hp;exact ho
    have a4:=Rd.argc hr4 1 (by simp)
    have hi:i=((i.toNat:Nat):Int):=by omega
    rw [hi] at hK4 ⊢
    exact ⟨_,rfl,⟨⟨a4,trivial⟩,⟨hb4.cell 2,trivial⟩,trivial⟩,h i.toNat H4 (by omega) hkw ⟨by omega,by omega⟩ hK4 f04⟩
   ·exact absurd (by decide) g2
  ·exact absurd (by decide) g5
 by_cases hki:x / 2<1∨(y.size:Int)<x / 2
 ·rw [if_pos hki]
  unfold iE
  split
  ·rename_i hkw
   exact ⟨_,_,rfl,fin _ _ (.inr rfl) _ _ (.inl ⟨rfl,hkw,rfl⟩)⟩
  ·exact ⟨_,_,rfl,fin _ _ (.inr rfl) _ _ (.inr rfl)⟩
 ·rw [if_neg hki]
  unfold iE
  split
  ·rename_i hkw
   exact ⟨_,_,rfl,fin _ _ (.inl ⟨rfl,by omega,by omega⟩) _ _ (.inl ⟨rfl,hkw,rfl⟩)⟩
  ·exact ⟨_,_,rfl,fin _ _ (.inl ⟨rfl,by omega,by omega⟩) _ _ (.inr rfl)⟩
theorem wz (hK:PK H b F s t) (hv:KAllW s t v) (ho1:1<=dh s.h r∧dh s.h r<=65536){n:Nat} (hn:(cD s.h r).1=(n:Int)) (hn2:n<=100000) (hsame:∀ H',Fr [] H H'->Q (.tuple #[.int .i64 r,.int .i64 0]) H')
  (h:dh s.h r=10∨(dh s.h r=11∧n≠0)∨eb v (dh s.h r)=true->∀ H',PK H' b F (s.makeP (dh s.h r) (cD s.h r).2 (cx s.h r n)).2 t->Fr F H H'->Q (.tuple #[.int .i64 (s.makeP (dh s.h r) (cD s.h r).2 (cx s.h r n)).1.1,.int .i64 (s.makeP (dh s.h r) (cD s.h r).2 (cx s.h r n)).1.2]) H') :
  ac PP Cq #[cv b r a l c] Q H:=by
 have hlt:=hK.lt
 apply y6
 unfold Gc A0 iV pV lV cS;dsimp only [shH]
 have f:=Fr.push [] H (.cells (cc b r a l c) 138)
 have hb:=aV.new H (cc b r a l c) 138
 refine ⟨_,hb.cell 0,_,hb.cell 1,_,_,_,hb.cell 2,_,hb.cell 1,kr (hK.nil f) hv fun H1 f1=>⟨_,rfl,?_⟩⟩
 have f01:=f.trans f1
 have hb1:=hb.fr f1 (by simp)
 refine ⟨_,hb1.cell 0,_,hb1.cell 1,_,_,_,hb1.cell 2,_,hb1.cell 1,dG (hK.nil f01) fun H2 f2=>⟨_,_,rfl,?_⟩⟩
 have f02:=f01.trans f2
 have hb2:=hb1.fr f2 (by simp)
 have mk:∀ {H4:ae},Fr [] H H4->aV H4 H.size (cc b r a l c)->(dh s.h r=10∨(dh s.h r=11∧n≠0)∨eb v (dh s.h r)=true) ->
   ∃ p17:Option Addr,aa H4 (⟨H.size,0,none⟩:Addr)=some (.pointer p17)∧∃ n18:Int,aa H4 ((⟨H.size,0,none⟩:Addr).add 1)=some (.int .i64 n18)∧∃ a19:Option Addr,∃ l19:Nat,∃ c19:Nat,aa H4 ((⟨H.size,0,none⟩:Addr).add 2)=some (.slice a19 l19 c19)∧∃ p20:Option Addr,aa H4 (⟨H.size,0,none⟩:Addr)=some (.pointer p20)∧∃ n21:Int,aa H4 ((⟨H.size,0,none⟩:Addr).add 1)=some (.int .i64 n21)∧∃ a22:Option Addr,∃ l22:Nat,∃ c22:Nat,aa H4 ((⟨H.size,0,none⟩:Addr).add 2)=some (.slice a22 l22 c22)∧∃ n23:Int,aa H4 ((⟨H.size,0,none⟩:Addr).add 1)=some (.int .i64 n23) ∧
    ac PP rF #[.agg #[.pointer p20,.int .i64 n21,.slice a22 l22 c22],.int .i64 n23] (fun v24 H3=>∃ a25:Option Addr,∃ l25:Nat,∃ c25:Nat,v24=.slice a25 l25 c25∧((aa H3 (⟨H.size,0,none⟩:Addr)=some (.pointer p17)∧(aa H3 ((⟨H.size,0,none⟩:Addr).add 1)=some (.int .i64 n18)∧(aa H3 ((⟨H.size,0,none⟩:Addr).add 2)=some (.slice a19 l19 c19)∧True)))∧True) ∧
     ac PP rc #[.agg #[.pointer p17,.int .i64 n18,.slice a19 l19 c19],.int .i64 (dh s.h r),.int .i64 (cD s.h r).2,.slice a25 l25 c25] (fun v26 H4=>∃ n27:Int,∃ n28:Int,v26=.tuple #[.int .i64 n27,.int .i64 n28]∧True∧Q (.tuple #[.int .i64 n27,.int .i64 n28]) H4) H3) H4:=by
  intro H4 f4 hb4 hc
  refine ⟨_,hb4.cell 0,_,hb4.cell 1,_,_,_,hb4.cell 2,_,hb4.cell 0,_,hb4.cell 1,_,_,_,hb4.cell 2,_,hb4.cell 1,pu (hK.nil f4) hn (by omega) fun q H3 ho3 hq3 f3=>?_⟩
  have f03:=f4.trans f3
  have hb3:=hb4.fr f3 (by simp)
  refine ⟨_,_,_,rfl,⟨⟨hb3.cell 0,hb3.cell 1,hb3.cell 2,trivial⟩,trivial⟩,tf (hK.nil f03) ho1 ho3.rd (fun p hp hm=>?_) (by omega) fun H' hK' f'=>⟨_,_,rfl,trivial,h hc H' hK' (gQ f03 f')⟩⟩
  cases hp
  have:=hlt _ hm
  have:=f4.1
  simp only at *
  omega
 have other:∀ {H4:ae},Fr [] H H4->aV H4 H.size (cc b r a l c)->∃ p41:Option Addr,aa H4 (⟨H.size,0,none⟩:Addr)=some (.pointer p41)∧∃ n42:Int,aa H4 ((⟨H.size,0,none⟩:Addr).add 1)=some (.int .i64 n42)∧∃ a43:Option Addr,∃ l43:Nat,∃ c43:Nat,aa H4 ((⟨H.size,0,none⟩:Addr).add 2)=some (.slice a43 l43 c43)∧∃ n44:Int,aa H4 ((⟨H.size,0,none⟩:Addr).add 1)=some (.int .i64 n44) ∧
   ac PP xe #[.agg #[.pointer p41,.int .i64 n42,.slice a43 l43 c43],.int .i64 n44] (fun v45 H7=>∃ b46:Bool,v45=.bool b46∧cond b46 (∃ p17:Option Addr,aa H7 (⟨H.size,0,none⟩:Addr)=some (.pointer p17)∧∃ n18:Int,aa H7 ((⟨H.size,0,none⟩:Addr).add 1)=some (.int .i64 n18)∧∃ a19:Option Addr,∃ l19:Nat,∃ c19:Nat,aa H7 ((⟨H.size,0,none⟩:Addr).add 2)=some (.slice a19 l19 c19)∧∃ p20:Option Addr,aa H7 (⟨H.size,0,none⟩:Addr)=some (.pointer p20)∧∃ n21:Int,aa H7 ((⟨H.size,0,none⟩:Addr).add 1)=some (.int .i64 n21)∧∃ a22:Option Addr,∃ l22:Nat,∃ c22:Nat,aa H7 ((⟨H.size,0,none⟩:Addr).add 2)=some (.slice a22 l22 c22)∧∃ n23:Int,aa H7 ((⟨H.size,0,none⟩:Addr).add 1)=some (.int .i64 n23) ∧
    ac PP rF #[.agg #[.pointer p20,.int .i64 n21,.slice a22 l22 c22],.int .i64 n23] (fun v24 H3=>∃ a25:Option Addr,∃ l25:Nat,∃ c25:Nat,v24=.slice a25 l25 c25∧((aa H3 (⟨H.size,0,none⟩:Addr)=some (.pointer p17)∧(aa H3 ((⟨H.size,0,none⟩:Addr).add 1)=some (.int .i64 n18)∧(aa H3 ((⟨H.size,0,none⟩:Addr).add 2)=some (.slice a19 l19 c19)∧True)))∧True) ∧
     ac PP rc #[.agg #[.pointer p17,.int .i64 n18,.slice a19 l19 c19],.int .i64 (dh s.h r),.int .i64 (cD s.h r).2,.slice a25 l25 c25] (fun v26 H4=>∃ n27:Int,∃ n28:Int,v26=.tuple #[.int .i64 n27,.int .i64 n28]∧True∧Q (.tuple #[.int .i64 n27,.int .i64 n28]) H4) H3) H7) (∃ n59:Int,aa H7 ((⟨H.size,0,none⟩:Addr).add 1)=some (.int .i64 n59)∧Q (.tuple #[.int .i64 n59,.int .i64 0]) H7)) H4:=by
  intro H4 f4 hb4
  refine ⟨_,hb4.cell 0,_,hb4.cell 1,_,_,_,hb4.cell 2,_,hb4.cell 1,sW (hK.nil f4) hv fun H7 f7=>⟨_,rfl,?_⟩⟩
  have f07:=f4.trans f7
  have hb7:=hb4.fr f7 (by simp)
  cases hi:eb v (dh s.h r) with
  | true=>exact mk f07 hb7 (.inr (.inr hi))
  | false=>exact ⟨_,hb7.cell 1,hsame _ f07⟩
 rw [aX,af]
 refine ap (fun h10=>mk f02 hb2 (.inl h10)) fun _=>?_
 rw [aX,af]
 refine ap (fun h11=>?_) fun _=>other f02 hb2
 rw [hn,af]
 exact ap (fun h0=>mk f02 hb2 (.inr (.inl ⟨h11,by omega⟩))) fun _=>other f02 hb2
noncomputable def AJ (s:SP) (cls n f:Int):Int:=if (s.alloc cls n f).1.2=0 then (s.alloc cls n f).1.1 else 0
theorem wP (hK:PK H b F s t) (hv:KAllW s t v){o:Int} (hr4:r=4*o) (ho:1<=o∧o<=65536) (hbad:∀ H',Fr [] H H'->Q (.tuple #[.int .i64 0,.int .i64 170]) H')
  (h:∀ i,dw v o=some i->((i:Int)+1<=14->o=4)->∀ H',PK H' b F (s.alloc r ((bp v i).length:Int) 0).2 t->Fr F H H'->Q (.tuple #[.int .i64 (AJ s r ((bp v i).length:Int) 0),.int .i64 (s.alloc r ((bp v i).length:Int) 0).1.2]) H') :
  ac PP Ea #[cv b r a l c] Q H:=by
 apply Am
 unfold Iw A0 iV pV lV cS
 have f:=Fr.push [] H (.cells (cc b r a l c) 138)
 have hb:=aV.new H (cc b r a l c) 138
 refine ⟨_,hb.cell 1,fG (hK.nil f).kinds ?_⟩
 unfold iE
 rw [if_pos (by rw [hr4];exact fC ho.1 ho.2)]
 dsimp only
 rw [show r / 4=o by omega]
 refine ⟨_,_,rfl,_,hb.cell 0,pY (hK.nil f) hv fun H2 f2=>?_⟩
 have f02:=f.trans f2
 have hb2:=hb.fr f2 (by simp)
 cases hp:dw v o with
 | none =>
  exact ⟨_,_,rfl,fun _ _=>False,hbad _ f02,fun _ _ hf=>hf.elim⟩
 | some i =>
  refine ⟨_,_,rfl,fun w H'=>w=[]∧H'=H2∧((i:Int)+1<=14->o=4),?_,?_⟩
  ·rw [show ((0:Int) != 0)=false from rfl,cond_false,af]
   refine ap (fun h14=>?_) fun h14=>⟨rfl,rfl,fun h=>absurd h h14⟩
   rw [aY,af]
   exact ap (fun _=>hbad _ f02) fun h4=>⟨rfl,rfl,fun _=>Classical.byContradiction h4⟩
  rintro w H' ⟨rfl,rfl,hc⟩ _
  refine ⟨rfl,_,hb2.cell 0,uJ (hK.nil f02) hv (fun i' hi' a3 l3 c3 G H4 ho4 f4 _=>⟨_,_,_,_,rfl,?_⟩) (fun hn=>by rw [hp] at hn;cases hn)⟩
  rw [hp] at hi'
  cases hi'
  have f04:=f02.trans f4
  have hb4:=hb2.fr f4 (by simp)
  have hl3:l3=(bp v i).length:=by have:=ho4.len;simpa [bg] using this.symm
  subst hl3
  simp only [show ((0:Int) != 0)=false from rfl,cond_false]
  refine ⟨_,hb4.cell 0,_,hb4.cell 1,cG (hK.nil f04) fun sb F1 _ hS hsub _ hup=>⟨_,rfl,⟨⟨hb4.cell 1,trivial⟩,trivial⟩,fI hS fun H6 hS6 f6=>⟨_,_,rfl,trivial,h i hp hc H6 (hup H6 _ hS6 f6) (gQ f04 (f6.mono hsub))⟩⟩⟩
theorem u9 (hK:PK H b F s t){o:Int} (hr4:r=4*o) (ho:1<=o∧o<=65536) (hr:Rd 1 H (some q) l (ag [x])) (hbad:∀ H',Fr [] H H'->Q (.tuple #[.int .i64 0,.int .i64 170]) H') (hempty:∀ H',Fr [] H H'->Q (.tuple #[.int .i64 72,.int .i64 0]) H')
  (h:∀ n fm:Int,(o=10∧fm=1)∨(o=11∧fm=0∧n≠0)->0<=n∧n<=8192->∀ H',PK H' b F (s.alloc r n fm).2 t->Fr F H H'->Q (.tuple #[.int .i64 (AJ s r n fm),.int .i64 (s.alloc r n fm).1.2]) H') :
  ac PP Ek #[cv b r (some q) l c] Q H:=by
 have hlen:l=1:=by have:=hr.1;simpa [ag] using this.symm
 subst hlen
 apply x8
 unfold KR A0 iV pV lV cS
 have f:=Fr.push [] H (.cells (cc b r (some q) 1 c) 138)
 have hb:=aV.new H (cc b r (some q) 1 c) 138
 have a0:=Rd.argc (Rd.nilF hr f) 0 (by simp)
 have hK1:=hK.nil f
 refine ⟨_,hb.cell 1,fG hK1.kinds ?_⟩
 unfold iE
 rw [if_pos (by rw [hr4];exact fC ho.1 ho.2)]
 dsimp only
 rw [show r / 4=o by omega]
 refine ⟨_,_,rfl,_,_,_,hb.cell 2,⟨by decide,by decide⟩,q,rfl,_,a0,lP hK1.kinds ?_⟩
 have pair:∃ n e:Int,iE 1 (· / 2) ([x].getD 0 0)=.tuple #[.int .i64 n,.int .i64 e]:=by
  unfold iE
  split
  ·exact ⟨_,_,rfl⟩
  ·exact ⟨_,_,rfl⟩
 obtain ⟨n,e,hp⟩:=pair
 rw [hp]
 refine ⟨_,_,rfl,fun w H'=>H'=H.push (.cells (cc b r (some q) 1 c) 138)∧∃ z:Bool,w=[.bool z]∧(z=false->(o=10∨o=11)∧0<=n∧n<=8192),?_,?_⟩
 ·have tail:(o=10∨o=11)->cond (e != 0) ((fun (w:List Value) H'=>H'=H.push (.cells (cc b r (some q) 1 c) 138)∧∃ z:Bool,w=[.bool z]∧(z=false->(o=10∨o=11)∧0<=n∧n<=8192)) [.bool true] (H.push (.cells (cc b r (some q) 1 c) 138)))
    (cond (decide (n<0)) ((fun (w:List Value) H'=>H'=H.push (.cells (cc b r (some q) 1 c) 138)∧∃ z:Bool,w=[.bool z]∧(z=false->(o=10∨o=11)∧0<=n∧n<=8192)) [.bool true] (H.push (.cells (cc b r (some q) 1 c) 138)))
     ((fun (w:List Value) H'=>H'=H.push (.cells (cc b r (some q) 1 c) 138)∧∃ z:Bool,w=[.bool z]∧(z=false->(o=10∨o=11)∧0<=n∧n<=8192)) [.bool (decide (n > 8192))] (H.push (.cells (cc b r (some q) 1 c) 138)))):=by
   intro ho2
   rw [aY,af]
   refine ap (fun _=>⟨rfl,true,rfl,fun h=>by cases h⟩) fun _=>?_
   rw [af]
   refine ap (fun _=>⟨rfl,true,rfl,fun h=>by cases h⟩) fun h0=>⟨rfl,_,rfl,fun hz=>⟨ho2,by omega,?_⟩⟩
   have:=of_decide_eq_false hz
   omega
  rw [aY,af]
  refine ap (fun _=>?_) fun h10=>tail (.inl (Classical.byContradiction h10))
  rw [aY,af]
  exact ap (fun _=>⟨rfl,true,rfl,fun h=>by cases h⟩) fun h11=>tail (.inr (Classical.byContradiction h11))
 rintro w H' ⟨rfl,z,rfl,hz⟩ _
 refine ⟨_,rfl,?_⟩
 cases z with
 | true=>exact hbad _ f
 | false =>
  obtain ⟨ho2,n0,n1⟩:=hz rfl
  rw [cond_false,aX,af]
  refine ap (fun h10=>?_) fun h10=>?_
  ·exact ⟨_,hb.cell 0,_,hb.cell 1,cG hK1 fun sb F1 _ hS hsub _ hup=>⟨_,rfl,⟨⟨hb.cell 1,trivial⟩,trivial⟩,fI hS fun H3 hS3 f3=>⟨_,_,rfl,trivial,h n 1 (.inl ⟨h10,rfl⟩) ⟨n0,n1⟩ H3 (hup H3 _ hS3 f3) (gQ f (f3.mono hsub))⟩⟩⟩
  ·rw [aX,af]
   refine ap (fun hn0=>ky ⟨by decide,by decide⟩ ⟨_,_,rfl,hempty _ f⟩) fun hn0=>?_
   exact ⟨_,hb.cell 0,_,hb.cell 1,cG hK1 fun sb F1 _ hS hsub _ hup=>⟨_,rfl,⟨⟨hb.cell 1,trivial⟩,trivial⟩,fI hS fun H3 hS3 f3=>⟨_,_,rfl,trivial,h n 0 (.inr ⟨by omega,rfl,hn0⟩) ⟨n0,n1⟩ H3 (hup H3 _ hS3 f3) (gQ f (f3.mono hsub))⟩⟩⟩
end
attribute [local irreducible] bf bR cn o7 mq vu wn wT vj G8 we jS eG
theorem vx {es:List PE}{x:ByteArray}{n:Int}{p:PF} (h:d8 es x=some (n,p)):(x,n,p)∈es:=by
 induction es with
 | nil=>cases h
 | cons e es ih =>
  unfold d8 at h
  split at h
  ·rename_i hx
   have h2:=Option.some.inj h
   have:e=(x,n,p):=Prod.ext hx.symm h2
   rw [this]
   simp
  ·exact List.mem_cons_of_mem _ (ih h)
theorem lC {w:Int} (h:aD w=1):w=2*(w / 2)+1∧mn (w / 2)∧eT w=w / 2:=by
 have:=aS w
 refine ⟨by omega,⟨by omega,by omega⟩,?_⟩
 unfold eT
 rw [if_pos h]
theorem wA {xs:List Int} (h:∀ w∈xs,0<=w∧w<=255):∃ y:ByteArray,bk y=xs:=by
 refine ⟨⟨(xs.map fun w=>UInt8.ofNat w.toNat).toArray⟩,?_⟩
 unfold bk
 simp only [List.map_map]
 rw [List.map_congr_left (g:=id) (fun w hw=>?_),List.map_id]
 have:=h w hw
 simp only [Function.comp_apply,id]
 rw [UInt8.toNat_ofNat_of_lt' (by show w.toNat<256;omega)]
 omega
section
variable {s:SP}{t:TB}{v:KV}{G:Int->Prop}
theorem nr (hv:KAllW s t v){k c:Int}{l:List Int} (h:ob s.h k=some (c,1,l)):(∀ w∈l,0<=w∧w<=255)∧l.length<=8192:=by
 obtain ⟨o,ho,_,hf,rfl⟩:=bA.1 h
 have hg:=hv.ks.wf.h.objs.good o (au ho).1
 refine ⟨fun w hw=>?_,hg.many⟩
 have hm:=hg.may w hw
 unfold eO at hm
 rw [if_pos hf] at hm
 exact hm
theorem oR (hU:UI s v G){o:Int}{i:Nat} (h:dw v o=some i) (ho:1<=o∧o<=65536):jB s v G (4*o)∧(SL s.h (4*o)).head?=some 48:=by
 obtain ⟨hi,e⟩:=dm h
 have hm:v.cls[i]∈v.cls:=List.getElem_mem hi
 obtain ⟨f,l,hx⟩:=hU.base ((v.cls[i]).oop,48) (by
  unfold bO
  simp only [List.mem_cons,List.mem_map]
  exact .inr (.inr (.inr (.inr ⟨v.cls[i],hm,rfl⟩))))
 have e4:(4*o) / 4=o:=by omega
 have hk:aD (4*o)=3:=fC ho.1 ho.2
 simp only [e] at hx
 refine ⟨⟨bB ho.1 ho.2,fun _=>?_⟩,?_⟩
 ·rw [e4]
  exact ⟨by rw [hx];simp,.inr (.inr (.inr (.inr (.inl ⟨_,hm,e⟩))))⟩
 ·unfold SL
  rw [if_pos hk,e4,hx]
  rfl
theorem fV {c:Int} (hp:PairV v) (h:mm v c) (hc:aD c=3):c / 4=11∨(c / 4=4)∨∃ i,dw v (c / 4)=some i∧14<=i:=by
 rcases h with rfl | ⟨o,i,rfl,h1,h2⟩
 ·exact .inl rfl
 ·have:(4*o) / 4=o:=by omega
  rw [this]
  rcases h2 with rfl | h2
  ·exact .inr (.inl rfl)
  ·exact .inr (.inr ⟨i,h1,h2⟩)
theorem hZ (hp:PairV v):dw v 4=some 0∧dw v 5=some 1∧dw v 6=some 2∧dw v 7=some 3∧dw v 8=some 4∧dw v 9=some 5∧dw v 10=some 6∧dw v 11=some 7∧dw v 12=some 8∧dw v 14=some 10∧dw v 17=some 13:=hp.pl
theorem jh (hU:UI s v G) (hv:KAllW s t v) (hp:PairV v){w:Int} (hw:jB s v G w):(aD w=1∧dh s.h w=8)∨(aD w=2∧dh s.h w=9) ∨
  (aD w=3∧∃ c f l,ob s.h (w / 4)=some (c,f,l)∧aD c=3∧dh s.h w=c / 4∧((c=20∨c=24∨c=28)∨(w=72∧c=44∧l=[])∨(c=48∧f=0∧∃ i,∃ hi:i<v.cls.length,w / 4=(v.cls[i]).oop∧l=(v.cls[i]).slots i)∨(G (w / 4)∧((f=1∧c=40)∨(f=0∧mm v c∧∀ w∈l,jB s v G w))))):=by
 have h0:aD w=1∨aD w=2∨aD w=3:=by
  have h1:=hw.1
  have:=aS w
  unfold cR at h1
  omega
 rcases h0 with h | h | h
 ·obtain ⟨e,hin,_⟩:=lC h
  refine .inl ⟨h,?_⟩
  rw [e,oJ hin]
 ·have e:w=4*(w / 4)+2∧0<=w / 4∧w / 4<4096:=by have:=aS w;omega
  refine .inr (.inl ⟨h,?_⟩)
  have eo:uM s.h w=(9,0):=by
   unfold uM
   rw [if_neg (by omega),if_pos h]
  unfold dh
  rw [eo]
  rfl
 ·obtain ⟨c,f,l,hx,hc⟩:=hU.cases hv.ks hw h
  have hc3:aD c=3:=by
   obtain ⟨o,ho,rfl,_,_⟩:=bA.1 hx
   exact hv.ks.gc o (au ho).1
  exact .inr (.inr ⟨h,c,f,l,hx,hc3,Ho h hx hc3,hc⟩)
theorem Ck (hU:UI s v G) (hv:KAllW s t v) (hp:PairV v){w:Int} (hw:jB s v G w):(∃ i,dw v (dh s.h w)=some i)∧1<=dh s.h w∧dh s.h w<=65536:=by
 obtain ⟨p4,p5,p6,p7,p8,p9,p10,p11,p12,_⟩:=hZ hp
 rcases jh hU hv hp hw with ⟨_,e⟩ | ⟨_,e⟩ | ⟨_,c,f,l,hx,hc3,e,hc⟩
 ·rw [e];exact ⟨⟨_,p8⟩,by decide,by decide⟩
 ·rw [e];exact ⟨⟨_,p9⟩,by decide,by decide⟩
 ·rw [e]
  refine ⟨?_,(ck hc3).2.1,(ck hc3).2.2⟩
  rcases hc with (rfl | rfl | rfl) | ⟨_,rfl,_⟩ | ⟨rfl,_⟩ | ⟨_,⟨_,rfl⟩ | ⟨_,ho,_⟩⟩
  ·exact ⟨_,p5⟩
  ·exact ⟨_,p6⟩
  ·exact ⟨_,p7⟩
  ·exact ⟨_,p11⟩
  ·exact ⟨_,p12⟩
  ·exact ⟨_,p10⟩
  ·rcases fV hp ho hc3 with e | e | ⟨i,e,_⟩
   ·rw [e];exact ⟨_,p11⟩
   ·rw [e];exact ⟨_,p4⟩
   ·exact ⟨_,e⟩
theorem ij (hU:UI s v G) (hv:KAllW s t v) (hp:PairV v){w:Int} (hw:jB s v G w) (hi:eb v (dh s.h w)=true):aD w=3∧∃ c l,ob s.h (w / 4)=some (c,0,l)∧aD c=3∧dh s.h w=c / 4∧G (w / 4)∧mm v c∧∀ z∈l,jB s v G z:=by
 obtain ⟨p4,p5,p6,p7,p8,p9,p10,p11,p12,_⟩:=hZ hp
 unfold eb at hi
 rcases jh hU hv hp hw with ⟨_,e⟩ | ⟨_,e⟩ | ⟨h3,c,f,l,hx,hc3,e,hc⟩
 ·rw [e,p8] at hi;exact absurd hi (by decide)
 ·rw [e,p9] at hi;exact absurd hi (by decide)
 ·rcases hc with (rfl | rfl | rfl) | ⟨_,rfl,_⟩ | ⟨rfl,_⟩ | ⟨hG,⟨_,rfl⟩ | ⟨rfl,ho,hl⟩⟩
  ·rw [e,show (20:Int) / 4=5 from rfl,p5] at hi;exact absurd hi (by decide)
  ·rw [e,show (24:Int) / 4=6 from rfl,p6] at hi;exact absurd hi (by decide)
  ·rw [e,show (28:Int) / 4=7 from rfl,p7] at hi;exact absurd hi (by decide)
  ·rw [e,show (44:Int) / 4=11 from rfl,p11] at hi;exact absurd hi (by decide)
  ·rw [e,show (48:Int) / 4=12 from rfl,p12] at hi;exact absurd hi (by decide)
  ·rw [e,show (40:Int) / 4=10 from rfl,p10] at hi;exact absurd hi (by decide)
  ·exact ⟨h3,c,l,hx,hc3,e,hG,ho,hl⟩
theorem vF {r:RH}{w c f:Int}{l:List Int} (h3:aD w=3) (hx:ob r (w / 4)=some (c,f,l)):cx r w l.length=l:=by
 apply List.ext_getElem?
 intro i
 unfold cx
 by_cases hi:i<l.length
 ·rw [List.getElem?_map,List.getElem?_range hi]
  simp only [Option.map_some]
  rw [jC h3 hx (by omega) (by omega)]
  simp [hi]
 ·rw [List.getElem?_eq_none (by simp;omega),List.getElem?_eq_none (by omega)]
theorem js {n x:Int} (h:(bl n x).2=0):0<=(bl n x).1∧(bl n x).1<n:=by
 unfold bl at h ⊢
 split
 ·rename_i h1;rw [if_pos h1] at h;cases h
 ·rename_i h1
  rw [if_neg h1] at h
  split
  ·rename_i h2;rw [if_pos h2] at h;cases h
  ·simp only;omega
theorem qb {l:List Int}{i:Int} (h0:0<=i) (h1:i<l.length):l.getD i.toNat 0∈l:=by
 have hi:i.toNat<l.length:=by omega
 rw [List.getD_eq_getElem?_getD,List.getElem?_eq_getElem hi]
 exact List.getElem_mem hi
theorem rW (hv:KAllW s t v){w:Int}{l:List Int} (h3:aD w=3) (hx:ob s.h (w / 4)=some (40,1,l)):∃ y,l=bk y∧kk s.h (w / 4) (bk y)∧y.size<=8192:=by
 obtain ⟨h1,h2⟩:=nr hv hx
 obtain ⟨y,hy⟩:=wA h1
 have hl:=fc y
 refine ⟨y,hy.symm,?_,by rw [←hl,hy];exact h2⟩
 obtain ⟨o,a1,a2,a3,a4⟩:=bA.1 hx
 exact ⟨o,a1,a3,a2,by rw [a4,hy]⟩
theorem uA (hv:KAllW s t v) (n:Int):(mj t n).size<=96:=by
 unfold mj
 split
 ·exact (hv.names.wf.good _ (List.getElem_mem _)).2
 ·decide
end
end Go.Proofs.YtgjfejoohojokaaGreatDoor
namespace Go.Proofs.YtgjfejoohojokaaGreatDoor
open Kw
attribute [local irreducible] bf bR cn o7 mq vu wn wT vj G8 we jS eG
section
variable {H:ae}{b:Nat}{F:az}{s:SP}{t:TB}{v:KV}{G:Int->Prop}{Q:QT}{r x:Int}{a:Option Addr}{q:Addr}{l c:Nat}{k:Int}{y:ByteArray}{ar:List Int}{n:Int}{p:PF}{n0 rr f:Nat}{g hh:Array Value}{sel:ByteArray}
theorem bu {f0:Nat} (hq:ll H n0 rr (.fn f0) (.func (.func f) g hh)) (h:ac PP f0 #[cv b r a l c] Q H):ac PP f ((g++#[cv b r a l c])++hh) Q H:=by
 have hq:(Value.func (.func f) g hh)=.func (.func f0) #[] #[]:=hq
 cases hq
 exact h
theorem wD {f0 g0:Nat} (hq:ll H n0 rr (.clo f0 g0) (.func (.func f) g hh)) (h:∀ m,aV H m #[.func (.func g0) #[] #[]]->ac PP f0 #[cv b r a l c,.pointer (some ⟨m,0,none⟩)] Q H):ac PP f ((g++#[cv b r a l c])++hh) Q H:=by
 obtain ⟨m,e,hB,_⟩:=hq
 cases e
 exact h m hB
theorem sP {f0:Nat}{i:Int} (hq:ll H n0 rr (.slot f0 i) (.func (.func f) g hh)) (h:∀ m,aV H m #[.int .i64 i]->ac PP f0 #[cv b r a l c,.pointer (some ⟨m,0,none⟩)] Q H):ac PP f ((g++#[cv b r a l c])++hh) Q H:=by
 obtain ⟨m,e,hB,_⟩:=hq
 cases e
 exact h m hB
theorem bQ (hr:Rd 1 H a l (ag ar)) (hn:(ar.length:Int)=1):∃ q y,a=some q∧ar=[y]:=by
 have hlen:l=ar.length:=by have:=hr.1;simpa [ag] using this.symm
 cases a with
 | none=>have:=hr.2.1 rfl;omega
 | some q =>
  match ar,hn with
  | [y],_=>exact ⟨q,y,rfl,rfl⟩
theorem oG (hr:Rd 1 H a l (ag ar)) (hn:(ar.length:Int)=2):∃ q y z,a=some q∧ar=[y,z]:=by
 have hlen:l=ar.length:=by have:=hr.1;simpa [ag] using this.symm
 cases a with
 | none=>have:=hr.2.1 rfl;omega
 | some q =>
  match ar,hn with
  | [y,z],_=>exact ⟨q,y,z,rfl,rfl⟩
  | [],h=>simp at h
  | [_],h=>simp at h
  | _ :: _ :: _ :: _,h=>simp at h;omega
theorem oT (hv:KAllW s t v){k c f:Int}{l:List Int} (h:ob s.h k=some (c,f,l)):l.length<=8192:=by
 obtain ⟨o,ho,_,hf,rfl⟩:=bA.1 h
 exact (hv.ks.wf.h.objs.good o (au ho).1).many
theorem Lz (hK:PK H b F s t) (hv:KAllW s t v) (hU:UI s v G) (hp:PairV v) (hr:Rd 1 H a l (ag ar)) (ho:∀ p,a=some p->p.block∉F) (hrs:r∈s.stack) (has:∀ w∈ar,w∈s.stack)
  (K:∀ {res:Int × Int}{s':SP}{t':TB}{H':ae}{F':az},QR s t v sel r res s' t'->PK H' b F' s' t'->Up F H F' H'->Q (.tuple #[.int .i64 res.1,.int .i64 res.2]) H') (hm:(sel,n,p)∈rZ) (hn:(ar.length:Int)=n) (hq:ll H n0 rr p (.func (.func f) g hh)) :
  ac PP f ((g++#[cv b r a l c])++hh) Q H:=by
 have fin:∀ {res:Int × Int}{Hb:ae},QR s t v sel r res s t->Fr [] H Hb->Q (.tuple #[.int .i64 res.1,.int .i64 res.2]) Hb:=fun q f2=>K q (hK.nil f2) (Up.of_nil f2)
 have finF:∀ {res:Int × Int}{s':SP}{t':TB}{Hb:ae},QR s t v sel r res s' t'->PK Hb b F s' t'->Fr F H Hb->Q (.tuple #[.int .i64 res.1,.int .i64 res.2]) Hb:=fun q hk f2=>K q hk ⟨f2,fun y hy=>.inl hy⟩
 have hrw:=hU.st r hrs
 obtain ⟨⟨ic,hic⟩,hof1⟩:=Ck hU hv hp hrw
 simp only [rZ,List.mem_cons,Prod.mk.injEq,List.not_mem_nil,or_false] at hm
 rcases hm with ⟨rfl,rfl,rfl⟩ | ⟨rfl,rfl,rfl⟩ | ⟨rfl,rfl,rfl⟩ | ⟨rfl,rfl,rfl⟩ | ⟨rfl,rfl,rfl⟩ | ⟨rfl,rfl,rfl⟩ | ⟨rfl,rfl,rfl⟩ | ⟨rfl,rfl,rfl⟩ | ⟨rfl,rfl,rfl⟩ | ⟨rfl,rfl,rfl⟩ | ⟨rfl,rfl,rfl⟩ | ⟨rfl,rfl,rfl⟩
 ·obtain ⟨q,y,rfl,rfl⟩:=bQ hr hn
  exact bu hq (nK hr fun _ f2=>fin (QR.tw hv hU _) f2)
 ·obtain ⟨q,y,rfl,rfl⟩:=bQ hr hn
  exact bu hq (nK hr fun _ f2=>fin (QR.tw hv hU _) f2)
 ·obtain ⟨q,y,rfl,rfl⟩:=bQ hr hn
  exact bu hq (pz hr fun _ f2=>fin (QR.tw hv hU _) f2)
 ·obtain ⟨c1,c2⟩:=oR hU hic hof1
  exact bu hq (vz hK hv hof1 fun _ f2=>fin (res:=(4*dh s.h r,0)) (QR.look hv hU (fun h=>absurd rfl h) (fun _=>c1) fun _=>.inr (.inr (.inl c2))) f2)
 ·exact bu hq (vX fun _ f2=>fin (QR.tw hv hU _) f2)
 ·exact bu hq (tT fun _ f2=>fin (QR.tw hv hU _) f2)
 ·exact bu hq (zM fun _ f2=>fin (QR.known hv hU hrs) f2)
 ·obtain ⟨q,y,rfl,rfl⟩:=bQ hr hn
  exact bu hq (ud hK hv hr (fun _ f2=>fin (QR.fail hv hU (by decide)) f2) fun z _ f2=>fin (QR.tw hv hU z) f2)
 ·exact bu hq (uG hK hv fun _ f2=>fin (QR.int hv hU _) f2)
 ·obtain ⟨q,y,rfl,rfl⟩:=bQ hr hn
  refine bu hq (sq hK hv hr (ho q rfl) (fun h0 _ f2=>fin (QR.fail hv hU h0) f2) (fun h0 _ _ f2=>?_) fun _ y' ws' hw=>by cases hw)
  obtain ⟨i0,i1⟩:=js h0
  generalize (bl (cu s.h v r) y).1=i at i0 i1 ⊢
  unfold cu at i1
  cases hi:eb v (dh s.h r) with
  | false=>rw [hi] at i1;simp at i1;omega
  | true =>
   rw [hi] at i1
   obtain ⟨h3,c',l',hx,_,_,hG,_,hl'⟩:=ij hU hv hp hrw hi
   simp only [if_true] at i1
   rw [jX h3 hx] at i1
   have es:=jC h3 hx i0 i1
   refine fin (res:=(dL s.h r i,0)) (QR.look hv hU (fun h=>absurd rfl h) (fun _=>?_) fun _=>.inr (.inr (.inr (.inr (.inr (.inr (.inl rfl))))))) f2
   simp only
   rw [es]
   exact hl' _ (qb i0 i1)
 ·obtain ⟨q,y,z,rfl,rfl⟩:=oG hr hn
  refine bu hq (sq hK hv hr (ho q rfl) (fun h0 _ f2=>fin (QR.fail hv hU h0) f2) (fun _ hw=>by cases hw) fun h0 y' ws' hw H' hK' f2=>?_)
  cases hw
  obtain ⟨i0,i1⟩:=js h0
  generalize (bl (cu s.h v r) y).1=i at i0 i1 hK' ⊢
  unfold cu at i1
  cases hi:eb v (dh s.h r) with
  | false=>rw [hi] at i1;simp at i1;omega
  | true =>
   rw [hi] at i1
   obtain ⟨h3,c',l',hx,_,_,hG,_,hl'⟩:=ij hU hv hp hrw hi
   simp only [if_true] at i1
   rw [jX h3 hx] at i1
   have hz:z∈s.stack:=has z (by simp)
   exact finF (QR.put hv hU (.inr rfl) h3 hG hx ⟨i0,i1⟩ (fun h=>by cases h) (fun _=>hU.st z hz) hz) hK' f2
 ·have step:∀ m:Nat,(cD s.h r).1=(m:Int)->m<=100000->(dh s.h r=10∨(dh s.h r=11∧m≠0)∨eb v (dh s.h r)=true->QR s t v ⟨#[99,111,112,121]⟩ r (s.makeP (dh s.h r) (cD s.h r).2 (cx s.h r m)).1 (s.makeP (dh s.h r) (cD s.h r).2 (cx s.h r m)).2 t)->ac PP f ((g++#[cv b r a l c])++hh) Q H:=fun m h1 h2 hmk =>
   bu hq (wz hK hv hof1 h1 h2 (fun _ f2=>fin (QR.known hv hU hrs) f2) fun hc H' hK' f2=>finF (hmk hc) hK' f2)
  obtain ⟨p4,p5,p6,p7,p8,p9,p10,p11,p12,_⟩:=hZ hp
  rcases jh hU hv hp hrw with ⟨h1,e⟩ | ⟨h1,e⟩ | ⟨h3,c',f',l',hx,hc3,e,hc⟩
  ·refine step 0 ?_ (by decide) fun hc=>?_
   ·unfold cD;rw [if_neg (by omega)];rfl
   ·rcases hc with hc | hc | hc
    ·omega
    ·omega
    ·have:=(ij hU hv hp hrw hc).1;omega
  ·refine step 0 ?_ (by decide) fun hc=>?_
   ·unfold cD;rw [if_neg (by omega)];rfl
   ·rcases hc with hc | hc | hc
    ·omega
    ·omega
    ·have:=(ij hU hv hp hrw hc).1;omega
  ·have hlm:=oT hv hx
   refine step l'.length (by rw [jX h3 hx]) (by omega) fun hmk=>?_
   rw [vF h3 hx,jX h3 hx]
   have hreach:=hU.reach hrs h3
   have hown:f'=0->mm v c'->(∀ w∈l',jB s v G w)->QR s t v ⟨#[99,111,112,121]⟩ r (s.makeP (dh s.h r) f' l').1 (s.makeP (dh s.h r) f' l').2 t:=fun hf hO hl=>by
    subst hf
    refine QR.made hv hU (.inl rfl) hof1 (.inr ⟨rfl,?_,fun w hw=>⟨hl w hw,fun hk=>iP hreach hx hw hk ((hl w hw).2 hk).1⟩⟩)
    rw [e]
    have:=ck hc3
    rw [←this.1]
    exact hO
   rcases hc with (rfl | rfl | rfl) | ⟨_,rfl,hl0⟩ | ⟨rfl,_⟩ | ⟨_,⟨rfl,rfl⟩ | ⟨hf,hO,hl⟩⟩
   ·rcases hmk with hc | hc | hc
    ·omega
    ·omega
    ·unfold eb at hc;rw [e,show (20:Int) / 4=5 from rfl,p5] at hc;exact absurd hc (by decide)
   ·rcases hmk with hc | hc | hc
    ·omega
    ·omega
    ·unfold eb at hc;rw [e,show (24:Int) / 4=6 from rfl,p6] at hc;exact absurd hc (by decide)
   ·rcases hmk with hc | hc | hc
    ·omega
    ·omega
    ·unfold eb at hc;rw [e,show (28:Int) / 4=7 from rfl,p7] at hc;exact absurd hc (by decide)
   ·rcases hmk with hc | hc | hc
    ·omega
    ·rw [hl0] at hc;simp at hc
    ·unfold eb at hc;rw [e,show (44:Int) / 4=11 from rfl,p11] at hc;exact absurd hc (by decide)
   ·rcases hmk with hc | hc | hc
    ·omega
    ·omega
    ·unfold eb at hc;rw [e,show (48:Int) / 4=12 from rfl,p12] at hc;exact absurd hc (by decide)
   ·exact QR.made hv hU (.inl rfl) hof1 (.inl ⟨rfl,by rw [e];rfl,(nr hv hx).1⟩)
   ·exact hown hf hO hl
theorem K7 (hK:PK H b F s t) (hv:KAllW s t v) (hU:UI s v G) (hr:Rd 1 H a l (ag ar))
  (K:∀ {res:Int × Int}{s':SP}{t':TB}{H':ae}{F':az},QR s t v sel r res s' t'->PK H' b F' s' t'->Up F H F' H'->Q (.tuple #[.int .i64 res.1,.int .i64 res.2]) H') (hm:(sel,n,p)∈qo) (hn:(ar.length:Int)=n) (hq:ll H n0 rr p (.func (.func f) g hh)) :
  ac PP f ((g++#[cv b r a l c])++hh) Q H:=by
 have fin:∀ {res:Int × Int}{Hb:ae},QR s t v sel r res s t->Fr [] H Hb->Q (.tuple #[.int .i64 res.1,.int .i64 res.2]) Hb:=fun q f2=>K q (hK.nil f2) (Up.of_nil f2)
 simp only [qo,List.mem_cons,Prod.mk.injEq,List.not_mem_nil,or_false] at hm
 rcases hm with ⟨rfl,rfl,rfl⟩ | ⟨rfl,rfl,rfl⟩ | ⟨rfl,rfl,rfl⟩ | ⟨rfl,rfl,rfl⟩
 ·exact bu hq (B5 fun _ f2=>fin (QR.tw hv hU _) f2)
 ·obtain ⟨q,y,rfl,rfl⟩:=bQ hr hn
  exact bu hq (wi hr (fun _ f2=>fin (QR.fail hv hU (by decide)) f2) fun z _ f2=>fin (QR.tw hv hU z) f2)
 ·obtain ⟨q,y,rfl,rfl⟩:=bQ hr hn
  exact bu hq (wi hr (fun _ f2=>fin (QR.fail hv hU (by decide)) f2) fun z _ f2=>fin (QR.tw hv hU z) f2)
 ·obtain ⟨q,y,rfl,rfl⟩:=bQ hr hn
  exact bu hq (Ia hr (fun _ f2=>fin (QR.fail hv hU (by decide)) f2) fun z _ f2=>fin (QR.tw hv hU z) f2)
theorem Le (hK:PK H b F s t) (hv:KAllW s t v) (hU:UI s v G) (ht:d7 H) (hr:Rd 1 H a l (ag ar)) (hk:aD r=1) (hrs:r∈s.stack)
  (K:∀ {res:Int × Int}{s':SP}{t':TB}{H':ae}{F':az},QR s t v sel r res s' t'->PK H' b F' s' t'->Up F H F' H'->Q (.tuple #[.int .i64 res.1,.int .i64 res.2]) H') (hm:(sel,n,p)∈se) (hn:(ar.length:Int)=n) (hq:ll H n0 rr p (.func (.func f) g hh)) :
  ac PP f ((g++#[cv b r a l c])++hh) Q H:=by
 have fin:∀ {res:Int × Int}{Hb:ae},QR s t v sel r res s t->Fr [] H Hb->Q (.tuple #[.int .i64 res.1,.int .i64 res.2]) Hb:=fun q f2=>K q (hK.nil f2) (Up.of_nil f2)
 have finF:∀ {res:Int × Int}{s':SP}{t':TB}{Hb:ae},QR s t v sel r res s' t'->PK Hb b F s' t'->Fr F H Hb->Q (.tuple #[.int .i64 res.1,.int .i64 res.2]) Hb:=fun q hk f2=>K q hk ⟨f2,fun y hy=>.inl hy⟩
 obtain ⟨er,hin,en⟩:=lC hk
 have num:∀ {g0:Nat}{f0:Int->Int->Int × Int},tJ g0 f0->n=1->ll H n0 rr (.clo rL g0) (.func (.func f) g hh)->ac PP f ((g++#[cv b r a l c])++hh) Q H:=fun {g0 f0} hg h1 hq=>by
  obtain ⟨q,y,rfl,rfl⟩:=bQ hr (hn.trans h1)
  refine wD hq fun m hB=>kV hK hr hB (fun _ _ f2=>fin (QR.fail hv hU (by decide)) f2) fun hky H2 f2=>?_
  rw [en]
  obtain ⟨_,hiny,_⟩:=lC hky
  refine hg _ _ hin hiny ⟨_,_,rfl,?_⟩
  rw [aY,af]
  refine ap (fun h0=>fin (res:=(0,(f0 (r / 2) (y / 2)).2)) (QR.fail hv hU h0) f2) fun h0=>iT ⟨_,_,rfl,fin (QR.int hv hU _) f2⟩
 have cmp:∀ {g0:Nat}{f0:Int->Int->Bool},(∀ (n m:Int){H:ae}{Q:QT},Q (.bool (f0 n m)) H->ac PP g0 #[.int .i64 n,.int .i64 m] Q H)->n=1->ll H n0 rr (.clo vk g0) (.func (.func f) g hh)->ac PP f ((g++#[cv b r a l c])++hh) Q H:=fun {g0 f0} hg h1 hq=>by
  obtain ⟨q,y,rfl,rfl⟩:=bQ hr (hn.trans h1)
  exact wD hq fun m hB=>qq hK hr hB hg (fun _ _ f2=>fin (QR.fail hv hU (by decide)) f2) fun _ _ f2=>fin (QR.tw hv hU _) f2
 simp only [se,List.mem_cons,Prod.mk.injEq,List.not_mem_nil,or_false] at hm
 rcases hm with ⟨rfl,h1,rfl⟩ | ⟨rfl,h1,rfl⟩ | ⟨rfl,h1,rfl⟩ | ⟨rfl,h1,rfl⟩ | ⟨rfl,h1,rfl⟩ | ⟨rfl,h1,rfl⟩ | ⟨rfl,h1,rfl⟩ | ⟨rfl,h1,rfl⟩ | ⟨rfl,h1,rfl⟩ | ⟨rfl,h1,rfl⟩ | ⟨rfl,h1,rfl⟩ | ⟨rfl,h1,rfl⟩ | ⟨rfl,h1,rfl⟩ | ⟨rfl,h1,rfl⟩ | ⟨rfl,h1,rfl⟩ | ⟨rfl,h1,rfl⟩ | ⟨rfl,h1,rfl⟩ | ⟨rfl,h1,rfl⟩ | ⟨rfl,h1,rfl⟩ | ⟨rfl,h1,rfl⟩ | ⟨rfl,h1,rfl⟩ | ⟨rfl,h1,rfl⟩
 ·exact num wK h1 hq
 ·exact num uW h1 hq
 ·exact num Cf h1 hq
 ·exact num DQ h1 hq
 ·exact num ET h1 hq
 ·exact num BV h1 hq
 ·exact num GV h1 hq
 ·exact num Cn h1 hq
 ·exact num vU h1 hq
 ·exact cmp FS h1 hq
 ·exact cmp GF h1 hq
 ·exact cmp Gf h1 hq
 ·exact cmp Hp h1 hq
 ·exact num E4 h1 hq
 ·exact num BR h1 hq
 ·obtain ⟨q,y,rfl,rfl⟩:=bQ hr (hn.trans h1)
  exact bu hq (nK hr fun _ f2=>fin (QR.tw hv hU _) f2)
 ·obtain ⟨q,y,rfl,rfl⟩:=bQ hr (hn.trans h1)
  exact bu hq (pz hr fun _ f2=>fin (QR.tw hv hU _) f2)
 ·exact bu hq (wG hK (by rw [en];exact hin) fun _ f2=>fin (QR.int hv hU _) f2)
 ·exact bu hq (DW hK (by rw [en];exact hin) (fun _ f2=>fin (QR.int hv hU _) f2) fun _ f2=>fin (QR.known hv hU hrs) f2)
 ·exact bu hq (zk hK fun _ f2=>fin (QR.tw hv hU _) f2)
 ·exact bu hq (CR hK fun _ f2=>fin (QR.tw hv hU _) f2)
 ·refine bu hq ?_
  rw [er]
  exact vQ hK ht hin fun H' hK' f2=>finF (QR.made hv hU (.inr (.inl rfl)) (by decide) (.inl ⟨rfl,rfl,gH _⟩)) hK' f2
end
end Go.Proofs.YtgjfejoohojokaaGreatDoor
namespace Go.Proofs.YtgjfejoohojokaaGreatDoor
open Kw
attribute [local irreducible] bf bR cn o7 mq vu wn wT vj G8 we jS eG
section
variable {H:ae}{b:Nat}{F:az}{s:SP}{t:TB}{v:KV}{G:Int->Prop}{Q:QT}{r x:Int}{a:Option Addr}{q:Addr}{l c:Nat}{k:Int}{y:ByteArray}{ar:List Int}{n:Int}{p:PF}{n0 rr f:Nat}{g hh:Array Value}{sel:ByteArray}
theorem K5 (hK:PK H b F s t) (hv:KAllW s t v) (hU:UI s v G) (hr:Rd 1 H a l (ag ar)) (hk:aD r=2)
  (K:∀ {res:Int × Int}{s':SP}{t':TB}{H':ae}{F':az},QR s t v sel r res s' t'->PK H' b F' s' t'->Up F H F' H'->Q (.tuple #[.int .i64 res.1,.int .i64 res.2]) H') (hm:(sel,n,p)∈sx) (hn:(ar.length:Int)=n) (hq:ll H n0 rr p (.func (.func f) g hh)) :
  ac PP f ((g++#[cv b r a l c])++hh) Q H:=by
 have fin:∀ {res:Int × Int}{Hb:ae},QR s t v sel r res s t->Fr [] H Hb->Q (.tuple #[.int .i64 res.1,.int .i64 res.2]) Hb:=fun q f2=>K q (hK.nil f2) (Up.of_nil f2)
 have finF:∀ {res:Int × Int}{s':SP}{t':TB}{Hb:ae},QR s t v sel r res s' t'->PK Hb b F s' t'->Fr F H Hb->Q (.tuple #[.int .i64 res.1,.int .i64 res.2]) Hb:=fun q hk f2=>K q hk ⟨f2,fun y hy=>.inl hy⟩
 obtain ⟨m,er,m0,m1⟩:∃ m,r=4*m+2∧0<=m∧m<4096:=⟨r / 4,by have:=aS r;omega⟩
 have hsz:=uA hv m
 simp only [sx,List.mem_cons,Prod.mk.injEq,List.not_mem_nil,or_false] at hm
 rcases hm with ⟨rfl,rfl,rfl⟩ | ⟨rfl,rfl,rfl⟩ | ⟨rfl,rfl,rfl⟩
 ·refine bu hq ?_
  rw [er]
  exact xh hK ⟨m0,m1⟩ fun _ f2=>fin (QR.int hv hU _) f2
 ·refine bu hq ?_
  rw [er]
  exact B9 hK ⟨m0,m1⟩ (by omega) fun H' hK' f2=>finF (QR.made hv hU (.inr (.inr (.inl rfl))) (by decide) (.inl ⟨rfl,rfl,gH _⟩)) hK' f2
 ·obtain ⟨q,y,rfl,rfl⟩:=bQ hr hn
  refine bu hq ?_
  rw [er]
  exact qK hK ⟨m0,m1⟩ hr (fun _ f2=>fin (QR.fail hv hU (by decide)) f2) fun z _ f2=>fin (QR.tw hv hU z) f2
theorem GQ (hK:PK H b F s t) (hv:KAllW s t v) (hU:UI s v G) (hp:PairV v) (hr:Rd 1 H a l (ag ar)) (ho:∀ p,a=some p->p.block∉F) (h3:aD r=3){xs:List Int} (hG:G (r / 4)) (hx:ob s.h (r / 4)=some (40,1,xs)) (has:∀ w∈ar,w∈s.stack) (htx:t.texts.length<=4096)
  (K:∀ {res:Int × Int}{s':SP}{t':TB}{H':ae}{F':az},QR s t v sel r res s' t'->PK H' b F' s' t'->Up F H F' H'->Q (.tuple #[.int .i64 res.1,.int .i64 res.2]) H') (hm:(sel,n,p)∈nT) (hn:(ar.length:Int)=n) (hq:ll H n0 rr p (.func (.func f) g hh)) :
  ac PP f ((g++#[cv b r a l c])++hh) Q H:=by
 have fin:∀ {res:Int × Int}{Hb:ae},QR s t v sel r res s t->Fr [] H Hb->Q (.tuple #[.int .i64 res.1,.int .i64 res.2]) Hb:=fun q f2=>K q (hK.nil f2) (Up.of_nil f2)
 have finF:∀ {res:Int × Int}{s':SP}{t':TB}{Hb:ae},QR s t v sel r res s' t'->PK Hb b F s' t'->Fr F H Hb->Q (.tuple #[.int .i64 res.1,.int .i64 res.2]) Hb:=fun q hk f2=>K q hk ⟨f2,fun y hy=>.inl hy⟩
 obtain ⟨y,rfl,hs,hy⟩:=rW hv h3 hx
 obtain ⟨er,k1,k2⟩:=ck h3
 have hbl:=fc y
 have hstr:∀ w∈ar,dh s.h w=10->ww s w:=fun w hw h10=>by
  obtain ⟨p4,p5,p6,p7,p8,p9,p10,p11,p12,_⟩:=hZ hp
  rcases jh hU hv hp (hU.st w (has w hw)) with ⟨_,e⟩ | ⟨_,e⟩ | ⟨h3',c',f',l',hx',hc3,e,hc⟩
  ·omega
  ·omega
  ·rcases hc with (rfl | rfl | rfl) | ⟨_,rfl,_⟩ | ⟨rfl,_⟩ | ⟨_,⟨rfl,rfl⟩ | ⟨_,hO,_⟩⟩
   ·omega
   ·omega
   ·omega
   ·omega
   ·omega
   ·obtain ⟨z,_,hz,hzs⟩:=rW hv h3' hx'
    exact ⟨w / 4,z,(ck h3').1,hz,hzs⟩
   ·rcases fV hp hO hc3 with e' | e' | ⟨i,e',hi⟩
    ·omega
    ·omega
    ·rw [←e,h10,p10] at e';cases e';omega
 simp only [nT,List.mem_cons,Prod.mk.injEq,List.not_mem_nil,or_false] at hm
 rcases hm with ⟨rfl,rfl,rfl⟩ | ⟨rfl,rfl,rfl⟩ | ⟨rfl,rfl,rfl⟩ | ⟨rfl,rfl,rfl⟩ | ⟨rfl,rfl,rfl⟩ | ⟨rfl,rfl,rfl⟩ | ⟨rfl,rfl,rfl⟩ | ⟨rfl,rfl,rfl⟩
 ·exact bu hq (sO hK fun _ f2=>fin (QR.int hv hU _) f2)
 ·exact bu hq (pR hK fun _ f2=>fin (QR.tw hv hU _) f2)
 ·obtain ⟨q,z,rfl,rfl⟩:=bQ hr hn
  refine bu hq (tm hK hr fun _ f2=>fin (res:=pX s.h r z) ?_ f2)
  unfold pX
  split
  ·rename_i h0;exact QR.fail hv hU h0
  ·exact QR.int hv hU _
 ·obtain ⟨q,z,w,rfl,rfl⟩:=oG hr hn
  have hw:w∈s.stack:=has w (by simp)
  refine bu hq ?_
  rw [er]
  refine Ak hK hs k1 k2 hy hr (ho q rfl) (fun e _ he f2=>fin (QR.fail hv hU (by rcases he with rfl | rfl <;> decide)) f2) fun i H' hi hkw hb hK' f2=>?_
  rw [←er] at hK' ⊢
  exact finF (QR.put hv hU (.inl rfl) h3 hG hx ⟨by omega,by omega⟩ (fun _=>hb) (fun h=>by cases h) hw) hK' f2
 ·obtain ⟨q,z,rfl,rfl⟩:=bQ hr hn
  refine bu hq ?_
  rw [er]
  exact qX hK hv hs hy (hstr z (by simp)) hr (fun _ f2=>fin (QR.fail hv hU (by decide)) f2) fun z' H' _ hK' f2=>finF (QR.made hv hU (.inr (.inr (.inr (.inl rfl)))) (by decide) (.inl ⟨rfl,rfl,gH _⟩)) hK' f2
 ·obtain ⟨q,z,rfl,rfl⟩:=bQ hr hn
  refine bu hq ?_
  rw [er]
  exact tU hK hv hs hy (hstr z (by simp)) hr fun z' _ f2=>fin (QR.tw hv hU z') f2
 ·obtain ⟨q,z,rfl,rfl⟩:=bQ hr hn
  refine bu hq ?_
  rw [er]
  exact wu hK hv hs hy (hstr z (by simp)) hr (fun _ f2=>fin (QR.fail hv hU (by decide)) f2) fun z' _ f2=>fin (QR.tw hv hU z') f2
 ·refine bu hq ?_
  have hall:∀ {t'},WFT t'->(∃ l,t'.texts=t.texts++l)->KAllW s t' v:=fun w1 p1=>⟨hv.ks,hv.names.grow w1 p1,hv.top⟩
  have w1:=fo hv.names.wf y
  have p1:=(nZ t y).2
  rw [er]
  refine zC hK hs k1 k2 hy htx (fun _ f2=>fin (QR.fail hv hU (by decide)) f2) (fun he H' F' hK' u=>?_) fun he H' F' hK' u=>?_
  ·have et:(t.add y).2=t:=by
    unfold TB.add at he ⊢
    split
    ·rfl
    ·rename_i hg
     rw [if_neg hg] at he
     cases hno:bL t.texts y with
     | some n=>rfl
     | none =>
      rw [hno] at he
      simp only at he ⊢
      split
      ·rfl
      ·rename_i h4;rw [if_neg h4] at he;exact absurd rfl he
   rw [et] at hK'
   exact K (QR.fail hv hU he) hK' u
  ·obtain ⟨m,e1,e2,_⟩:=lh y he
   have hml:=(List.getElem?_eq_some_iff.1 e2).1
   have hal:=(nH t y).1
   have hm2:=w1.len
   have hm3:=w1.m1
   rw [e1]
   refine ⟨⟨by omega,by omega⟩,K (res:=(4*(m:Int)+2,0)) ⟨hall w1 p1,rfl,⟨G,hU,fun _=>⟨?_,fun h3'=>?_⟩⟩,fun h=>absurd rfl h,?_,fun _ _=>.inl rfl,fun _=>.inr (.inl ?_)⟩ hK' u⟩
   ·show aD (4*(m:Int)+2)≠0
    unfold aD
    rw [if_neg (by omega),if_pos (by omega)];decide
   ·exfalso
    have:aD (4*(m:Int)+2)=3:=h3'
    unfold aD at this
    rw [if_neg (by omega),if_pos (by omega)] at this
    cases this
   ·obtain ⟨l',hl'⟩:=p1
    have:(t.add y).2.texts.length=t.texts.length+l'.length:=by rw [hl',List.length_append]
    by_cases h0:l'.length=0
    ·exact .inl (by omega)
    ·exact .inr ⟨by omega,rfl,rfl⟩
   ·show aD (4*(m:Int)+2)≠3
    unfold aD
    rw [if_neg (by omega),if_pos (by omega)];decide
theorem AZ (hK:PK H b F s t) (hv:KAllW s t v) (hU:UI s v G) (hr:Rd 1 H a l (ag ar)) (ho:∀ p,a=some p->p.block∉F) (h3:aD r=3){c' f':Int}{xs:List Int} (hx:ob s.h (r / 4)=some (c',f',xs)) (hown:xs=[]∨(G (r / 4)∧f'=0∧∀ w∈xs,jB s v G w)) (has:∀ w∈ar,w∈s.stack)
  (K:∀ {res:Int × Int}{s':SP}{t':TB}{H':ae}{F':az},QR s t v sel r res s' t'->PK H' b F' s' t'->Up F H F' H'->Q (.tuple #[.int .i64 res.1,.int .i64 res.2]) H') (hm:(sel,n,p)∈ot) (hn:(ar.length:Int)=n) (hq:ll H n0 rr p (.func (.func f) g hh)) :
  ac PP f ((g++#[cv b r a l c])++hh) Q H:=by
 have fin:∀ {res:Int × Int}{Hb:ae},QR s t v sel r res s t->Fr [] H Hb->Q (.tuple #[.int .i64 res.1,.int .i64 res.2]) Hb:=fun q f2=>K q (hK.nil f2) (Up.of_nil f2)
 have finF:∀ {res:Int × Int}{s':SP}{t':TB}{Hb:ae},QR s t v sel r res s' t'->PK Hb b F s' t'->Fr F H Hb->Q (.tuple #[.int .i64 res.1,.int .i64 res.2]) Hb:=fun q hk f2=>K q hk ⟨f2,fun y hy=>.inl hy⟩
 simp only [ot,List.mem_cons,Prod.mk.injEq,List.not_mem_nil,or_false] at hm
 rcases hm with ⟨rfl,rfl,rfl⟩ | ⟨rfl,rfl,rfl⟩ | ⟨rfl,rfl,rfl⟩ | ⟨rfl,rfl,rfl⟩
 ·exact bu hq (sO hK fun _ f2=>fin (QR.int hv hU _) f2)
 ·exact bu hq (pR hK fun _ f2=>fin (QR.tw hv hU _) f2)
 ·obtain ⟨q,y,rfl,rfl⟩:=bQ hr hn
  refine bu hq (AU hK hr (ho q rfl) (fun h0 _ f2=>fin (QR.fail hv hU h0) f2) (fun h0 _ _ f2=>?_) fun _ y' ws' hw=>by cases hw)
  obtain ⟨i0,i1⟩:=js h0
  generalize (bl (cD s.h r).1 y).1=i at i0 i1 ⊢
  rw [jX h3 hx] at i1
  rcases hown with rfl | ⟨hG,rfl,hl'⟩
  ·simp at i1;omega
  have es:=jC h3 hx i0 i1
  refine fin (res:=(dL s.h r i,0)) (QR.look hv hU (fun h=>absurd rfl h) (fun _=>?_) fun _=>.inr (.inr (.inr (.inr (.inr (.inl rfl)))))) f2
  simp only
  rw [es]
  exact hl' _ (qb i0 i1)
 ·obtain ⟨q,y,z,rfl,rfl⟩:=oG hr hn
  refine bu hq (AU hK hr (ho q rfl) (fun h0 _ f2=>fin (QR.fail hv hU h0) f2) (fun _ hw=>by cases hw) fun h0 y' ws' hw H' hK' f2=>?_)
  cases hw
  obtain ⟨i0,i1⟩:=js h0
  generalize (bl (cD s.h r).1 y).1=i at i0 i1 hK' ⊢
  rw [jX h3 hx] at i1
  rcases hown with rfl | ⟨hG,rfl,hl'⟩
  ·simp at i1;omega
  have hz:z∈s.stack:=has z (by simp)
  exact finF (QR.put hv hU (.inl rfl) h3 hG hx ⟨i0,i1⟩ (fun h=>by cases h) (fun _=>hU.st z hz) hz) hK' f2
theorem HJ (hK:PK H b F s t) (hv:KAllW s t v) (hU:UI s v G) (hr:Rd 1 H a l (ag ar)) (h3:aD r=3){i:Nat} (hi:i<v.cls.length) (ei:r / 4=(v.cls[i]).oop){f':Int} (hx:ob s.h (r / 4)=some (48,f',(v.cls[i]).slots i)) (htx:t.texts.length<=4096)
  (K:∀ {res:Int × Int}{s':SP}{t':TB}{H':ae}{F':az},QR s t v sel r res s' t'->PK H' b F' s' t'->Up F H F' H'->Q (.tuple #[.int .i64 res.1,.int .i64 res.2]) H') (hm:(sel,n,p)∈oe) (hn:(ar.length:Int)=n) (hq:ll H n0 rr p (.func (.func f) g hh)) :
  ac PP f ((g++#[cv b r a l c])++hh) Q H:=by
 have fin:∀ {res:Int × Int}{Hb:ae},QR s t v sel r res s t->Fr [] H Hb->Q (.tuple #[.int .i64 res.1,.int .i64 res.2]) Hb:=fun q f2=>K q (hK.nil f2) (Up.of_nil f2)
 have finF:∀ {res:Int × Int}{s':SP}{t':TB}{Hb:ae},QR s t v sel r res s' t'->PK Hb b F s' t'->Fr F H Hb->Q (.tuple #[.int .i64 res.1,.int .i64 res.2]) Hb:=fun q hk f2=>K q hk ⟨f2,fun y hy=>.inl hy⟩
 obtain ⟨er,o1,o2⟩:=ck h3
 simp only [oe,List.mem_cons,Prod.mk.injEq,List.not_mem_nil,or_false] at hm
 rcases hm with ⟨rfl,rfl,rfl⟩ | ⟨rfl,rfl,rfl⟩ | ⟨rfl,rfl,rfl⟩ | ⟨rfl,rfl,rfl⟩
 ·refine bu hq (wP hK hv er ⟨o1,o2⟩ (fun _ f2=>fin (QR.fail hv hU (by decide)) f2) fun j hj hc H' hK' f2=>?_)
  refine finF (res:=(AJ s r ((bp v j).length:Int) 0,(s.alloc r ((bp v j).length:Int) 0).1.2)) (QR.fresh hv hU (.inr (.inr (.inr (.inr (.inl rfl))))) h3 (.inr ⟨rfl,.inr ⟨r / 4,j,er,hj,?_⟩⟩)) hK' f2
  by_cases h14:(j:Int)+1<=14
  ·exact .inl (hc h14)
  ·exact .inr (by omega)
 ·obtain ⟨q,y,rfl,rfl⟩:=bQ hr hn
  refine bu hq (u9 hK er ⟨o1,o2⟩ hr (fun _ f2=>fin (QR.fail hv hU (by decide)) f2) (fun _ f2=>fin (res:=(72,0)) (QR.look hv hU (fun h=>absurd rfl h) (fun _=>?_) fun _=>.inr (.inr (.inr (.inl rfl)))) f2) fun m fm hc _ H' hK' f2=>?_)
  ·refine ⟨(by decide:cR 72),fun _=>⟨fun e=>?_,.inr (.inr (.inr (.inl rfl)))⟩⟩
   obtain ⟨f2,l2,hx2⟩:=hU.base (18,44) (by simp [bO])
   have e':ob s.h 18=none:=e
   rw [hx2] at e';cases e'
  ·refine finF (res:=(AJ s r m fm,(s.alloc r m fm).1.2)) (QR.fresh hv hU (.inr (.inr (.inr (.inr (.inr rfl))))) h3 ?_) hK' f2
   rcases hc with ⟨e1,e2⟩ | ⟨e1,e2,_⟩
   ·exact .inl ⟨e2,by omega⟩
   ·exact .inr ⟨e2,.inl (by omega)⟩
 ·refine sP hq fun m hB=>oV hK hB fun _ f2=>?_
  have es:=jC h3 hx (i:=0) (by decide) (by simp [CV.slots])
  rw [es]
  have hnm:=hv.names.name _ (List.getElem_mem hi)
  refine fin (res:=(_,0)) (QR.small hv hU (.inr ?_)) f2
  show aD (4*((v.cls[i]).name:Int)+2)=2
  unfold aD
  rw [if_neg (by omega),if_pos (by omega)]
 ·refine sP hq fun m hB=>oV hK hB fun _ f2=>?_
  have es:=jC h3 hx (i:=1) (by decide) (by simp [CV.slots])
  rw [es]
  have e1:((v.cls[i]).slots i).getD (1:Int).toNat 0=4*(v.cls[i]).up:=rfl
  rw [e1]
  by_cases h0:i=0
  ·subst h0
   have hup:=(hv.ks.shape.up0 hi).1
   rw [hup]
   exact fin (QR.known hv hU hU.ten.1) f2
  ·obtain ⟨j,hj,_,eup⟩:=hv.ks.shape.ups i hi (by omega)
   have hidx:=hv.ks.idx hj
   rw [eup] at hidx
   have hrng:1<=(v.cls[i]).up∧(v.cls[i]).up<=65536:=by
    obtain ⟨f2,l2,hx2⟩:=hU.base ((v.cls[j]).oop,48) (by
     unfold bO
     simp only [List.mem_cons,List.mem_map]
     exact .inr (.inr (.inr (.inr ⟨v.cls[j],List.getElem_mem hj,rfl⟩))))
    obtain ⟨o,ho,_⟩:=bA.1 hx2
    have hm:=au ho
    have hg:=hv.ks.wf.h.objs.good o hm.1
    have h1:=hg.oop1
    have h2:=hg.oop2
    have h3:=hv.ks.wf.h.o1
    have h4:o.oop=(v.cls[i]).up:=hm.2.trans eup
    omega
   obtain ⟨c1,c2⟩:=oR hU hidx hrng
   exact fin (res:=(4*(v.cls[i]).up,0)) (QR.look hv hU (fun h=>absurd rfl h) (fun _=>c1) fun _=>.inr (.inr (.inl c2))) f2
theorem I0 (hK:PK H b F s t) (hv:KAllW s t v) (hU:UI s v G) (hp:PairV v) (ht:d7 H) (hr:Rd 1 H a l (ag ar)) (ho:∀ p,a=some p->p.block∉F) (hrs:r∈s.stack) (has:∀ w∈ar,w∈s.stack)
  (h:∀ res s' t' H' F',QR s t v sel r res s' t'->PK H' b F' s' t'->Up F H F' H'->Q (.tuple #[.int .i64 res.1,.int .i64 res.2]) H'):ac PP sK #[.pointer (some ⟨b,0,none⟩),.int .i64 k,.string sel,.int .i64 r,.slice a l c] Q H:=by
 have htx:t.texts.length<=4096:=by have h1:=hv.names.wf.len;have h2:=hv.names.wf.m1;omega
 have hrw:=hU.st r hrs
 refine Bk hK hv hr (fun _ e H' he f=>h (0,e) s t H' F (QR.fail hv hU (by rcases he with rfl | rfl <;> decide)) (hK.nil f) (Up.of_nil f)) fun n p he hpn hn hof hkind hsh H1 n0 rr f g hh f1 hq=>?_
 have hmem:=vx he
 have hK1:=hK.nil f1
 have hr1:=Rd.nilF hr f1
 have ht1:=ht.fr f1 (by simp)
 have K:∀ {res:Int × Int}{s':SP}{t':TB}{H':ae}{F':az},QR s t v sel r res s' t'->PK H' b F' s' t'->Up F H1 F' H'->(fun (v42:Value) (H9:ae)=>∃ n43:Int,∃ n44:Int,v42=.tuple #[.int .i64 n43,.int .i64 n44]∧Q (.tuple #[.int .i64 n43,.int .i64 n44]) H9) (.tuple #[.int .i64 res.1,.int .i64 res.2]) H':=fun q hk u=>⟨_,_,rfl,h _ _ _ _ _ q hk (om f1 u)⟩
 obtain ⟨p4,p5,p6,p7,p8,p9,p10,p11,p12,p14,p17⟩:=hZ hp
 have view:=jh hU hv hp hrw
 unfold ov at hmem
 split at hmem
 ·exact Lz hK1 hv hU hp hr1 ho hrs has K hmem hn hq
 rename_i k4
 have only:∀ i,dw v k=some i->i<14->dh s.h r=k:=fun i h1 h2=>t8 hp k4 h1 h2 hkind
 split at hmem
 ·exact K7 hK1 hv hU hr1 K hmem hn hq
 split at hmem
 ·rename_i k8
  subst k8
  have only:=only _ p8 (by decide)
  have hk1:aD r=1:=by
   rcases view with ⟨h1,_⟩ | ⟨_,e⟩ | ⟨h3',c',f',l',hx',hc3,e,hc⟩
   ·exact h1
   ·omega
   ·rcases hc with (rfl | rfl | rfl) | ⟨_,rfl,_⟩ | ⟨rfl,_⟩ | ⟨_,⟨_,rfl⟩ | ⟨_,hO,_⟩⟩
    ·omega
    ·omega
    ·omega
    ·omega
    ·omega
    ·omega
    ·rcases fV hp hO hc3 with e' | e' | ⟨i,e',hi⟩
     ·omega
     ·omega
     ·rw [←e,only,p8] at e';cases e';omega
  exact Le hK1 hv hU ht1 hr1 hk1 hrs K hmem hn hq
 split at hmem
 ·rename_i k9
  subst k9
  have only:=only _ p9 (by decide)
  have hk2:aD r=2:=by
   rcases view with ⟨_,e⟩ | ⟨h1,_⟩ | ⟨h3',c',f',l',hx',hc3,e,hc⟩
   ·omega
   ·exact h1
   ·rcases hc with (rfl | rfl | rfl) | ⟨_,rfl,_⟩ | ⟨rfl,_⟩ | ⟨_,⟨_,rfl⟩ | ⟨_,hO,_⟩⟩
    ·omega
    ·omega
    ·omega
    ·omega
    ·omega
    ·omega
    ·rcases fV hp hO hc3 with e' | e' | ⟨i,e',hi⟩
     ·omega
     ·omega
     ·rw [←e,only,p9] at e';cases e';omega
  exact K5 hK1 hv hU hr1 hk2 K hmem hn hq
 split at hmem
 ·rename_i KU
  subst KU
  have only:=only _ p10 (by decide)
  rcases view with ⟨_,e⟩ | ⟨_,e⟩ | ⟨h3',c',f',l',hx',hc3,e,hc⟩
  ·omega
  ·omega
  ·rcases hc with (rfl | rfl | rfl) | ⟨_,rfl,_⟩ | ⟨rfl,_⟩ | ⟨hG,⟨rfl,rfl⟩ | ⟨_,hO,_⟩⟩
   ·omega
   ·omega
   ·omega
   ·omega
   ·omega
   ·exact GQ hK1 hv hU hp hr1 ho h3' hG hx' has htx K hmem hn hq
   ·rcases fV hp hO hc3 with e' | e' | ⟨i,e',hi⟩
    ·omega
    ·omega
    ·rw [←e,only,p10] at e';cases e';omega
 split at hmem
 ·rename_i KY
  subst KY
  have only:=only _ p11 (by decide)
  rcases view with ⟨_,e⟩ | ⟨_,e⟩ | ⟨h3',c',f',l',hx',hc3,e,hc⟩
  ·omega
  ·omega
  ·rcases hc with (rfl | rfl | rfl) | ⟨_,rfl,hl0⟩ | ⟨rfl,_⟩ | ⟨hG,⟨rfl,rfl⟩ | ⟨hf0,hO,hl'⟩⟩
   ·omega
   ·omega
   ·omega
   ·exact AZ hK1 hv hU hr1 ho h3' hx' (.inl hl0) has K hmem hn hq
   ·omega
   ·omega
   ·exact AZ hK1 hv hU hr1 ho h3' hx' (.inr ⟨hG,hf0,hl'⟩) has K hmem hn hq
 split at hmem
 ·rename_i k12
  subst k12
  have only:=only _ p12 (by decide)
  rcases view with ⟨_,e⟩ | ⟨_,e⟩ | ⟨h3',c',f',l',hx',hc3,e,hc⟩
  ·omega
  ·omega
  ·rcases hc with (rfl | rfl | rfl) | ⟨_,rfl,hl0⟩ | ⟨rfl,rfl,i,hi,ei,rfl⟩ | ⟨hG,⟨rfl,rfl⟩ | ⟨hf0,hO,hl'⟩⟩
   ·omega
   ·omega
   ·omega
   ·omega
   ·exact HJ hK1 hv hU hr1 h3' hi ei hx' htx K hmem hn hq
   ·omega
   ·rcases fV hp hO hc3 with e' | e' | ⟨i,e',hi⟩
    ·omega
    ·omega
    ·rw [←e,only,p12] at e';cases e';omega
 have none_of:∀ {o:Int},(∃ j,dw v o=some j∧j<14)->o≠4->o≠5->o≠6->o≠7->o≠8->o≠9->o≠10->o≠11->o≠12->dh s.h r=o->False:=fun {o} ⟨j,hj,hj14⟩ n4 n5 n6 n7 n8 n9 n10 n11 n12 eo=>by
  rcases view with ⟨_,e⟩ | ⟨_,e⟩ | ⟨h3',c',f',l',hx',hc3,e,hc⟩
  ·omega
  ·omega
  ·rcases hc with (rfl | rfl | rfl) | ⟨_,rfl,hl0⟩ | ⟨rfl,_⟩ | ⟨hG,⟨rfl,rfl⟩ | ⟨hf0,hO,hl'⟩⟩
   ·omega
   ·omega
   ·omega
   ·omega
   ·omega
   ·omega
   ·rcases fV hp hO hc3 with e' | e' | ⟨i,e',hi⟩
    ·omega
    ·omega
    ·rw [←e,eo,hj] at e';cases e';omega
 split at hmem
 ·rename_i KW
  subst KW
  have only:=only _ p14 (by decide)
  exact (none_of ⟨_,p14,by decide⟩ (by decide) (by decide) (by decide) (by decide) (by decide) (by decide) (by decide) (by decide) (by decide) only).elim
 split at hmem
 ·rename_i KT
  subst KT
  have only:=only _ p17 (by decide)
  exact (none_of ⟨_,p17,by decide⟩ (by decide) (by decide) (by decide) (by decide) (by decide) (by decide) (by decide) (by decide) (by decide) only).elim
 ·cases hmem
end
end Go.Proofs.YtgjfejoohojokaaGreatDoor
namespace Go.Proofs.YtgjfejoohojokaaGreatDoor
open Kw
theorem z1 {Ha Hb:ae}{Da Db:az}{o:Obj} (u:Up Da (Ha.push o) Db Hb):Up Da Ha Db Hb:=by
 have fp:=Fr.push [] Ha o
 exact ⟨⟨Nat.le_trans fp.1 u.1.1,fun z hz hn=>by rw [u.1.2 z (Nat.lt_of_lt_of_le hz fp.1) hn,fp.2 z hz (by simp)]⟩,fun z hz=>(u.2 z hz).imp id fun h=>Nat.le_trans fp.1 h⟩
section
variable {H:ae}{db:Nat}{D:az}{s:SP}{t:TB}{v:KV}{ws:List Int}{N:Nat}{Q:QT}{r:Int}
end
attribute [local irreducible] o7 mq vu wn wT vj G8 we jS eG
theorem DK.fr {H H':ae}{db:Nat}{D X:az}{s:SP}{t:TB}{ws:List Int} (h:DK H db D s t ws) (hf:Fr X H H') (hd:∀ x∈D,x∉X) (hg:ax∉X) (hp:gP∉X):DK H' db D s t ws:=by
 obtain ⟨b,F,a,l,c,G,rfl,hB,hO,hK,h1,h2,h3,h4,h5,h6⟩:=h
 exact ⟨b,F,a,l,c,G,rfl,hB.fr hf (hd _ (by simp)),hO.fr hf (fun x hx=>hd x (by simp [hx])),hK.fr hf (fun x hx=>hd x (by simp [hx])) hg,h1,h2,h3,h4,h5,h6.fr hf hp⟩
theorem rH {H0 H H':ae}{X:az} (f:Fr [] H0 H) (g:Fr X H H') (hx:∀ x∈X,H0.size<=x):Fr [] H0 H' :=
 ⟨Nat.le_trans f.1 g.1,fun y hy _=>by rw [g.2 y (Nat.lt_of_lt_of_le hy f.1) (fun hm=>by have:=hx y hm;omega),f.2 y hy (by simp)]⟩
section
variable {H0 H H':ae}{db:Nat}{D D' X:az}{s s':SP}{t t':TB}{v:KV}{ws ws':List Int}{N N':Nat}
end
end Go.Proofs.YtgjfejoohojokaaGreatDoor
namespace Go.Proofs.YtgjfejoohojokaaGreatDoor
open Kw
attribute [local irreducible] bf bR cn
def cZ:List Int->List Int->Nat
 | x :: xs,y :: ys=>(if x≠y then 1 else 0)+cZ xs ys
 | _,_=>0
theorem jL:∀ l,cZ l l=0
 | []=>rfl
 | x :: l=>by simp [cZ,jL l]
theorem oZ:∀ (l:List Int) (i:Nat) (y:Int),cZ l (l.set i y)<=1
 | [],_,_=>by simp [cZ]
 | x :: l,0,y=>by
  simp only [List.set_cons_zero,cZ,jL]
  split <;> omega
 | x :: l,i+1,y=>by
  simp only [List.set_cons_succ,cZ]
  have:=oZ l i y
  simp only [ne_eq,not_true_eq_false,if_false]
  omega
theorem mU:∀ (xs ys:List Int) (i:Nat),i<xs.length->xs.length=ys.length->cZ (xs.take (i+1)) (ys.take (i+1))=cZ (xs.take i) (ys.take i)+if xs.getD i 0≠ys.getD i 0 then 1 else 0
 | [],_,i,h,_=>by simp at h
 | x :: xs,[],i,_,h=>by simp at h
 | x :: xs,y :: ys,0,_,_=>by simp [cZ]
 | x :: xs,y :: ys,i+1,h,he=>by
  have:=mU xs ys i (by simpa using h) (by simpa using he)
  simp only [List.take_succ_cons,cZ,this,List.getD_cons_succ]
  omega
theorem sj:∀ (xs ys:List Int),cZ xs ys<=xs.length
 | [],_=>by simp [cZ]
 | _ :: _,[]=>by simp [cZ]
 | x :: xs,y :: ys=>by
  have:=sj xs ys
  simp only [cZ,List.length_cons]
  split <;> omega
theorem Hn {l:Nat} (hl:l<20000000000000):∀ c,c<l+1->Builtin.nextslicecap (l+1) c*8<=281474976710656:=fun c hc=>by
 have:=ka (need:=l+1) (c:=c) hc
 omega
section
variable {H:ae}{Q:QT}
theorem ur {a1 a2:Option Addr}{l1 l2 c1 c2:Nat}{xs ys:List Int} (h1:Rd 1 H a1 l1 (ag xs)) (h2:Rd 1 H a2 l2 (ag ys)) (hl:xs.length<=1000000) (h:Q (.int .i64 (if xs.length=ys.length then (cZ xs ys:Int) else -1)) H) :
  ac PP Ft #[.slice a1 l1 c1,.slice a2 l2 c2] Q H:=by
 have e1:l1=xs.length:=by have:=h1.1;simpa [ag] using this.symm
 have e2:l2=ys.length:=by have:=h2.1;simpa [ag] using this.symm
 apply C8
 unfold LN iV wW
 rw [aY,af]
 refine ap (fun hne=>?_) fun heq=>?_
 ·rw [if_neg (by omega)] at h;exact h
 have he:xs.length=ys.length:=by omega
 rw [if_pos he] at h
 refine ⟨fun w H'=>∃ i:Nat,w=[.int .i64 (cZ (xs.take i) (ys.take i):Int),.int .i64 i]∧i<=xs.length∧H'=H,fun w _=>match w with
  | [_,.int _ i]=>((xs.length:Int)-i).toNat
  | _=>0,⟨0,by simp [cZ],Nat.zero_le _,rfl⟩,?_⟩
 rintro w H' ⟨i,rfl,hi,rfl⟩ _
 refine ⟨_,_,rfl,cY (fun hlt=>?_) fun hge=>?_⟩
 ·have hil:i<xs.length:=by omega
  obtain ⟨p,hp,hc,_⟩:=h1.int (i:=(i:Int)) (by omega) (by omega)
  obtain ⟨q,hq,hc2,_⟩:=h2.int (i:=(i:Int)) (by omega) (by omega)
  simp only [Int.toNat_natCast] at hc hc2
  have w1:IntKind.wrap .i64 ((i:Int)+1)=((i+1:Nat):Int):=by rw [ah (by omega) (by omega)];omega
  have hd:=sj (xs.take i) (ys.take i)
  have hd2:(xs.take i).length<=i:=by rw [List.length_take];exact Nat.min_le_left _ _
  have w2:IntKind.wrap .i64 ((cZ (xs.take i) (ys.take i):Int)+1)=((cZ (xs.take i) (ys.take i)+1:Nat):Int):=by rw [ah (by omega) (by omega)];omega
  have hst:=mU xs ys i hil he
  refine ⟨⟨by omega,hlt⟩,p,hp,_,by rw [Int.toNat_natCast,Nat.mul_one];exact hc,⟨by omega,by omega⟩,q,hq,_,by rw [Int.toNat_natCast,Nat.mul_one];exact hc2,?_⟩
  rw [w1,w2,aY,af]
  refine ap (fun hne=>?_) fun hne=>?_
  ·rw [if_pos hne] at hst
   exact ⟨⟨i+1,by rw [hst],by omega,rfl⟩,by simp;omega⟩
  ·rw [if_neg hne] at hst
   exact ⟨⟨i+1,by rw [hst];rfl,by omega,rfl⟩,by simp;omega⟩
 ·rw [List.take_of_length_le (by omega),List.take_of_length_le (by omega)]
  exact h
theorem zU {x:ByteArray} (h:∀ z,(jF x->z=true)->Q (.bool z) H):ac PP GS #[.string x] Q H:=by
 apply Di
 unfold LX
 simp only [dS]
 iterate 5
  rw [af]
  refine ap (fun _=>h _ fun _=>rfl) fun _=>?_
 refine h _ fun hm=>?_
 unfold jF AS xb vh uZ Gv Ba at hm
 rename_i g1 g2 g3 g4 g5
 rcases hm with e | e | e | e | e | e
 ·exact absurd e g1
 ·exact absurd e g2
 ·exact absurd e g3
 ·exact absurd e g4
 ·exact absurd e g5
 ·exact decide_eq_true e
theorem xa {x:ByteArray} (h:∀ z,(nP x->z=true)->Q (.bool z) H):ac PP I1 #[.string x] Q H:=by
 apply ES
 unfold Mh
 simp only [dS]
 iterate 3
  rw [af]
  refine ap (fun _=>h _ fun _=>rfl) fun _=>?_
 refine h _ fun hm=>?_
 unfold nP LR Bg Ib Bj at hm
 rename_i g1 g2 g3
 rcases hm with e | e | e | e
 ·exact absurd e g1
 ·exact absurd e g2
 ·exact absurd e g3
 ·exact decide_eq_true e
theorem wN {n lo hi:Int} (h0:0<=lo) (h1:lo<=hi) (h2:hi<=1000000) (h:∀ m:Int,lo<=m∧m<=hi->Q (.int .i64 m) H):ac PP Kg #[.int .i64 n,.int .i64 lo,.int .i64 hi] Q H:=by
 have w1:IntKind.wrap .i64 ((IntKind.wrap .i64 (hi-lo))+1)=hi-lo+1:=by
  rw [ah (n:=hi-lo) (by omega) (by omega),ah (by omega) (by omega)]
 have t1:-(hi-lo+1)<Int.tmod n (hi-lo+1)∧Int.tmod n (hi-lo+1)<hi-lo+1:=(lI (n:=n) (m:=hi-lo+1) (by omega)).1 (by omega)
 apply EY
 unfold L1 iV wW
 rw [w1]
 generalize Int.tmod n (hi-lo+1)=m at t1 ⊢
 have tail:cond (decide ((hi-lo+1)=0)) False (cond (decide (m<0)) (Q (.int .i64 (IntKind.wrap .i64 (lo+(IntKind.wrap .i64 ((IntKind.wrap .i64 ((IntKind.wrap .i64 (m+hi))-lo))+1))))) H) (Q (.int .i64 (IntKind.wrap .i64 (lo+m))) H)):=by
  rw [af,if_neg (by omega),af]
  refine ap (fun hm=>?_) fun hm=>?_
  ·rw [ah (n:=m+hi) (by omega) (by omega),ah (n:=m+hi-lo) (by omega) (by omega),ah (n:=m+hi-lo+1) (by omega) (by omega),ah (by omega) (by omega)]
   exact h _ ⟨by omega,by omega⟩
  ·rw [ah (by omega) (by omega)]
   exact h _ ⟨by omega,by omega⟩
 rw [af]
 refine ap (fun hge=>?_) fun _=>tail
 rw [af]
 exact ap (fun hle=>h _ ⟨hge,hle⟩) fun _=>tail
variable {db:Nat}{D:az}{s:SP}{t:TB}{ws:List Int}
theorem jf (hD:DK H db D s t ws) (hs:∀ k c f l,ob s.h k=some (c,f,l)->l.length<=8192){w:Int} (h:∀ a l c G H',bK 1 H' a l c (ag (SL s.h w)) G->Fr [] H H'->(∀ x∈G,H.size<=x)->Q (.slice a l c) H') :
  ac PP Bm #[.pointer (some ⟨db,0,none⟩),.int .i64 w] Q H:=by
 have hsW:aI PP 30=some (1,8,some (.int .i64 0)):=by kernel_rfl
 have hD0:=hD
 obtain ⟨b,F,a1,l1,c1,G,rfl,hB,hO,hK,d1,d2,d3,d4,d5,d6⟩:=hD
 apply BJ
 unfold Mc A0 iV wW pV lV cS
 refine fG hK.kinds ?_
 have hq:=h none 0 0 [] H
 unfold iE
 by_cases h3:¬ aD w=3
 ·rw [if_neg h3]
  unfold SL at hq
  rw [if_neg h3] at hq
  exact ⟨_,_,rfl,dR ⟨_,rfl,hq (bK.nil _ _) (Fr.refl _ _) (by simp)⟩⟩
 have h3:aD w=3:=Classical.byContradiction h3
 rw [if_pos h3]
 refine ⟨_,_,rfl,dR ⟨_,rfl,?_⟩⟩
 simp only [show ((0:Int) != 0)=false from rfl,cond_false]
 refine ⟨_,rfl,_,hB.cell 0,cG hK fun sb F1 _ hS _ _ _=>⟨_,rfl,cE hS fun hb F2 hR _ _=>⟨_,rfl,kS hR ?_⟩⟩⟩
 cases ho:am s.h.objs (w / 4) with
 | none =>
  have hon:ob s.h (w / 4)=none:=iW.2 ho
  unfold SL at hq
  rw [if_pos h3,hon] at hq
  unfold RH.size
  rw [ho]
  refine ⟨_,_,_,rfl,fO hR ?_⟩
  unfold RH.clsAt
  rw [ho]
  exact ⟨_,_,rfl,dR ⟨_,rfl,hq (bK.nil _ _) (Fr.refl _ _) (by simp)⟩⟩
 | some o =>
  have hos:ob s.h (w / 4)=some (o.cls,o.fmt,o.slots):=bA.2 ⟨o,ho,rfl,rfl,rfl⟩
  have hlm:=hs _ _ _ _ hos
  unfold RH.size
  rw [ho]
  refine ⟨_,_,_,rfl,fO hR ?_⟩
  unfold RH.clsAt
  rw [ho]
  refine ⟨_,_,rfl,dR ⟨_,rfl,?_⟩⟩
  simp only [show ((0:Int) != 0)=false from rfl,cond_false]
  refine dR ⟨_,rfl,?_⟩
  simp only [show ((0:Int) != 0)=false from rfl,cond_false]
  have fp:=Fr.push [] H (.cells #[.int .i64 o.cls,.int .i64 o.fmt] 26)
  have ho0:bK 1 (H.push (.cells #[.int .i64 o.cls,.int .i64 o.fmt] 26)) (some ⟨H.size,0,none⟩) 2 2 (ag (o.cls :: o.fmt :: o.slots.take 0)) [H.size]:=⟨by simp [ag],Nat.le_refl _,.inr ⟨_,_,rfl,rfl,aV.new _ _ _,by simp,by simp [ag]⟩⟩
  refine ⟨fun w' H'=>∃(i:Nat) (a:Option Addr) (c:Nat) (G':az),w'=[.slice a (2+i) c,.int .i64 i]∧i<=o.slots.length∧bK 1 H' a (2+i) c (ag (o.cls :: o.fmt :: o.slots.take i)) G'∧Fr [] H H'∧∀ x∈G',H.size<=x,fun w' _=>match w' with
   | [_,.int _ i]=>((o.slots.length:Int)-i).toNat
   | _=>0,⟨0,_,_,_,rfl,Nat.zero_le _,ho0,fp,by simp⟩,?_⟩
  rintro w' H2 ⟨i,a,c,G',rfl,hi,hO2,f2,hlo⟩ _
  refine ⟨_,_,_,_,rfl,cY (fun hlt=>?_) fun hge=>?_⟩
  ·have hil:i<o.slots.length:=by omega
   have hK2:=hK.nil f2
   have w1:IntKind.wrap .i64 ((i:Int)+1)=((i+1:Nat):Int):=by rw [ah (by omega) (by omega)];omega
   have hR2:∃ F2,bW H2 hb F2 s.h:=⟨F2,hR.fr f2 (cA.nil_right _) (by simp)⟩
   obtain ⟨F2',hR2⟩:=hR2
   refine qp hR2 ?_
   unfold RH.at
   rw [ho]
   simp only
   rw [if_neg (by omega)]
   refine ⟨_,_,rfl,eR hsW rfl (by kernel_rfl) hO2 rfl (by simp [dC]) (Hn (by omega)) (by decide) fun a' c' G2 H3 hO3 u3 lt3=>⟨_,_,_,rfl,?_⟩⟩
   rw [w1]
   have f3:Fr [] H H3:=⟨Nat.le_trans f2.1 u3.1.1,fun y hy _=>by rw [u3.1.2 y (Nat.lt_of_lt_of_le hy f2.1) (fun hm=>by have:=hlo y hm;omega),f2.2 y hy (by simp)]⟩
   refine ⟨⟨i+1,a',c',G2,by rw [Nat.add_assoc],by omega,?_,f3,fun x hx=>?_⟩,by simp;omega⟩
   ·have et:ag (o.cls :: o.fmt :: o.slots.take i)++[Value.int .i64 (o.slots.getD i 0)]=ag (o.cls :: o.fmt :: o.slots.take (i+1)):=by
     have hg:o.slots[i]?=some (o.slots.getD i 0):=by rw [List.getD_eq_getElem?_getD,List.getElem?_eq_getElem hil];rfl
     rw [List.take_add_one,hg]
     simp [ag]
    rw [←et]
    exact hO3
   ·rcases u3.2 x hx with h4 | h4
    ·exact hlo x h4
    ·have:=f2.1;omega
  ·have hi2:i=o.slots.length:=by omega
   subst hi2
   rw [List.take_of_length_le (Nat.le_refl _)] at hO2
   refine h a _ c G' H2 ?_ f2 hlo
   unfold SL
   rw [if_pos h3,hos]
   exact hO2
theorem sf (hD:DK H db D s t ws) (h0:0<ws.length) (hl:ws.length<=100000){n:Int} (h:∀ w∈ws,Q (.int .i64 w) H):ac PP Gu #[.pointer (some ⟨db,0,none⟩),.int .i64 n] Q H:=by
 obtain ⟨b,F,a1,l1,c1,G,rfl,hB,hO,hK,d1,d2,d3,d4,d5,d6⟩:=hD
 have hlw:ws.length=l1:=by have:=hO.len;simpa [ag] using this
 apply Hj
 unfold k9 iV wW lV
 have t1:-(l1:Int)<Int.tmod n l1∧Int.tmod n l1<l1:=(lI (n:=n) (m:=(l1:Int)) (by omega)).1 (by omega)
 have w1:IntKind.wrap .i64 (Int.tmod n l1+l1)=Int.tmod n l1+l1:=ah (by omega) (by omega)
 have t2:=(lI (n:=Int.tmod n l1+l1) (m:=(l1:Int)) (by omega)).1 (by omega)
 have t3:0<=Int.tmod (Int.tmod n l1+l1) l1:=Int.tmod_nonneg _ (by omega)
 refine ⟨_,rfl,_,_,_,hB.cell 1,_,rfl,_,_,_,hB.cell 1,?_⟩
 rw [af,if_neg (by omega),af,if_neg (by omega),w1]
 generalize Int.tmod (Int.tmod n l1+l1) l1=m at t2 t3 ⊢
 obtain ⟨p,hp,hc,hlt⟩:=hO.rd.int (i:=m) t3 t2.2
 refine ⟨⟨t3,t2.2⟩,p,hp,_,by rw [Nat.mul_one];exact hc,h _ ?_⟩
 rw [List.getD_eq_getElem?_getD,List.getElem?_eq_getElem hlt]
 exact List.getElem_mem hlt
end
end Go.Proofs.YtgjfejoohojokaaGreatDoor
namespace Go.Proofs.YtgjfejoohojokaaGreatDoor
open Kw
attribute [local irreducible] bf bR cn
section
variable {H H1 H2:ae}{Q:QT}{db:Nat}{D:az}{s:SP}{t:TB}{ws:List Int}{v:KV}
theorem DK.kern (hD:DK H db D s t ws):∃ b F,aa H ⟨db,0,none⟩=some (.pointer (some ⟨b,0,none⟩))∧PK H b F s t∧(∀ x∈F,x∈D)∧d7 H∧∀ H' F' s' t',PK H' b F' s' t'->Up F H F' H'->∃ D',DK H' db D' s' t' ws∧Up D H D' H':=by
 have hlt:=hD.lt
 obtain ⟨b,F,a,l,c,G,rfl,hB,hO,hK,d1,d2,d3,d4,d5,d6⟩:=hD
 have hpl:=d6.lt
 have hgl:=hK.kinds.lt
 simp only [List.mem_cons,List.mem_append,not_or] at d4 d5
 refine ⟨b,F,hB.cell 0,hK,fun x hx=>by simp [hx],d6,fun H' F' s' t' hK' u=>⟨db :: (G++F'),⟨b,F',a,l,c,G,rfl,hB.fr u.1 d1,hO.fr u.1 d3,hK',fun hm=>?_,d2,fun x hx hm=>?_,?_,?_,d6.fr u.1 d5.2.2⟩,u.1.mono fun y hy=>by simp [hy],fun y hy=>?_⟩⟩
 ·rcases u.2 db hm with h1 | h1
  ·exact d1 h1
  ·have:=hlt db (by simp);omega
 ·rcases u.2 x hm with h1 | h1
  ·exact d3 x hx h1
  ·have:=hlt x (by simp [hx]);omega
 ·simp only [List.mem_cons,List.mem_append,not_or]
  refine ⟨d4.1,d4.2.1,fun hm=>?_⟩
  rcases u.2 _ hm with h1 | h1
  ·exact d4.2.2 h1
  ·omega
 ·simp only [List.mem_cons,List.mem_append,not_or]
  refine ⟨d5.1,d5.2.1,fun hm=>?_⟩
  rcases u.2 _ hm with h1 | h1
  ·exact d5.2.2 h1
  ·omega
 ·simp only [List.mem_cons,List.mem_append] at hy ⊢
  rcases hy with rfl | hy | hy
  ·exact .inl (.inl rfl)
  ·exact .inl (.inr (.inl hy))
  ·exact (u.2 y hy).imp (fun h1=>.inr (.inr h1)) id
theorem DK.list (hD:DK H db D s t ws):∃ a c G,aa H ⟨db,1,none⟩=some (.slice a ws.length c)∧bK 1 H a ws.length c (ag ws) G∧∀ x∈G,x∈D:=by
 obtain ⟨b,F,a,l,c,G,rfl,hB,hO,hK,d1,d2,d3,d4,d5,d6⟩:=hD
 have hlw:ws.length=l:=by have:=hO.len;simpa [ag] using this
 subst hlw
 exact ⟨a,c,G,hB.cell 1,hO,fun x hx=>by simp [hx]⟩
theorem nk {k:Nat}{H:ae}{a:Option Addr}{l c:Nat}{xs:List Value}{G:az} (h:bK k H a l c xs G):∀ p,a=some p->p.block∈G:=fun p hp=>by
 rcases h.2.2 with ⟨rfl,_⟩ | ⟨b,cs,rfl,rfl,_⟩
 ·cases hp
 ·cases hp;simp
def uL (B:Nat) (cells:Array Value) (H:ae) (rs:RH) (ws:List Int) (i:Nat) (a:Option Addr) (c:Nat):Prop:=∃ vs X,bK 1 H a i c vs X∧vs.length=i∧(∀ x∈X,B<x)∧(∀ j,j<i->∃ aj lj cj,vs[j]?=some (.slice aj lj cj)∧Rd 1 H aj lj (ag (SL rs (ws.getD j 0)))∧∀ p,aj=some p->B<p.block∧p.block<H.size∧p.block∉X)∧aV H B cells
theorem uL.keep {B:Nat}{cells:Array Value}{rs:RH}{i:Nat}{a:Option Addr}{c:Nat} (h:uL B cells H1 rs ws i a c) (hs:H1.size<=H2.size) (he:∀ x,B<=x->x<H1.size->H2[x]?=H1[x]?):uL B cells H2 rs ws i a c:=by
 obtain ⟨vs,X,h1,h2,h3,h4,h5⟩:=h
 refine ⟨vs,X,h1.keep fun x hx=>he x (by have:=h3 x hx;omega) (h1.lt x hx),h2,h3,fun j hj=>?_,h5.of_eq (he B (Nat.le_refl _) h5.lt)⟩
 obtain ⟨aj,lj,cj,g1,g2,g3⟩:=h4 j hj
 exact ⟨aj,lj,cj,g1,g2.fr fun p hp=>he _ (by have:=g3 p hp;omega) (g3 p hp).2.1,fun p hp=>⟨(g3 p hp).1,by have:=(g3 p hp).2.1;omega,(g3 p hp).2.2⟩⟩
theorem uL.fr {B:Nat}{cells:Array Value}{rs:RH}{i:Nat}{a:Option Addr}{c:Nat}{G:az} (h:uL B cells H1 rs ws i a c) (f:Fr G H1 H2) (hG:∀ x∈G,x<B∨H1.size<=x):uL B cells H2 rs ws i a c :=
 h.keep f.1 fun x h1 h2=>f.2 x h2 fun hm=>by have:=hG x hm;omega
theorem uL.row {B:Nat}{cells:Array Value}{rs:RH}{i:Nat}{a:Option Addr}{c:Nat} (h:uL B cells H1 rs ws i a c){j:Nat} (hj:j<i):∃ q aj lj cj,a=some q∧aa H1 (q.add (j*1))=some (.slice aj lj cj)∧Rd 1 H1 aj lj (ag (SL rs (ws.getD j 0))):=by
 obtain ⟨vs,X,h1,h2,h3,h4,h5⟩:=h
 obtain ⟨aj,lj,cj,g1,g2,_⟩:=h4 j hj
 cases a with
 | none=>have:=h1.rd.2.1 rfl;omega
 | some q =>
  refine ⟨q,aj,lj,cj,rfl,?_,g2⟩
  rw [Nat.mul_one,h1.rd.2.2 q rfl j (by omega),g1]
theorem FP {cells:Array Value}{e:TypeId} (hD:DK H db D s t ws) (hs:∀ k c f l,ob s.h k=some (c,f,l)->l.length<=8192) (hl:ws.length<=10000){R:Option Addr->Nat->Nat->ae->Prop}
  (h:∀ a c H',Fr [] H H'->H.size<H'.size->uL H.size cells H' s.h ws ws.length a c->R a ws.length c H') :
  ∃(I8:List Value->ae->Prop) (μ8:List Value->ae->Nat),I8 [.slice none 0 0,.int .i64 0] (H.push (.cells cells e))∧∀ w9 H1,I8 w9 H1->∀ _g:Nat->Value,∃ a10:Option Addr,∃ l10:Nat,∃ c10:Nat,∃ n11:Int,w9=[.slice a10 l10 c10,.int .i64 n11]∧∃ q12,(some ⟨db,0,none⟩:Option Addr)=some q12∧∃ a13:Option Addr,∃ l13:Nat,∃ c13:Nat,aa H1 (q12.add 1)=some (.slice a13 l13 c13)∧cond (decide (n11<(l13:Int))) (∃ q14,(some ⟨db,0,none⟩:Option Addr)=some q14∧∃ a15:Option Addr,∃ l15:Nat,∃ c15:Nat,aa H1 (q14.add 1)=some (.slice a15 l15 c15)∧((0:Int)<=n11∧n11<(l15:Int))∧∃ q16,a15=some q16∧∃ n17:Int,aa H1 (q16.add (Int.toNat n11*1))=some (.int .i64 n17) ∧
   ac PP Bm #[.pointer (some ⟨db,0,none⟩),.int .i64 n17] (fun v18 H2=>∃ a19:Option Addr,∃ l19:Nat,∃ c19:Nat,v18=.slice a19 l19 c19 ∧
    aK PP (Builtin.append_ #[80,80] 80 #[.slice a10 l10 c10,.slice (some (⟨H2.size,0,none⟩:Addr)) 1 1]) (fun v20 H3=>∃ a21:Option Addr,∃ l21:Nat,∃ c21:Nat,v20=.slice a21 l21 c21∧I8 [.slice a21 l21 c21,.int .i64 (IntKind.wrap .i64 (n11+1))] H3∧μ8 [.slice a21 l21 c21,.int .i64 (IntKind.wrap .i64 (n11+1))] H3<μ8 w9 H1) (H2.push (.cells #[.slice a19 l19 c19] 30))) H1) (R a10 l10 c10 H1):=by
 have hsS:aI PP 80=some (1,24,some (.slice none 0 0)):=by kernel_rfl
 have fp:=Fr.push [] H (.cells cells e)
 have hb:=aV.new H cells e
 have sz:(H.push (.cells cells e)).size=H.size+1:=by simp
 have w0:uL H.size cells (H.push (.cells cells e)) s.h ws 0 none 0:=⟨[],[],bK.nil _ _,rfl,by simp,fun j hj=>absurd hj (Nat.not_lt_zero j),hb⟩
 refine ⟨fun w H'=>∃(i:Nat) (a:Option Addr) (c:Nat),w=[.slice a i c,.int .i64 i]∧i<=ws.length∧Fr [] H H'∧H.size<H'.size∧uL H.size cells H' s.h ws i a c,fun w _=>match w with
  | [_,.int _ i]=>((ws.length:Int)-i).toNat
  | _=>0,⟨0,none,0,rfl,Nat.zero_le _,fp,by omega,w0⟩,?_⟩
 clear w0 hb
 rintro w H1 ⟨i,a,c,rfl,hi,f1,hsz,hW⟩ _
 have hD1:=hD.nil f1
 obtain ⟨aw,cw,Gw,hcw,hOw,hGw⟩:=hD1.list
 refine ⟨_,_,_,_,rfl,_,rfl,_,_,_,hcw,cY (fun hlt=>?_) fun hge=>?_⟩
 ·have hil:i<ws.length:=by omega
  have e1:IntKind.wrap .i64 ((i:Int)+1)=((i+1:Nat):Int):=by rw [ah (by omega) (by omega)];omega
  obtain ⟨q,hq,hc,_⟩:=hOw.rd.int (i:=(i:Int)) (by omega) (by omega)
  simp only [Int.toNat_natCast] at hc
  refine ⟨_,rfl,_,_,_,hcw,⟨by omega,by omega⟩,q,hq,_,by rw [Int.toNat_natCast,Nat.mul_one];exact hc,jf hD1 hs fun a2 l2 c2 G2 H2 hO2 f2 hlo2=>⟨_,_,_,rfl,?_⟩⟩
  have hW2:=hW.fr f2 (by simp)
  obtain ⟨vs,X,hO,hvl,hX,hent,hB⟩:=hW2
  have hX1:∀ x∈X,x<H1.size:=by
   obtain ⟨vs',X',hO',_⟩:=hW
   intro x hx
   have:X'=X:=by
    rcases hO.2.2 with ⟨ha,_,hX0⟩ | ⟨b1,_,ha,hX0,_⟩ <;> rcases hO'.2.2 with ⟨ha',_,hX0'⟩ | ⟨b2,_,ha',hX0',_⟩
    ·rw [hX0,hX0']
    ·rw [ha] at ha';cases ha'
    ·rw [ha] at ha';cases ha'
    ·rw [ha] at ha';cases ha';rw [hX0,hX0']
   exact hO'.lt x (this ▸ hx)
  refine bJ hsS rfl (by kernel_rfl) hO rfl (by simp [dC]) (by omega) (by decide) (by decide) fun a3 c3 X3 H3 hO3 u3 lt3=>⟨_,_,_,rfl,?_⟩
  rw [e1]
  have f13:Fr [] H H3:=by
   have f12:=f1.trans f2
   exact ⟨Nat.le_trans f12.1 u3.1.1,fun y hy _=>by rw [u3.1.2 y (Nat.lt_of_lt_of_le hy f12.1) (fun hm=>by have:=hX y hm;omega),f12.2 y hy (by simp)]⟩
  have hs2:=f2.1
  have hs3:=u3.1.1
  refine ⟨⟨i+1,a3,c3,rfl,by omega,f13,by omega,vs++[.slice a2 l2 c2],X3,hO3,by simp [hvl],fun x hx=>?_,fun j hj=>?_,hB.fr u3.1 (fun hm=>by have:=hX _ hm;omega)⟩,by simp;omega⟩
  ·rcases u3.2 x hx with h4 | h4
   ·exact hX x h4
   ·have:=f1.1;omega
  ·have keepR:∀ {aj:Option Addr}{lj:Nat}{ys:List Int},Rd 1 H2 aj lj (ag ys)->(∀ p,aj=some p->H.size<p.block∧p.block<H2.size∧p.block∉X)->Rd 1 H3 aj lj (ag ys)∧∀ p,aj=some p->H.size<p.block∧p.block<H3.size∧p.block∉X3:=fun hr hp=>⟨hr.fr' u3.1 fun p hpp=>(hp p hpp).2.2,fun p hpp=>⟨(hp p hpp).1,by have:=(hp p hpp).2.1;omega,fun hm=>by
    rcases u3.2 _ hm with h4 | h4
    ·exact (hp p hpp).2.2 h4
    ·have:=(hp p hpp).2.1;omega⟩⟩
   by_cases hji:j<i
   ·obtain ⟨aj,lj,cj,g1,g2,g3⟩:=hent j hji
    obtain ⟨k1,k2⟩:=keepR g2 g3
    exact ⟨aj,lj,cj,by rw [List.getElem?_append_left (by omega)];exact g1,k1,k2⟩
   ·have hji':j=i:=by omega
    subst hji'
    obtain ⟨k1,k2⟩:=keepR hO2.rd fun p hp=>by
     have hm:=nk hO2 p hp
     have h1:=hlo2 _ hm
     have h2:=hO2.lt _ hm
     exact ⟨by omega,h2,fun hx=>by have:=hX1 _ hx;omega⟩
    exact ⟨a2,l2,c2,by rw [List.getElem?_append_right (by omega),hvl];simp,k1,k2⟩
 ·have hi2:i=ws.length:=by omega
  subst hi2
  exact h a c H1 f1 hsz hW
end
end Go.Proofs.YtgjfejoohojokaaGreatDoor
namespace Go.Proofs.YtgjfejoohojokaaGreatDoor
open Kw
attribute [local irreducible] bf bR cn
structure StepP where
 kind:Int
 cls:Int
 sel:ByteArray
 r:Int
 args:List Int
 word:Int
def StepP.vals (x:StepP) (a:Option Addr) (l c:Nat):List Value:=[.int .i64 x.kind,.int .i64 x.cls,.string x.sel,.int .i64 x.r,.slice a l c,.int .i64 x.word]
structure QD (H:ae) (db:Nat) (D:az) (s:SP) (t:TB) (v:KV):Prop where
 dk:DK H db D s t s.stack
 all:KAllW s t v
 pair:PairV v
 ui:∃ G,UI s v G
 len:s.stack.length<=5000
theorem jk {s:SP}{t:TB}{v:KV} (h:KAllW s t v):∀ k c f l,ob s.h k=some (c,f,l)->l.length<=8192:=fun _ _ _ _ h1=>oT h h1
section
variable {H H1 H2:ae}{Q:QT}{db:Nat}{D:az}{s s':SP}{t t':TB}{v:KV}
theorem sX {ws:List Int} (hD:DK H db D s t ws){R:Int->ae->Prop} (h:R (t.texts.length:Int) H) :
  ∃ q37,(some ⟨db,0,none⟩:Option Addr)=some q37∧∃ p38:Option Addr,aa H q37=some (.pointer p38)∧ac PP A3 #[.pointer p38] (fun v39 H8=>∃ p40:Option Addr,v39=.pointer p40∧ac PP Bh #[.pointer p40] (fun v41 H9=>∃ n42:Int,v41=.int .i64 n42∧R n42 H9) H8) H:=by
 obtain ⟨b,F,hc,hK,_⟩:=hD.kern
 exact ⟨_,rfl,_,hc,kU hK fun tb F1 _ hT=>⟨_,rfl,ng hT ⟨_,rfl,h⟩⟩⟩
theorem xp {ws:List Int} (hD:DK H db D s t ws) (hl:ws.length<=10000){w:Int}{R:Bool->ae->Prop} (h:R (decide (w∈ws)) H) :
  ∃(I84:List Value->ae->Prop) (μ84:List Value->ae->Nat),I84 [.bool false,.int .i64 0] H∧∀ w85 H20,I84 w85 H20->∀ _g:Nat->Value,∃ b86:Bool,∃ n87:Int,w85=[.bool b86,.int .i64 n87]∧∃ q88,(some ⟨db,0,none⟩:Option Addr)=some q88∧∃ a89:Option Addr,∃ l89:Nat,∃ c89:Nat,aa H20 (q88.add 1)=some (.slice a89 l89 c89)∧cond (decide (n87<(l89:Int))) (cond b86 (I84 [.bool true,.int .i64 (IntKind.wrap .i64 (n87+1))] H20∧μ84 [.bool true,.int .i64 (IntKind.wrap .i64 (n87+1))] H20<μ84 w85 H20) (∃ q90,(some ⟨db,0,none⟩:Option Addr)=some q90∧∃ a91:Option Addr,∃ l91:Nat,∃ c91:Nat,aa H20 (q90.add 1)=some (.slice a91 l91 c91)∧((0:Int)<=n87∧n87<(l91:Int))∧∃ q92,a91=some q92∧∃ n93:Int,aa H20 (q92.add (Int.toNat n87*1))=some (.int .i64 n93)∧I84 [.bool (n93 == w),.int .i64 (IntKind.wrap .i64 (n87+1))] H20∧μ84 [.bool (n93 == w),.int .i64 (IntKind.wrap .i64 (n87+1))] H20<μ84 w85 H20)) (R b86 H20):=by
 refine ⟨fun x H'=>∃ i:Nat,x=[.bool (decide (w∈ws.take i)),.int .i64 i]∧i<=ws.length∧H'=H,fun x _=>match x with
  | [_,.int _ i]=>((ws.length:Int)-i).toNat
  | _=>0,⟨0,by simp,Nat.zero_le _,rfl⟩,?_⟩
 rintro x H' ⟨i,rfl,hi,rfl⟩ _
 obtain ⟨a,c,G,hc,hO,_⟩:=hD.list
 refine ⟨_,_,rfl,_,rfl,_,_,_,hc,cY (fun hlt=>?_) fun hge=>?_⟩
 ·have hil:i<ws.length:=by omega
  have e1:IntKind.wrap .i64 ((i:Int)+1)=((i+1:Nat):Int):=by rw [ah (by omega) (by omega)];omega
  obtain ⟨q,hq,hcq,hlt2⟩:=hO.rd.int (i:=(i:Int)) (by omega) (by omega)
  simp only [Int.toNat_natCast] at hcq hlt2
  have htk:ws.take (i+1)=ws.take i++[ws.getD i 0]:=by
   rw [List.take_add_one,List.getD_eq_getElem?_getD,List.getElem?_eq_getElem hil];rfl
  rw [e1]
  cases hb:decide (w∈ws.take i) with
  | true =>
   have hm:=of_decide_eq_true hb
   refine ⟨⟨i+1,?_,by omega,rfl⟩,by simp;omega⟩
   have:decide (w∈ws.take (i+1))=true:=decide_eq_true (by rw [htk];exact List.mem_append_left _ hm)
   rw [this]
  | false =>
   have hm:=of_decide_eq_false hb
   refine ⟨_,rfl,_,_,_,hc,⟨by omega,by omega⟩,q,hq,_,by rw [Int.toNat_natCast,Nat.mul_one];exact hcq,⟨i+1,?_,by omega,rfl⟩,by simp;omega⟩
   rw [aX]
   have:decide (ws.getD i 0=w)=decide (w∈ws.take (i+1)):=by
    apply decide_eq_decide.2
    rw [htk,List.mem_append]
    constructor
    ·intro e;exact .inr (by rw [e];exact List.mem_singleton.2 rfl)
    ·rintro (h1 | h1)
     ·exact absurd h1 hm
     ·exact (List.mem_singleton.1 h1).symm
   rw [this]
 ·rw [List.take_of_length_le (by omega)]
  exact h
theorem Fa {ws us:List Int}{B:Nat}{cells:Array Value}{a6:Option Addr}{l6 c6:Nat}{a:Option Addr}{rs:RH}{cw:Nat} (hD:DK H db D s t ws) (h0:0<ws.length) (hl:ws.length<=10000) (hW:uL B cells H rs ws ws.length a cw) (hc4:cells[4]?=some (.slice a6 l6 c6)) (hr:Rd 1 H a6 l6 (ag us)) (hl6:l6<=18000000000000)
  {R:Option Addr->Nat->Nat->ae->Prop} (h:∀ a' c' Y ar H',Fr [] H H'->bK 1 H' a' l6 c' (ag ar) Y->(∀ y∈Y,H.size<=y)->(∀ w∈ar,w∈ws)->R a' l6 c' H') :
  ∃(I22:List Value->ae->Prop) (μ22:List Value->ae->Nat),I22 [.slice none 0 0,.int .i64 0] H∧∀ w23 H4,I22 w23 H4->∀ _g:Nat->Value,∃ a24:Option Addr,∃ l24:Nat,∃ c24:Nat,∃ n25:Int,w23=[.slice a24 l24 c24,.int .i64 n25]∧∃ a26:Option Addr,∃ l26:Nat,∃ c26:Nat,aa H4 ((⟨B,0,none⟩:Addr).add 4)=some (.slice a26 l26 c26)∧cond (decide (n25<(l26:Int))) (∃ a27:Option Addr,∃ l27:Nat,∃ c27:Nat,aa H4 ((⟨B,0,none⟩:Addr).add 4)=some (.slice a27 l27 c27)∧((0:Int)<=n25∧n25<(l27:Int))∧∃ q28,a27=some q28∧∃ n29:Int,aa H4 (q28.add (Int.toNat n25*1))=some (.int .i64 n29) ∧
   ac PP Gu #[.pointer (some ⟨db,0,none⟩),.int .i64 n29] (fun v30 H5=>∃ n31:Int,v30=.int .i64 n31 ∧
    aK PP (Builtin.append_ #[30,30] 30 #[.slice a24 l24 c24,.slice (some (⟨H5.size,0,none⟩:Addr)) 1 1]) (fun v32 H6=>∃ a33:Option Addr,∃ l33:Nat,∃ c33:Nat,v32=.slice a33 l33 c33∧I22 [.slice a33 l33 c33,.int .i64 (IntKind.wrap .i64 (n25+1))] H6∧μ22 [.slice a33 l33 c33,.int .i64 (IntKind.wrap .i64 (n25+1))] H6<μ22 w23 H4) (H5.push (.cells #[.int .i64 n31] 26))) H4) (R a24 l24 c24 H4):=by
 have hsW:aI PP 30=some (1,8,some (.int .i64 0)):=by kernel_rfl
 have hlen:l6=us.length:=by have:=hr.1;simpa [ag] using this.symm
 have hB:aV H B cells:=by obtain ⟨_,_,_,_,_,_,h5⟩:=hW;exact h5
 refine ⟨fun w H'=>∃(i:Nat) (a:Option Addr) (c:Nat) (Y:az) (ar:List Int),w=[.slice a i c,.int .i64 i]∧i<=l6∧Fr [] H H'∧bK 1 H' a i c (ag ar) Y∧(∀ y∈Y,H.size<=y)∧∀ w∈ar,w∈ws,fun w _=>match w with
  | [_,.int _ i]=>((l6:Int)-i).toNat
  | _=>0,⟨0,none,0,[],[],rfl,Nat.zero_le _,Fr.refl _ _,bK.nil _ _,by simp,by simp⟩,?_⟩
 rintro w H4 ⟨i,a',c',Y,ar,rfl,hi,f4,hO,hY,har⟩ _
 have hB4:=hB.fr f4 (by simp)
 have hc:aa H4 ((⟨B,0,none⟩:Addr).add 4)=some (.slice a6 l6 c6):=(hB4.cell 4).trans hc4
 refine ⟨_,_,_,_,rfl,_,_,_,hc,cY (fun hlt=>?_) fun hge=>?_⟩
 ·have hil:i<us.length:=by omega
  have e1:IntKind.wrap .i64 ((i:Int)+1)=((i+1:Nat):Int):=by rw [ah (by omega) (by omega)];omega
  obtain ⟨q,hq,hcq,_⟩:=(Rd.nilF hr f4).int (i:=(i:Int)) (by omega) (by omega)
  simp only [Int.toNat_natCast] at hcq
  refine ⟨_,_,_,hc,⟨by omega,hlt⟩,q,hq,_,by rw [Int.toNat_natCast,Nat.mul_one];exact hcq,sf (hD.nil f4) h0 (by omega) fun z hz=>⟨_,rfl,?_⟩⟩
  refine eR hsW rfl (by kernel_rfl) hO rfl (by simp [dC]) (Hn (by omega)) (by decide) fun a2 c2 Y2 H6 hO6 u6 lt6=>⟨_,_,_,rfl,?_⟩
  rw [e1]
  refine ⟨⟨i+1,a2,c2,Y2,ar++[z],rfl,by omega,⟨Nat.le_trans f4.1 u6.1.1,fun y hy _=>by rw [u6.1.2 y (Nat.lt_of_lt_of_le hy f4.1) (fun hm=>by have:=hY y hm;omega),f4.2 y hy (by simp)]⟩,by simpa [ag] using hO6,fun y hy=>?_,fun w hw=>?_⟩,by simp;omega⟩
  ·rcases u6.2 y hy with h4 | h4
   ·exact hY y h4
   ·have:=f4.1;omega
  ·rcases List.mem_append.1 hw with hw | hw
   ·exact har w hw
   ·rw [List.mem_singleton.1 hw];exact hz
 ·have hi2:i=l6:=by omega
  subst hi2
  exact h a' c' Y ar H4 f4 hO hY har
end
end Go.Proofs.YtgjfejoohojokaaGreatDoor
namespace Go.Proofs.YtgjfejoohojokaaGreatDoor
open Kw
attribute [local irreducible] bf bR cn
theorem pS {H H':ae} (hf:Fr [] H H'){a:Addr}{v:Value} (h:aa H a=some v):aa H' a=some v:=by
 have hb:a.block<H.size:=by
  unfold aa at h
  rcases Nat.lt_or_ge a.block H.size with h1 | h1
  ·exact h1
  ·rw [Array.getElem?_eq_none h1] at h;cases h
 unfold aa at h ⊢
 rw [hf.2 _ hb (by simp)]
 exact h
theorem tW {s:SP}{v:KV}{G:Int->Prop} (hU:UI s v G){w:Int} (hw:jB s v G w):UI { s with stack:=s.stack++[w] } v G :=
 ⟨⟨List.mem_append_left _ hU.ten.1,List.mem_append_left _ hU.ten.2.1,List.mem_append_left _ hU.ten.2.2⟩,fun z hz=>by
  rcases List.mem_append.1 hz with hz | hz
  ·exact hU.st z hz
  ·rw [List.mem_singleton.1 hz];exact hw,hU.base,hU.gob⟩
def rG (xs ys:List Int):Int:=if xs.length=ys.length then (cZ xs ys:Int) else -1
theorem DF {s:SP} (hs:∀ k c f l,ob s.h k=some (c,f,l)->l.length<=8192) (w:Int):(SL s.h w).length<=8194:=by
 unfold SL
 split
 ·split
  ·rename_i c f l hx
   have:=hs _ _ _ _ hx
   simp only [List.length_cons];omega
  ·simp
 ·simp
theorem EM {s s':SP}{t t':TB}{v:KV}{x:ByteArray}{r:Int}{res:Int × Int} (q:QR s t v x r res s' t'){z:Int} (hz:z∈s.stack) :
  rG (SL s.h z) (SL s'.h z)=0∨(rG (SL s.h z) (SL s'.h z)=1∧res.2=0∧z=r∧(x=nG∨x=mf)):=by
 unfold rG
 rcases q.same z hz with e | ⟨e0,ez,ex,i,y,e⟩
 ·rw [e,if_pos rfl,jL];exact .inl rfl
 ·rw [e,if_pos (by simp)]
  have:=oZ (SL s.h z) i y
  rcases Nat.lt_or_ge (cZ (SL s.h z) ((SL s.h z).set i y)) 1 with h | h
  ·exact .inl (by omega)
  ·exact .inr ⟨by omega,e0,ez,ex⟩
section
variable {H:ae}{Q:QT}{db:Nat}{D:az}{s:SP}{t:TB}{v:KV}
theorem vm {H1:ae}{ws:List Int}{G:Int->Prop} (hD:DK H1 db D s t ws) (hws:ws=s.stack) (hv:KAllW s t v) (hp:PairV v) (hU:UI s v G){w:Int} (hw:jB s v G w) (hl:s.stack.length<=4999){R:ae->Prop}
  (h:∀ H' D',QD H' db D' { s with stack:=s.stack++[w] } t v->Up D H1 D' H'->R H'):ac PP wd #[.pointer (some ⟨db,0,none⟩),.int .i64 w] (fun v102 H24=>v102=.tuple #[]∧R H24) H1:=by
 subst hws
 have ek:=ia (s:=s) hw.1 (by omega)
 obtain ⟨k1,_,_⟩:=mS hv w (by omega)
 refine nN hD (by omega) fun H' D' hD' u=>⟨rfl,h H' D' ?_ u⟩
 rw [ek] at hD' k1
 exact ⟨hD',k1,hp,⟨G,tW hU hw⟩,by simp;omega⟩
theorem xG (hQ:QD H db D s t v) (h0:0<s.stack.length) (hl:s.stack.length<=4999){x:StepP}{a6:Option Addr}{l6 c6:Nat} (hr:Rd 1 H a6 l6 (ag x.args)) (hl6:l6<=18000000000000)
  (h:∀ H' D' s' t' m,QD H' db D' s' t' v->s'.stack=s.stack++m->m.length<=1->Up D H D' H'->Q (.bool true) H') :
  ac PP AV #[.pointer (some ⟨db,0,none⟩),.agg #[.int .i64 x.kind,.int .i64 x.cls,.string x.sel,.int .i64 x.r,.slice a6 l6 c6,.int .i64 x.word]] Q H:=by
 have hD:=hQ.dk
 have hDlt:=hD.lt
 obtain ⟨G,hU⟩:=hQ.ui
 apply Ce
 unfold KT A0 iV wW pV sV lV cS
 refine FP hD (jk hQ.all) (by omega) fun a c Ha fa hsz hW=>?_
 refine Fa (hD.nil fa) h0 (by omega) hW rfl (Rd.nilF hr fa) hl6 fun a' c' Y ar Hb fb hOa hY har=>?_
 have fab:=fa.trans fb
 have hWb:=hW.fr fb (by simp)
 have hBb:aV Hb H.size #[.int .i64 x.kind,.int .i64 x.cls,.string x.sel,.int .i64 x.r,.slice a6 l6 c6,.int .i64 x.word]:=by obtain ⟨_,_,_,_,_,_,h5⟩:=hWb;exact h5
 have hDb:=hD.nil fab
 refine ⟨_,hBb.cell 3,sf hDb h0 (by omega) fun r hrs=>⟨_,rfl,sX hDb ?_⟩⟩
 obtain ⟨b,F,hcK,hK,hsub,ht10,hup⟩:=hDb.kern
 refine ⟨_,rfl,_,hcK,_,hBb.cell 1,_,hBb.cell 2,I0 hK hQ.all hU hQ.pair ht10 hOa.rd (fun p hp hm=>?_) hrs har fun res s' t' H10 F' q hK' u=>⟨_,_,rfl,trivial,?_⟩⟩
 ·have h1:=hY _ (nk hOa p hp)
  have h2:=hDlt _ (hsub _ hm)
  have:=fa.1
  omega
 obtain ⟨D',hD',uD⟩:=hup H10 F' s' t' hK' u
 have hW10:=hWb.fr uD.1 fun y hy=>.inl (hDlt y hy)
 have hB10:aV H10 H.size #[.int .i64 x.kind,.int .i64 x.cls,.string x.sel,.int .i64 x.r,.slice a6 l6 c6,.int .i64 x.word]:=by obtain ⟨_,_,_,_,_,_,h5⟩:=hW10;exact h5
 have uH:Up D H D' H10:=om fab uD
 have hBD:H.size∉D':=fun hm=>by
  rcases uD.2 _ hm with h1 | h1
  ·have:=hDlt _ h1;omega
  ·have:=hBb.lt;omega
 have hstk:=q.stk
 have hl1:=hQ.all.names.wf.len
 have hl2:=hQ.all.names.wf.m1
 have hl3:=q.all.names.wf.len
 have hl4:=q.all.names.wf.m1
 refine sX hD' ?_
 refine ⟨fun w H'=>w=[]∧H10=H',?_,?_⟩
 ·rcases q.tab with e | ⟨e,ex,e0⟩
  ·rw [e,show ((t.texts.length:Int)-(t.texts.length:Int))=0 by omega,show IntKind.wrap .i64 0=0 from rfl]
   exact ⟨rfl,rfl⟩
  ·rw [e,show (((t.texts.length+1:Nat):Int)-(t.texts.length:Int))=1 by omega,show IntKind.wrap .i64 1=1 from rfl]
   show ∃ s57:ByteArray,_
   refine ⟨_,hB10.cell 2,?_⟩
   rw [show cp x.sel ⟨#[97,115,83,121,109,98,111,108]⟩=true from jQ.2 ex,Bool.not_true,cond_false]
   refine dR ⟨_,rfl,?_⟩
   rw [e0]
   exact ⟨rfl,rfl⟩
 rintro w H14 ⟨rfl,rfl⟩ _
 refine ⟨rfl,?_⟩
 refine ⟨fun w H'=>∃ i:Nat,w=[.int .i64 i]∧i<=s.stack.length∧Fr [] H10 H',fun w _=>match w with
  | [.int _ i]=>((s.stack.length:Int)-i).toNat
  | _=>0,⟨0,rfl,Nat.zero_le _,Fr.refl _ _⟩,?_⟩
 rintro w H15 ⟨i,rfl,hi,f15⟩ _
 have hD15:=hD'.nil f15
 have hB15:=hB10.fr f15 (by simp)
 obtain ⟨aw,cw,Gw,hcw,hOw,hGw⟩:=hD15.list
 refine ⟨_,rfl,cY (fun hlt=>?_) fun hge=>?_⟩
 ·have hil:i<s.stack.length:=by omega
  have e1:IntKind.wrap .i64 ((i:Int)+1)=((i+1:Nat):Int):=by rw [ah (by omega) (by omega)];omega
  obtain ⟨q64,aj,lj,cj,hq64,hcj,hrj⟩:=(hW10.fr f15 (by simp)).row hil
  obtain ⟨qz,hqz,hcz,_⟩:=hOw.rd.int (i:=(i:Int)) (by omega) (by omega)
  simp only [Int.toNat_natCast] at hcz
  have hz:s.stack.getD i 0∈s.stack:=by
   rw [List.getD_eq_getElem?_getD,List.getElem?_eq_getElem hil]
   exact List.getElem_mem hil
  refine ⟨⟨by omega,hlt⟩,q64,hq64,_,_,_,by rw [Int.toNat_natCast];exact hcj,_,rfl,_,_,_,hcw,⟨by omega,by omega⟩,qz,hqz,_,by rw [Int.toNat_natCast,Nat.mul_one];exact hcz,jf hD15 (jk q.all) fun a2 l2 c2 G2 H16 hO2 f16 _=>⟨_,_,_,rfl,⟨⟨?_,trivial⟩,trivial⟩,ur (Rd.nilF hrj f16) hO2.rd (by have:=DF (jk hQ.all) (s.stack.getD i 0);omega) ⟨_,rfl,trivial,dR ⟨_,rfl,?_⟩⟩⟩⟩
  ·rw [Int.toNat_natCast];exact pS f16 hcj
  have hcw16:=pS f16 hcw
  have hB16:=hB15.fr f16 (by simp)
  have hcz16:=pS f16 hcz
  have f06:=f15.trans f16
  have hd:rG (SL s.h (s.stack.getD i 0)) (SL s'.h (s.stack.getD i 0))=0∨(rG (SL s.h (s.stack.getD i 0)) (SL s'.h (s.stack.getD i 0))=1∧res.2=0∧s.stack.getD i 0=r∧(x.sel=nG∨x.sel=mf)):=EM q hz
  rw [show (if (SL s.h (s.stack.getD i 0)).length=(SL s'.h (s.stack.getD i 0)).length then (cZ (SL s.h (s.stack.getD i 0)) (SL s'.h (s.stack.getD i 0)):Int) else -1)=rG (SL s.h (s.stack.getD i 0)) (SL s'.h (s.stack.getD i 0)) from rfl]
  generalize rG (SL s.h (s.stack.getD i 0)) (SL s'.h (s.stack.getD i 0))=d at hd ⊢
  rw [e1]
  generalize s.stack.getD i 0=z at hd hcz16 ⊢
  have nx:(∃ j:Nat,([Value.int .i64 ((i+1:Nat):Int)]:List Value)=[.int .i64 j]∧j<=s.stack.length∧Fr [] H10 H16)∧(((s.stack.length:Int)-((i+1:Nat):Int)).toNat<((s.stack.length:Int)-(i:Int)).toNat):=⟨⟨i+1,rfl,by omega,f06⟩,by omega⟩
  have zero:∀ {A B:Prop},d=0->B->cond (decide (d<0)) (Q (.bool false) H16) (cond (decide (d > 1)) (Q (.bool false) H16) (cond (d == 1) A B)):=fun {A B} hd hB=>by rw [hd];exact hB
  have one:∀ {A B:Prop},d=1->A->cond (decide (d<0)) (Q (.bool false) H16) (cond (decide (d > 1)) (Q (.bool false) H16) (cond (d == 1) A B)):=fun {A B} hd hA=>by rw [hd];exact hA
  rw [aX,af]
  refine ap (fun he0=>?_) fun he0=>?_
  ·refine ⟨_,rfl,_,_,_,hcw16,⟨by omega,by omega⟩,qz,hqz,_,by rw [Int.toNat_natCast,Nat.mul_one];exact hcz16,?_⟩
   rw [aX,af]
   refine ap (fun hzr=>?_) fun hzr=>?_
   ·refine ⟨_,hB16.cell 2,?_⟩
    rw [dS,af]
    refine ap (fun hx=>?_) fun hx=>?_
    ·rcases hd with hd | ⟨hd,_⟩
     ·exact zero hd nx
     ·exact one hd nx
    ·refine ⟨_,hB16.cell 2,?_⟩
     rcases hd with hd | ⟨hd,_,_,hx2⟩
     ·exact zero hd nx
     ·refine one hd ?_
      have hx3:x.sel=mf:=hx2.resolve_left hx
      rw [show cp x.sel ⟨#[105,110,115,116,86,97,114,65,116,58,112,117,116,58]⟩=true from jQ.2 hx3,Bool.not_true,cond_false]
      exact nx
   ·rcases hd with hd | ⟨_,_,hzr2,_⟩
    ·exact zero hd nx
    ·exact absurd hzr2 hzr
  ·rcases hd with hd | ⟨_,he,_⟩
   ·exact zero hd nx
   ·exact absurd he he0
 have hi2:i=s.stack.length:=by omega
 subst hi2
 have u15:Up D H D' H15:=uH.trans (Up.of_nil f15)
 refine dR ⟨_,rfl,?_⟩
 rw [aY,af]
 refine ap (fun he=>?_) fun he=>?_
 ·rw [q.bad he]
  obtain ⟨G',hU',_⟩:=q.ui
  exact h H15 D' s' t' [] ⟨by rw [hstk];exact hD15,q.all,hQ.pair,⟨G',hU'⟩,by rw [hstk];omega⟩ (by rw [hstk];simp) (by simp) u15
 have he0:res.2=0:=Classical.byContradiction he
 obtain ⟨G',hU',hok⟩:=q.ui
 have hw:=hok he0
 have hans:=q.ans he0
 refine xp hD15 (by omega) ?_
 have fin:∀ {H1 H':ae}{D'':az},Fr [] H15 H1->QD H' db D'' { s' with stack:=s'.stack++[res.1] } t' v->Up D' H1 D'' H'->Q (.bool true) H':=fun {H1 H' D''} f1 hQ' u' =>
  h H' D'' _ t' [res.1] hQ' (by simp [hstk]) (by simp) (u15.trans (om f1 u'))
 have comes:∀ {H1:ae}{R:ae->Prop},Fr [] H15 H1->(∀ H' D'',QD H' db D'' { s' with stack:=s'.stack++[res.1] } t' v->Up D' H1 D'' H'->R H')->ac PP wd #[.pointer (some ⟨db,0,none⟩),.int .i64 res.1] (fun v102 H24=>v102=.tuple #[]∧R H24) H1:=fun {H1 R} f1 hR =>
  vm (hD15.nil f1) hstk.symm q.all hQ.pair hU' hw (by rw [hstk];exact hl) hR
 cases hb:decide (res.1∈s.stack) with
 | true=>exact comes (Fr.refl _ _) fun H' D'' hQ' u'=>fin (Fr.refl _ _) hQ' u'
 | false =>
  rw [Bool.not_false,cond_true]
  have hnk:=of_decide_eq_false hb
  obtain ⟨b',F2,hcK2,hK2,_⟩:=hD15.kern
  refine fS hK2.kinds ⟨_,rfl,?_⟩
  rw [aX,af]
  refine ap (fun hk3=>?_) fun _=>comes (Fr.refl _ _) fun H' D'' hQ' u'=>fin (Fr.refl _ _) hQ' u'
  refine jf hD15 (jk q.all) fun a97 l97 c97 G97 H22 hO22 f22 _=>⟨_,_,_,rfl,cY (fun _=>?_) fun _=>comes f22 fun H' D'' hQ' u'=>fin f22 hQ' u'⟩
  refine jf (hD15.nil f22) (jk q.all) fun a99 l99 c99 G99 H23 hO23 f23 _=>⟨_,_,_,rfl,?_⟩
  have f223:=f22.trans f23
  have hex:=(hw.2 hk3).1
  obtain ⟨cw0,fw0,lw0,hxw⟩:∃ c0 f0 l0,ob s'.h (res.1 / 4)=some (c0,f0,l0):=by
   cases hx:ob s'.h (res.1 / 4) with
   | none=>exact absurd hx hex
   | some y=>exact ⟨y.1,y.2.1,y.2.2,rfl⟩
  have hSL:SL s'.h res.1=cw0 :: fw0 :: lw0:=by
   unfold SL
   rw [if_pos hk3,hxw]
  rw [hSL] at hO23
  have hl99:0<l99:=by have:=hO23.len;simp [ag] at this;omega
  obtain ⟨qz,hqz,hcz,_⟩:=hO23.rd.int (i:=0) (by decide) (by omega)
  refine ⟨⟨by decide,by omega⟩,qz,hqz,_,by simpa using hcz,?_⟩
  show cond (cw0 != 48) _ _
  rw [aY,af]
  refine ap (fun h48=>?_) fun _=>comes f223 fun H' D'' hQ' u'=>fin f223 hQ' u'
  refine comes f223 fun H' D'' hQ' u'=>?_
  rw [aY]
  rw [show (!decide (res.1≠72))=decide (res.1=72) by by_cases h72:res.1=72 <;> simp [h72],af]
  refine ap (fun _=>fin f223 hQ' u') fun h72=>?_
  have hB':=((hB15.fr f223 (by simp)).fr u'.1 hBD)
  refine ⟨_,hB'.cell 2,zU fun z hz=>⟨_,rfl,?_⟩⟩
  cases z with
  | true=>exact fin f223 hQ' u'
  | false =>
   refine ⟨_,hB'.cell 2,xa fun z2 hz2=>⟨_,rfl,?_⟩⟩
   have:z2=true:=by
    rcases hans with h1 | h1 | h1 | h1 | h1 | h1
    ·exact absurd h1 hnk
    ·exact absurd hk3 h1
    ·rw [hSL] at h1
     simp only [List.head?_cons,Option.some.injEq] at h1
     exact absurd h1 h48
    ·exact absurd h1 h72
    ·have:=hz h1;cases this
    ·exact hz2 h1
   rw [this]
   exact fin f223 hQ' u'
end
end Go.Proofs.YtgjfejoohojokaaGreatDoor
namespace Go.Proofs.YtgjfejoohojokaaGreatDoor
open Kw
section
variable {H:ae}{b:Nat}{cs:Array Value}{v0 v1 v2 v3 v4 v5 v6:Value}
theorem dD (h:aV H b cs) (j:Nat) (v:Value):aV (av H ((⟨b,0,none⟩:Addr).add j) v) b (cs.setIfInBounds j v):=by rw [al,Nat.zero_add];exact h.set j v
theorem i6 (h:aV H b cs){j:Nat} (hj:j<cs.size):Wr H ((⟨b,0,none⟩:Addr).add j):=by rw [al,Nat.zero_add];exact h.wr hj
theorem ji (j:Nat) (v:Value):Fr [b] H (av H ((⟨b,0,none⟩:Addr).add j) v):=by rw [al];exact Fr.set (by simp)
def A1 (H:ae) (b:Nat) (v0 v1 v2 v3:Value):ae:=av (av (av (av H (⟨b,0,none⟩:Addr) v0) ((⟨b,0,none⟩:Addr).add 1) v1) ((⟨b,0,none⟩:Addr).add 2) v2) ((⟨b,0,none⟩:Addr).add 3) v3
def pJ (H:ae) (b:Nat) (v0 v1 v2 v3 v4 v5:Value):ae:=av (av (A1 H b v0 v1 v2 v3) ((⟨b,0,none⟩:Addr).add 4) v4) ((⟨b,0,none⟩:Addr).add 5) v5
theorem tQ:av (av (av (av (av (av H (⟨b,0,none⟩:Addr) v0) ((⟨b,0,none⟩:Addr).add 1) v1) ((⟨b,0,none⟩:Addr).add 2) v2) ((⟨b,0,none⟩:Addr).add 3) v3) ((⟨b,0,none⟩:Addr).add 4) v4) ((⟨b,0,none⟩:Addr).add 5) v5=pJ H b v0 v1 v2 v3 v4 v5:=rfl
theorem MB {R:Prop} (hB:aV H b cs) (hs:cs.size=6) (hR:R):Wr H (⟨b,0,none⟩:Addr)∧Wr (av H (⟨b,0,none⟩:Addr) v0) ((⟨b,0,none⟩:Addr).add 1)∧Wr (av (av H (⟨b,0,none⟩:Addr) v0) ((⟨b,0,none⟩:Addr).add 1) v1) ((⟨b,0,none⟩:Addr).add 2) ∧
  Wr (av (av (av H (⟨b,0,none⟩:Addr) v0) ((⟨b,0,none⟩:Addr).add 1) v1) ((⟨b,0,none⟩:Addr).add 2) v2) ((⟨b,0,none⟩:Addr).add 3) ∧
  Wr (av (av (av (av H (⟨b,0,none⟩:Addr) v0) ((⟨b,0,none⟩:Addr).add 1) v1) ((⟨b,0,none⟩:Addr).add 2) v2) ((⟨b,0,none⟩:Addr).add 3) v3) ((⟨b,0,none⟩:Addr).add 4) ∧
  Wr (av (av (av (av (av H (⟨b,0,none⟩:Addr) v0) ((⟨b,0,none⟩:Addr).add 1) v1) ((⟨b,0,none⟩:Addr).add 2) v2) ((⟨b,0,none⟩:Addr).add 3) v3) ((⟨b,0,none⟩:Addr).add 4) v4) ((⟨b,0,none⟩:Addr).add 5)∧R:=by
 have h0:=hB.set 0 v0
 have h1:=dD h0 1 v1
 have h2:=dD h1 2 v2
 have h3:=dD h2 3 v3
 have h4:=dD h3 4 v4
 exact ⟨hB.wr (by omega),i6 h0 (by simp;omega),i6 h1 (by simp;omega),i6 h2 (by simp;omega),i6 h3 (by simp;omega),i6 h4 (by simp;omega),hR⟩
theorem wQ:Fr [b] H (A1 H b v0 v1 v2 v3):=(((Fr.set (by simp)).trans (ji 1 v1)).trans (ji 2 v2)).trans (ji 3 v3)
theorem wF:Fr [b] H (pJ H b v0 v1 v2 v3 v4 v5):=(wQ.trans (ji 4 v4)).trans (ji 5 v5)
theorem tj (hB:aV H b cs) (hs:cs.size=6):aV (pJ H b v0 v1 v2 v3 v4 v5) b #[v0,v1,v2,v3,v4,v5]:=by
 have e:((((((cs.setIfInBounds 0 v0).setIfInBounds 1 v1).setIfInBounds 2 v2).setIfInBounds 3 v3).setIfInBounds 4 v4).setIfInBounds 5 v5)=#[v0,v1,v2,v3,v4,v5]:=by
  obtain ⟨l⟩:=cs
  match l,hs with
  | [_,_,_,_,_,_],_=>rfl
 rw [←e]
 exact dD (dD (dD (dD (dD (hB.set 0 v0) 1 v1) 2 v2) 3 v3) 4 v4) 5 v5
end
end Go.Proofs.YtgjfejoohojokaaGreatDoor
