/- Lemmas for RLists: functions of the program as predicate transformers, and their contracts. -/
import Derived.Test.YtmkdkplipbocjaaGreatDoorZL5
set_option linter.all false
set_option maxRecDepth 100000
set_option maxHeartbeats 4000000
namespace Go.Proofs.YtmkdkplipbocjaaGreatDoor
open Kw
variable {Q:QT}{H:Heap}
abbrev n_k30:Nat:=30
def kilnlaw13_Lists_apart_Ls:Live :=
 fun | 2=>some [(3,3)] | 7=>some [(4,3)] | 12=>some [(5,3)] | 15=>some [(6,3)] | 19=>some [(7,3)] | 22=>some [(8,3)] | 28=>some [(9,80),(11,3)] | 32=>some [(12,37),(13,3)] | 37=>some [(10,178),(14,3)] | 41=>some [(15,66),(16,3)] | 46=>some [(17,3)] | 50=>some [(19,3)] | 55=>some [(20,3)] | 59=>some [(22,3)] | _=>none
def kilnlaw13_Lists_apart_K3 (Q:QT) (t:Array Value) (H:Heap):Prop :=
 ev PP kilnlaw13_Lists_apart_Ls (seqR 3 (bodyOf Tryz.f30)) (fnQ PP Tryz.f30 Q) ⟨t,[]⟩ H
def kilnlaw13_Lists_apart_K7 (Q:QT) (t:Array Value) (H:Heap):Prop :=
 ev PP kilnlaw13_Lists_apart_Ls (seqR 7 (bodyOf Tryz.f30)) (fnQ PP Tryz.f30 Q) ⟨t,[]⟩ H
def kilnlaw13_Lists_apart_K9 (Q:QT) (t:Array Value) (H:Heap):Prop :=
 ev PP kilnlaw13_Lists_apart_Ls (seqR 9 (bodyOf Tryz.f30)) (fnQ PP Tryz.f30 Q) ⟨t,[]⟩ H
def kilnlaw13_Lists_apart_K10 (Q:QT) (t:Array Value) (H:Heap):Prop :=
 ev PP kilnlaw13_Lists_apart_Ls (seqR 10 (bodyOf Tryz.f30)) (fnQ PP Tryz.f30 Q) ⟨t,[]⟩ H
def k30 (p1:Option Addr) (Q:QT) (H:Heap):Prop :=
 ∃(I2:IT) (μ2:MT),I2 [iV 0] H∧∀ w3 H1,I2 w3 H1→∀ g_4:Nat→Value,∃ n5,w3=[iV n5]∧∃ q6,p1=some q6∧∃ a7 l7 c7,cellH H1 q6=some (lV a7 l7 c7)∧cond (decide (n5<(l7:Int))) (∃ q8,p1=some q8∧∃ a9 l9 c9,cellH H1 q8=some (lV a9 l9 c9)∧((0:Int)≤n5∧n5<(l9:Int))∧∃ q10,a9=some q10∧∃ a11 l11 c11,cellH H1 (q10.add (Int.toNat n5*1))=some (lV a11 l11 c11)∧∃ q12,p1=some q12∧∃ a13 l13 c13,cellH H1 (q12.add 1)=some (lV a13 l13 c13)∧((0:Int)≤n5∧n5<(l13:Int))∧∃ q14,a13=some q14∧∃ a15 l15 c15,cellH H1 (q14.add (Int.toNat n5*1))=some (lV a15 l15 c15)∧cS 77 #[lV a11 l11 c11,lV a15 l15 c15] (fun v16 H2=>∃ b17,v16=.bool b17∧True∧cond (!b17) (Q (.bool false) H2) (I2 [iV (wW (n5+1))] H2∧μ2 [iV (wW (n5+1))] H2<μ2 w3 H1)) H1) (∃(I18:IT) (μ18:MT),I18 [iV 0] H1∧∀ w19 H3,I18 w19 H3→∀ g_20:Nat→Value,∃ n21,w19=[iV n21]∧∃ q22,p1=some q22∧∃ a23 l23 c23,cellH H3 (q22.add 2)=some (lV a23 l23 c23)∧cond (decide (n21<(l23:Int))) (∃ q24,p1=some q24∧∃ a25 l25 c25,cellH H3 (q24.add 2)=some (lV a25 l25 c25)∧((0:Int)≤n21∧n21<(l25:Int))∧∃ q26,a25=some q26∧∃ a27 l27 c27,cellH H3 (q26.add (Int.toNat n21*1))=some (lV a27 l27 c27)∧∃ q28,p1=some q28∧∃ a29 l29 c29,cellH H3 (q28.add 3)=some (lV a29 l29 c29)∧((0:Int)≤n21∧n21<(l29:Int))∧∃ q30,a29=some q30∧∃ a31 l31 c31,cellH H3 (q30.add (Int.toNat n21*1))=some (lV a31 l31 c31)∧cS 127 #[lV a27 l27 c27,lV a31 l31 c31] (fun v32 H4=>∃ b33,v32=.bool b33∧True∧cond (!b33) (Q (.bool false) H4) (I18 [iV (wW (n21+1))] H4∧μ18 [iV (wW (n21+1))] H4<μ18 w19 H3)) H3) (kilnlaw13_Lists_apart_K3 Q #[pV p1,.tuple #[],(g_20 2),iV n5,iV n21,.tuple #[],.tuple #[],.tuple #[],.tuple #[],.tuple #[],.tuple #[],.tuple #[],.tuple #[],.tuple #[],.tuple #[],.tuple #[],.tuple #[],.tuple #[],.tuple #[],.tuple #[],.tuple #[],.tuple #[],.tuple #[],iV n5,pV p1,pV (some q6),pV (some q6),lV a7 l7 c7,iV (l7:Int),.bool false,(g_4 30),(g_4 31),(g_4 32),(g_4 33),(g_4 34),(g_4 35),(g_4 36),(g_4 37),(g_4 38),(g_4 39),(g_4 40),(g_4 41),(g_4 42),(g_4 43),(g_4 44),(g_4 45),(g_4 46),(g_4 47),iV n21,pV p1,pV (some q22),pV (some (q22.add 2)),lV a23 l23 c23,iV (l23:Int),.bool false,(g_20 55),(g_20 56),(g_20 57),(g_20 58),(g_20 59),(g_20 60),(g_20 61),(g_20 62),(g_20 63),(g_20 64),(g_20 65),(g_20 66),(g_20 67),(g_20 68),(g_20 69),(g_20 70),(g_20 71),(g_20 72),.tuple #[],.tuple #[],.tuple #[],.tuple #[],.tuple #[],.tuple #[],.tuple #[],.tuple #[],.tuple #[],.tuple #[],.tuple #[],.tuple #[],.tuple #[],.tuple #[],.tuple #[],.tuple #[],.tuple #[],.tuple #[],.tuple #[],.tuple #[],.tuple #[],.tuple #[],.tuple #[],.tuple #[],.tuple #[],.tuple #[],.tuple #[],.tuple #[],.tuple #[],.tuple #[],.tuple #[],.tuple #[],.tuple #[],.tuple #[],.tuple #[],.tuple #[],.tuple #[],.tuple #[],.tuple #[],.tuple #[],.tuple #[],.tuple #[],.tuple #[],.tuple #[],.tuple #[],.tuple #[],.tuple #[],.tuple #[],.tuple #[],.tuple #[],.tuple #[],.tuple #[],.tuple #[],.tuple #[],.tuple #[],.tuple #[],.tuple #[],.tuple #[],.tuple #[],.tuple #[],.tuple #[],.tuple #[],.tuple #[],.tuple #[],.tuple #[],.tuple #[],.tuple #[],.tuple #[],.tuple #[],.tuple #[],.tuple #[],.tuple #[],.tuple #[],.tuple #[],.tuple #[],.tuple #[],.tuple #[],.tuple #[],.tuple #[],.tuple #[],.tuple #[],.tuple #[],.tuple #[],.tuple #[],.tuple #[],.tuple #[],.tuple #[],.tuple #[],.tuple #[],.tuple #[],.tuple #[],.tuple #[],.tuple #[],.tuple #[],.tuple #[],.tuple #[],.tuple #[],.tuple #[],.tuple #[],.tuple #[],.tuple #[],.tuple #[],.tuple #[],.tuple #[],.tuple #[],.tuple #[],.tuple #[],.tuple #[],.tuple #[],.tuple #[],.tuple #[],.tuple #[],.tuple #[],.tuple #[],.tuple #[],.tuple #[],.tuple #[],.tuple #[],.tuple #[],.tuple #[],.tuple #[],.tuple #[],.tuple #[],.tuple #[],.tuple #[],.tuple #[],.tuple #[],.tuple #[],.tuple #[],.tuple #[],.tuple #[],.tuple #[],.tuple #[],.tuple #[],.tuple #[],.tuple #[],.tuple #[],.tuple #[],.tuple #[],.tuple #[],.tuple #[],.tuple #[],.tuple #[],.tuple #[],.tuple #[],.tuple #[],.tuple #[],.tuple #[],.tuple #[],.tuple #[],.tuple #[],.tuple #[],.tuple #[],.tuple #[],.tuple #[],.tuple #[],.tuple #[],.tuple #[],.tuple #[],.tuple #[],.tuple #[],.tuple #[],.tuple #[],.tuple #[],.tuple #[],.tuple #[],.tuple #[],.tuple #[],.tuple #[],.tuple #[],.tuple #[],.tuple #[],.tuple #[],.tuple #[],.tuple #[],.tuple #[],.tuple #[],.tuple #[],.tuple #[],.tuple #[],.tuple #[],.tuple #[],.tuple #[],.tuple #[],.tuple #[],.tuple #[],.tuple #[],.tuple #[],.tuple #[],.tuple #[],.tuple #[],.tuple #[],.tuple #[],.tuple #[],.tuple #[],.tuple #[],.tuple #[],.tuple #[],.tuple #[],.tuple #[],.tuple #[],.tuple #[],.tuple #[],.tuple #[],.tuple #[],.tuple #[],.tuple #[],.tuple #[],.tuple #[],.tuple #[],.tuple #[],.tuple #[],.tuple #[],.tuple #[],.tuple #[],.tuple #[],.tuple #[],.tuple #[],.tuple #[],.tuple #[],.tuple #[],.tuple #[],.tuple #[],.tuple #[],.tuple #[],.tuple #[],.tuple #[],.tuple #[],.tuple #[],.tuple #[],.tuple #[],.tuple #[],.tuple #[],.tuple #[],.tuple #[],.tuple #[],.tuple #[],.tuple #[],.tuple #[],.tuple #[],.tuple #[],.tuple #[],.tuple #[],.tuple #[],.tuple #[],.tuple #[],.tuple #[],.tuple #[],.tuple #[],.tuple #[],.tuple #[],.tuple #[],.tuple #[],.tuple #[],.tuple #[],.tuple #[],.tuple #[],.tuple #[],.tuple #[],.tuple #[],.tuple #[],.tuple #[],.tuple #[],.tuple #[],.tuple #[],.tuple #[],.tuple #[],.tuple #[],.tuple #[],.tuple #[],.tuple #[],.tuple #[],.tuple #[]] H3))
theorem k30_ok {p1:Option Addr} (h:k30 p1 Q H):callS PP 30 #[.pointer p1] Q H :=
 callS_of good Tryz.func30 rfl (Ls:=kilnlaw13_Lists_apart_Ls) (by kernel_rfl) h
def kilnlaw13_Lists_apart_T3 (p1:Option Addr) (Yb:Value) (Yc:Value) (Yd:Value) (Ye:Value) (Yl:Value) (Ym:Value) (Yn:Value) (Yo:Value) (Yp:Value) (Yq:Value) (Yr:Value) (Ys:Value) (Yt:Value) (Yu:Value) (Yv:Value) (Yw:Value) (Yx:Value) (Yy:Value) (Yz:Value) (YA:Value) (YB:Value) (YC:Value) (YD:Value) (YE:Value) (YF:Value) (YG:Value) (YH:Value) (YI:Value) (YJ:Value) (YK:Value) (YL:Value) (YM:Value) (YN:Value) (YO:Value) (YP:Value) (YQ:Value) (YR:Value) (YS:Value) (YT:Value) (YU:Value) (YV:Value) (YW:Value) (YX:Value) (YY:Value) (YZ:Value) (Y0:Value) (Y1:Value) (Y2:Value) (Y3:Value) (Y4:Value) (Y5:Value) (Y6:Value) (Y7:Value) (Y8:Value) (Y9:Value) (Za:Value) (Zb:Value) (Zc:Value) (Zd:Value) (Ze:Value) (Zf:Value) (Zg:Value) (Zh:Value) (Zi:Value) (Zj:Value) (Zk:Value) (Xn:Value) (Xo:Value) (Xp:Value) (Xq:Value) (Xr:Value) (Xs:Value) (Xt:Value) (Xu:Value) (Xv:Value) (Xw:Value) (Xx:Value) (Xy:Value) (Xz:Value) (XA:Value) (XB:Value) (XC:Value) (XD:Value) (XE:Value) (XF:Value) (XG:Value) (XH:Value) (XI:Value) (XJ:Value) (XK:Value) (XL:Value) (XM:Value) (XN:Value) (XO:Value) (XP:Value) (XQ:Value) (XR:Value) (XS:Value) (XT:Value) (XU:Value) (XV:Value) (XW:Value) (XX:Value) (XY:Value) (XZ:Value) (X0:Value) (X1:Value) (X2:Value) (X3:Value) (X4:Value) (X5:Value) (X6:Value) (X7:Value) (X8:Value) (X9:Value) (Wa:Value) (Wb:Value) (Wc:Value) (Wd:Value) (We:Value) (Wf:Value) (Wg:Value) (Wh:Value) (Wi:Value) (Wj:Value) (Wk:Value) (Wl:Value) (Wm:Value) (Wn:Value) (Wo:Value) (Wp:Value) (Wq:Value) (Ws:Value) (Wt:Value) (Wu:Value) (Wv:Value) (Ww:Value) (Wx:Value) (Wy:Value) (Wz:Value) (WA:Value) (WB:Value) (WC:Value) (WD:Value) (WE:Value) (WF:Value) (WG:Value) (WH:Value) (WI:Value) (WJ:Value) (WK:Value) (WL:Value) (WM:Value) (WN:Value) (WO:Value) (WP:Value) (WQ:Value) (WR:Value) (WS:Value) (WT:Value) (WU:Value) (WV:Value) (WW:Value) (WX:Value) (WY:Value) (WZ:Value) (W2:Value) (W3:Value) (W4:Value) (W5:Value) (W6:Value) (W7:Value) (W9:Value) (Va:Value) (Vb:Value) (Vc:Value) (Vd:Value) (Ve:Value) (Vf:Value) (Vg:Value) (Vh:Value) (Vi:Value) (Vj:Value) (Vk:Value) (Vl:Value) (Vm:Value) (Vn:Value) (Vo:Value) (Vp:Value) (Vq:Value) (Vr:Value) (Vs:Value) (Vt:Value) (Vu:Value) (Vv:Value) (Vw:Value) (Vx:Value) (Vy:Value) (Vz:Value) (VA:Value) (VB:Value) (VC:Value) (VD:Value) (VE:Value) (VF:Value) (VG:Value) (VH:Value) (VI:Value) (VJ:Value) (VK:Value) (VL:Value) (VM:Value) (VN:Value) (VO:Value) (VP:Value) (VQ:Value) (VR:Value) (VS:Value) (VT:Value) (VU:Value) (VV:Value) (VW:Value) (VX:Value) (VY:Value) (VZ:Value) (V0:Value) (V1:Value) (V2:Value) (V3:Value) (V4:Value) (V5:Value) (V6:Value) (V7:Value) (V8:Value) (V9:Value) (Ja:Value) (Jb:Value) (Jc:Value) (Jd:Value) (Je:Value) (Jf:Value) (Jg:Value) (Jh:Value) (Ji:Value) (Jj:Value) (Jk:Value) (Jl:Value) (Jm:Value) (Jn:Value) (Jo:Value) (Jp:Value) (Jq:Value) (Jr:Value) (Js:Value) (Jt:Value) (Ju:Value) (Jv:Value) (Jw:Value) (Jx:Value) (Jy:Value) (Jz:Value) (JA:Value) (JB:Value) (JC:Value) (JD:Value) (JE:Value) (JF:Value) (JG:Value) (JH:Value) (JI:Value) (JJ:Value) (JK:Value) (JL:Value) (JM:Value) (JN:Value) (Q:QT) (H:Heap):Prop :=
 ∃(I2:IT) (μ2:MT),I2 [iV 0] H∧∀ w3 H1,I2 w3 H1→∀ g_4:Nat→Value,∃ n5,w3=[iV n5]∧∃ q6,p1=some q6∧∃ a7 l7 c7,cellH H1 q6=some (lV a7 l7 c7)∧cond (decide (n5<(l7:Int))) (∃(I8:IT) (μ8:MT),I8 [iV 0] H1∧∀ w9 H2,I8 w9 H2→∀ g_10:Nat→Value,∃ n11,w9=[iV n11]∧∃ q12,p1=some q12∧∃ a13 l13 c13,cellH H2 q12=some (lV a13 l13 c13)∧((0:Int)≤n5∧n5<(l13:Int))∧∃ q14,a13=some q14∧∃ a15 l15 c15,cellH H2 (q14.add (Int.toNat n5*1))=some (lV a15 l15 c15)∧cond (decide (n11<(l15:Int))) (∃ q16,p1=some q16∧∃ a17 l17 c17,cellH H2 q16=some (lV a17 l17 c17)∧((0:Int)≤n5∧n5<(l17:Int))∧∃ q18,a17=some q18∧∃ a19 l19 c19,cellH H2 (q18.add (Int.toNat n5*1))=some (lV a19 l19 c19)∧cS 128 #[iV n5] (fun v20 H3=>∃ s21,v20=sV s21∧((cellH H3 (q18.add (Int.toNat n5*1))=some (lV a19 l19 c19)∧True)∧((cellH H3 q16=some (lV a17 l17 c17)∧True)∧True))∧((0:Int)≤n11∧n11<(l19:Int))∧∃ q22,a19=some q22∧Wr H3 (q22.add (Int.toNat n11*1))∧True∧I8 [iV (wW (n11+1))] (setH H3 (q22.add (Int.toNat n11*1)) (sV s21))∧μ8 [iV (wW (n11+1))] (setH H3 (q22.add (Int.toNat n11*1)) (sV s21))<μ8 w9 H2) H2) (I2 [iV (wW (n5+1))] H2∧μ2 [iV (wW (n5+1))] H2<μ2 w3 H1)) (∃(I23:IT) (μ23:MT),I23 [iV 0] H1∧∀ w24 H4,I23 w24 H4→∀ g_25:Nat→Value,∃ n26,w24=[iV n26]∧∃ q27,p1=some q27∧∃ a28 l28 c28,cellH H4 (q27.add 2)=some (lV a28 l28 c28)∧cond (decide (n26<(l28:Int))) (∃(I29:IT) (μ29:MT),I29 [iV 0] H4∧∀ w30 H5,I29 w30 H5→∀ g_31:Nat→Value,∃ n32,w30=[iV n32]∧∃ q33,p1=some q33∧∃ a34 l34 c34,cellH H5 (q33.add 2)=some (lV a34 l34 c34)∧((0:Int)≤n26∧n26<(l34:Int))∧∃ q35,a34=some q35∧∃ a36 l36 c36,cellH H5 (q35.add (Int.toNat n26*1))=some (lV a36 l36 c36)∧cond (decide (n32<(l36:Int))) (∃ q37,p1=some q37∧∃ a38 l38 c38,cellH H5 (q37.add 2)=some (lV a38 l38 c38)∧((0:Int)≤n26∧n26<(l38:Int))∧∃ q39,a38=some q39∧∃ a40 l40 c40,cellH H5 (q39.add (Int.toNat n26*1))=some (lV a40 l40 c40)∧((0:Int)≤n32∧n32<(l40:Int))∧∃ q41,shH (setH H5 (q41.add (Int.toNat n32*1)) (iV (wW (1000+n26)))) fun C1=>a40=some q41∧Wr H5 (q41.add (Int.toNat n32*1))∧I29 [iV (wW (n32+1))] C1∧μ29 [iV (wW (n32+1))] C1<μ29 w30 H5) (I23 [iV (wW (n26+1))] H5∧μ23 [iV (wW (n26+1))] H5<μ23 w24 H4)) (kilnlaw13_Lists_apart_K7 Q #[pV p1,Yb,Yc,Yd,Ye,iV n5,(g_4 6),iV n26,(g_25 8),lV none 0 0,lV none 0 0,Yl,Ym,Yn,Yo,Yp,Yq,Yr,Ys,Yt,Yu,Yv,Yw,Yx,Yy,Yz,YA,YB,YC,YD,YE,YF,YG,YH,YI,YJ,YK,YL,YM,YN,YO,YP,YQ,YR,YS,YT,YU,YV,YW,YX,YY,YZ,Y0,Y1,Y2,Y3,Y4,Y5,Y6,Y7,Y8,Y9,Za,Zb,Zc,Zd,Ze,Zf,Zg,Zh,Zi,Zj,Zk,iV n5,pV p1,pV (some q6),pV (some q6),lV a7 l7 c7,iV (l7:Int),.bool false,(g_4 80),(g_4 81),(g_4 82),(g_4 83),(g_4 84),(g_4 85),(g_4 86),(g_4 87),(g_4 88),(g_4 89),(g_4 90),(g_4 91),(g_4 92),(g_4 93),(g_4 94),(g_4 95),(g_4 96),(g_4 97),(g_4 98),(g_4 99),(g_4 100),(g_4 101),(g_4 102),(g_4 103),(g_4 104),iV n26,pV p1,pV (some q27),pV (some (q27.add 2)),lV a28 l28 c28,iV (l28:Int),.bool false,(g_25 112),(g_25 113),(g_25 114),(g_25 115),(g_25 116),(g_25 117),(g_25 118),(g_25 119),(g_25 120),(g_25 121),(g_25 122),(g_25 123),(g_25 124),(g_25 125),(g_25 126),(g_25 127),(g_25 128),(g_25 129),(g_25 130),(g_25 131),(g_25 132),(g_25 133),(g_25 134),(g_25 135),(g_25 136),Xn,Xo,Xp,Xq,Xr,Xs,Xt,Xu,Xv,Xw,Xx,Xy,Xz,XA,XB,XC,XD,XE,XF,XG,XH,XI,XJ,XK,XL,XM,XN,XO,XP,XQ,XR,XS,XT,XU,XV,XW,XX,XY,XZ,X0,X1,X2,X3,X4,X5,X6,X7,X8,X9,Wa,Wb,Wc,Wd,We,Wf,Wg,Wh,Wi,Wj,Wk,Wl,Wm,Wn,Wo,Wp,Wq,Ws,Wt,Wu,Wv,Ww,Wx,Wy,Wz,WA,WB,WC,WD,WE,WF,WG,WH,WI,WJ,WK,WL,WM,WN,WO,WP,WQ,WR,WS,WT,WU,WV,WW,WX,WY,WZ,W2,W3,W4,W5,W6,W7,W9,Va,Vb,Vc,Vd,Ve,Vf,Vg,Vh,Vi,Vj,Vk,Vl,Vm,Vn,Vo,Vp,Vq,Vr,Vs,Vt,Vu,Vv,Vw,Vx,Vy,Vz,VA,VB,VC,VD,VE,VF,VG,VH,VI,VJ,VK,VL,VM,VN,VO,VP,VQ,VR,VS,VT,VU,VV,VW,VX,VY,VZ,V0,V1,V2,V3,V4,V5,V6,V7,V8,V9,Ja,Jb,Jc,Jd,Je,Jf,Jg,Jh,Ji,Jj,Jk,Jl,Jm,Jn,Jo,Jp,Jq,Jr,Js,Jt,Ju,Jv,Jw,Jx,Jy,Jz,JA,JB,JC,JD,JE,JF,JG,JH,JI,JJ,JK,JL,JM,JN] H4))
theorem kilnlaw13_Lists_apart_T3_ok {p1:Option Addr}{Yb Yc Yd Ye Yf Yg Yh Yi Yj Yk Yl Ym Yn Yo Yp Yq Yr Ys Yt Yu Yv Yw Yx Yy Yz YA YB YC YD YE YF YG YH YI YJ YK YL YM YN YO YP YQ YR YS YT YU YV YW YX YY YZ Y0 Y1 Y2 Y3 Y4 Y5 Y6 Y7 Y8 Y9 Za Zb Zc Zd Ze Zf Zg Zh Zi Zj Zk Zl Zm Zn Zo Zp Zq Zr Zs Zt Zu Zv Zw Zx Zy Zz ZA ZB ZC ZD ZE ZF ZG ZH ZI ZJ ZK ZL ZM ZN ZO ZP ZQ ZR ZS ZT ZU ZV ZW ZX ZY ZZ Z0 Z1 Z2 Z3 Z4 Z5 Z6 Z7 Z8 Z9 Xa Xb Xc Xd Xe Xf Xg Xh Xi Xj Xk Xl Xm Xn Xo Xp Xq Xr Xs Xt Xu Xv Xw Xx Xy Xz XA XB XC XD XE XF XG XH XI XJ XK XL XM XN XO XP XQ XR XS XT XU XV XW XX XY XZ X0 X1 X2 X3 X4 X5 X6 X7 X8 X9 Wa Wb Wc Wd We Wf Wg Wh Wi Wj Wk Wl Wm Wn Wo Wp Wq Ws Wt Wu Wv Ww Wx Wy Wz WA WB WC WD WE WF WG WH WI WJ WK WL WM WN WO WP WQ WR WS WT WU WV WW WX WY WZ W2 W3 W4 W5 W6 W7 W9 Va Vb Vc Vd Ve Vf Vg Vh Vi Vj Vk Vl Vm Vn Vo Vp Vq Vr Vs Vt Vu Vv Vw Vx Vy Vz VA VB VC VD VE VF VG VH VI VJ VK VL VM VN VO VP VQ VR VS VT VU VV VW VX VY VZ V0 V1 V2 V3 V4 V5 V6 V7 V8 V9 Ja Jb Jc Jd Je Jf Jg Jh Ji Jj Jk Jl Jm Jn Jo Jp Jq Jr Js Jt Ju Jv Jw Jx Jy Jz JA JB JC JD JE JF JG JH JI JJ JK JL JM JN:Value} (h:kilnlaw13_Lists_apart_T3 p1 Yb Yc Yd Ye Yl Ym Yn Yo Yp Yq Yr Ys Yt Yu Yv Yw Yx Yy Yz YA YB YC YD YE YF YG YH YI YJ YK YL YM YN YO YP YQ YR YS YT YU YV YW YX YY YZ Y0 Y1 Y2 Y3 Y4 Y5 Y6 Y7 Y8 Y9 Za Zb Zc Zd Ze Zf Zg Zh Zi Zj Zk Xn Xo Xp Xq Xr Xs Xt Xu Xv Xw Xx Xy Xz XA XB XC XD XE XF XG XH XI XJ XK XL XM XN XO XP XQ XR XS XT XU XV XW XX XY XZ X0 X1 X2 X3 X4 X5 X6 X7 X8 X9 Wa Wb Wc Wd We Wf Wg Wh Wi Wj Wk Wl Wm Wn Wo Wp Wq Ws Wt Wu Wv Ww Wx Wy Wz WA WB WC WD WE WF WG WH WI WJ WK WL WM WN WO WP WQ WR WS WT WU WV WW WX WY WZ W2 W3 W4 W5 W6 W7 W9 Va Vb Vc Vd Ve Vf Vg Vh Vi Vj Vk Vl Vm Vn Vo Vp Vq Vr Vs Vt Vu Vv Vw Vx Vy Vz VA VB VC VD VE VF VG VH VI VJ VK VL VM VN VO VP VQ VR VS VT VU VV VW VX VY VZ V0 V1 V2 V3 V4 V5 V6 V7 V8 V9 Ja Jb Jc Jd Je Jf Jg Jh Ji Jj Jk Jl Jm Jn Jo Jp Jq Jr Js Jt Ju Jv Jw Jx Jy Jz JA JB JC JD JE JF JG JH JI JJ JK JL JM JN Q H):kilnlaw13_Lists_apart_K3 Q #[.pointer p1,Yb,Yc,Yd,Ye,Yf,Yg,Yh,Yi,Yj,Yk,Yl,Ym,Yn,Yo,Yp,Yq,Yr,Ys,Yt,Yu,Yv,Yw,Yx,Yy,Yz,YA,YB,YC,YD,YE,YF,YG,YH,YI,YJ,YK,YL,YM,YN,YO,YP,YQ,YR,YS,YT,YU,YV,YW,YX,YY,YZ,Y0,Y1,Y2,Y3,Y4,Y5,Y6,Y7,Y8,Y9,Za,Zb,Zc,Zd,Ze,Zf,Zg,Zh,Zi,Zj,Zk,Zl,Zm,Zn,Zo,Zp,Zq,Zr,Zs,Zt,Zu,Zv,Zw,Zx,Zy,Zz,ZA,ZB,ZC,ZD,ZE,ZF,ZG,ZH,ZI,ZJ,ZK,ZL,ZM,ZN,ZO,ZP,ZQ,ZR,ZS,ZT,ZU,ZV,ZW,ZX,ZY,ZZ,Z0,Z1,Z2,Z3,Z4,Z5,Z6,Z7,Z8,Z9,Xa,Xb,Xc,Xd,Xe,Xf,Xg,Xh,Xi,Xj,Xk,Xl,Xm,Xn,Xo,Xp,Xq,Xr,Xs,Xt,Xu,Xv,Xw,Xx,Xy,Xz,XA,XB,XC,XD,XE,XF,XG,XH,XI,XJ,XK,XL,XM,XN,XO,XP,XQ,XR,XS,XT,XU,XV,XW,XX,XY,XZ,X0,X1,X2,X3,X4,X5,X6,X7,X8,X9,Wa,Wb,Wc,Wd,We,Wf,Wg,Wh,Wi,Wj,Wk,Wl,Wm,Wn,Wo,Wp,Wq,Ws,Wt,Wu,Wv,Ww,Wx,Wy,Wz,WA,WB,WC,WD,WE,WF,WG,WH,WI,WJ,WK,WL,WM,WN,WO,WP,WQ,WR,WS,WT,WU,WV,WW,WX,WY,WZ,W2,W3,W4,W5,W6,W7,W9,Va,Vb,Vc,Vd,Ve,Vf,Vg,Vh,Vi,Vj,Vk,Vl,Vm,Vn,Vo,Vp,Vq,Vr,Vs,Vt,Vu,Vv,Vw,Vx,Vy,Vz,VA,VB,VC,VD,VE,VF,VG,VH,VI,VJ,VK,VL,VM,VN,VO,VP,VQ,VR,VS,VT,VU,VV,VW,VX,VY,VZ,V0,V1,V2,V3,V4,V5,V6,V7,V8,V9,Ja,Jb,Jc,Jd,Je,Jf,Jg,Jh,Ji,Jj,Jk,Jl,Jm,Jn,Jo,Jp,Jq,Jr,Js,Jt,Ju,Jv,Jw,Jx,Jy,Jz,JA,JB,JC,JD,JE,JF,JG,JH,JI,JJ,JK,JL,JM,JN] H :=
 evEq (by kernel_rfl) h
def kilnlaw13_Lists_apart_T7 (p1:Option Addr) (Yb:Value) (Yc:Value) (Yd:Value) (Ye:Value) (Yf:Value) (Yg:Value) (Yh:Value) (Yi:Value) (a2:Option Addr) (l2:Nat) (c2:Nat) (a3:Option Addr) (l3:Nat) (c3:Nat) (Yr:Value) (Ys:Value) (Yt:Value) (Yu:Value) (Yv:Value) (Yw:Value) (Yx:Value) (Yy:Value) (Yz:Value) (YA:Value) (YB:Value) (YC:Value) (YD:Value) (YE:Value) (YF:Value) (YG:Value) (YH:Value) (YI:Value) (YJ:Value) (YK:Value) (YL:Value) (YM:Value) (YN:Value) (YO:Value) (YP:Value) (YQ:Value) (YR:Value) (YS:Value) (YT:Value) (YU:Value) (YV:Value) (YW:Value) (YX:Value) (YY:Value) (YZ:Value) (Y0:Value) (Y1:Value) (Y2:Value) (Y3:Value) (Y4:Value) (Y5:Value) (Y6:Value) (Y7:Value) (Y8:Value) (Y9:Value) (Za:Value) (Zb:Value) (Zc:Value) (Zd:Value) (Ze:Value) (Zf:Value) (Zg:Value) (Zh:Value) (Zi:Value) (Zj:Value) (Zk:Value) (Zl:Value) (Zm:Value) (Zn:Value) (Zo:Value) (Zp:Value) (Zq:Value) (Zr:Value) (Zs:Value) (Zt:Value) (Zu:Value) (Zv:Value) (Zw:Value) (Zx:Value) (Zy:Value) (Zz:Value) (ZA:Value) (ZB:Value) (ZC:Value) (ZD:Value) (ZE:Value) (ZF:Value) (ZG:Value) (ZH:Value) (ZI:Value) (ZJ:Value) (ZK:Value) (ZL:Value) (ZM:Value) (ZN:Value) (ZO:Value) (ZP:Value) (ZQ:Value) (ZR:Value) (ZS:Value) (ZT:Value) (ZU:Value) (ZV:Value) (ZW:Value) (ZX:Value) (ZY:Value) (ZZ:Value) (Z0:Value) (Z1:Value) (Z2:Value) (Z3:Value) (Z4:Value) (Z5:Value) (Z6:Value) (Z7:Value) (Z8:Value) (Z9:Value) (Xa:Value) (Xb:Value) (Xc:Value) (Xd:Value) (Xe:Value) (Xf:Value) (Xg:Value) (Xh:Value) (Xi:Value) (Xj:Value) (Xk:Value) (Xl:Value) (Xm:Value) (Wu:Value) (Wv:Value) (Ww:Value) (Wx:Value) (Wy:Value) (Wz:Value) (WA:Value) (WB:Value) (WC:Value) (WD:Value) (WE:Value) (WF:Value) (WG:Value) (WH:Value) (WI:Value) (WJ:Value) (WK:Value) (WL:Value) (WM:Value) (WN:Value) (WO:Value) (WP:Value) (WQ:Value) (WR:Value) (WS:Value) (WT:Value) (WU:Value) (WV:Value) (WW:Value) (WX:Value) (WY:Value) (WZ:Value) (W2:Value) (W3:Value) (W4:Value) (W5:Value) (W6:Value) (W7:Value) (W9:Value) (Va:Value) (Vb:Value) (Vc:Value) (Vd:Value) (Ve:Value) (Vf:Value) (Vg:Value) (Vh:Value) (Vi:Value) (Vj:Value) (Vk:Value) (Vl:Value) (Vm:Value) (Vn:Value) (Vo:Value) (Vp:Value) (Vq:Value) (Vr:Value) (Vs:Value) (Vt:Value) (Vu:Value) (Vv:Value) (Vw:Value) (Vx:Value) (Vy:Value) (Vz:Value) (VA:Value) (VB:Value) (VC:Value) (VD:Value) (VE:Value) (VF:Value) (VG:Value) (VH:Value) (VI:Value) (VJ:Value) (VK:Value) (VL:Value) (VM:Value) (VN:Value) (VO:Value) (VP:Value) (VQ:Value) (VR:Value) (VS:Value) (VT:Value) (VU:Value) (VV:Value) (VW:Value) (VX:Value) (VY:Value) (VZ:Value) (V0:Value) (V1:Value) (V2:Value) (V3:Value) (V4:Value) (V5:Value) (V6:Value) (V7:Value) (V8:Value) (V9:Value) (Ja:Value) (Jb:Value) (Jc:Value) (Jd:Value) (Je:Value) (Jf:Value) (Jg:Value) (Jh:Value) (Ji:Value) (Jj:Value) (Jk:Value) (Jl:Value) (Jm:Value) (Jn:Value) (Jo:Value) (Jp:Value) (Jq:Value) (Jr:Value) (Js:Value) (Jt:Value) (Ju:Value) (Jv:Value) (Jw:Value) (Jx:Value) (Jy:Value) (Jz:Value) (JA:Value) (JB:Value) (JC:Value) (JD:Value) (JE:Value) (JF:Value) (JG:Value) (JH:Value) (JI:Value) (JJ:Value) (JK:Value) (JL:Value) (JM:Value) (JN:Value) (Q:QT) (H:Heap):Prop :=
 ∃(I4:IT) (μ4:MT),I4 [lV a2 l2 c2,iV 0] H∧∀ w5 H1,I4 w5 H1→∀ g_6:Nat→Value,∃ a7 l7 c7 n8,w5=[lV a7 l7 c7,iV n8]∧∃ q9,p1=some q9∧∃ a10 l10 c10,cellH H1 q9=some (lV a10 l10 c10)∧cond (decide (n8<(l10:Int))) (∃ q11,p1=some q11∧∃ a12 l12 c12,cellH H1 q11=some (lV a12 l12 c12)∧((0:Int)≤n8∧n8<(l12:Int))∧∃ q13,a12=some q13∧∃ a14 l14 c14,cellH H1 (q13.add (Int.toNat n8*1))=some (lV a14 l14 c14)∧cS 128 #[iV n8] (fun v15 H2=>∃ s16:ByteArray,shH (H2.push (.cells #[sV ((⟨#[103]⟩:ByteArray)++s16)] 9)) fun C1=>v15=sV s16∧((cellH H2 (q13.add (Int.toNat n8*1))=some (lV a14 l14 c14)∧True)∧((cellH H2 q11=some (lV a12 l12 c12)∧True)∧True))∧cond (decide ((((⟨#[103]⟩:ByteArray).size+s16.size:Nat):Int) > IntKind.i64.max)) False (((cellH C1 (q13.add (Int.toNat n8*1))=some (lV a14 l14 c14)∧True)∧((cellH C1 q11=some (lV a12 l12 c12)∧True)∧True))∧evS PP (Builtin.append_ #[37,37] 37 #[lV a14 l14 c14,lV (some (A0 H2.size)) 1 1]) (fun v17 H3=>∃ a18 l18 c18,v17=lV a18 l18 c18∧True∧∃(I19:IT) (μ19:MT),I19 [lV a18 l18 c18,iV 0] H3∧∀ w20 H4,I19 w20 H4→∀ g_21:Nat→Value,∃ a22 l22 c22 n23,w20=[lV a22 l22 c22,iV n23]∧cond (decide (n23<40)) (cS 128 #[iV n8] (fun v24 H5=>∃ s25,v24=sV s25∧cond (decide ((((⟨#[103]⟩:ByteArray).size+s25.size:Nat):Int) > IntKind.i64.max)) False (evS PP (Builtin.append_ #[37,37] 37 #[lV a22 l22 c22,lV (some (A0 H5.size)) 1 1]) (fun v26 H6=>∃ a27 l27 c27,v26=lV a27 l27 c27∧I19 [lV a27 l27 c27,iV (wW (n23+1))] H6∧μ19 [lV a27 l27 c27,iV (wW (n23+1))] H6<μ19 w20 H4) (H5.push (.cells #[sV ((⟨#[103]⟩:ByteArray)++s25)] 9)))) H4) (evS PP (Builtin.append_ #[80,80] 80 #[lV a7 l7 c7,lV (some (A0 H4.size)) 1 1]) (fun v28 H7=>∃ a29 l29 c29,v28=lV a29 l29 c29∧I4 [lV a29 l29 c29,iV (wW (n8+1))] H7∧μ4 [lV a29 l29 c29,iV (wW (n8+1))] H7<μ4 w5 H1) (H4.push (.cells #[lV a22 l22 c22] 37)))) C1)) H1) (∃(I30:IT) (μ30:MT),I30 [lV a3 l3 c3,iV 0] H1∧∀ w31 H8,I30 w31 H8→∀ g_32:Nat→Value,∃ a33 l33 c33 n34,w31=[lV a33 l33 c33,iV n34]∧∃ q35,p1=some q35∧∃ a36 l36 c36,cellH H8 (q35.add 2)=some (lV a36 l36 c36)∧cond (decide (n34<(l36:Int))) (∃ q37,p1=some q37∧∃ a38 l38 c38,cellH H8 (q37.add 2)=some (lV a38 l38 c38)∧((0:Int)≤n34∧n34<(l38:Int))∧∃ q39,a38=some q39∧∃ a40 l40 c40,cellH H8 (q39.add (Int.toNat n34*1))=some (lV a40 l40 c40)∧evS PP (Builtin.append_ #[66,66] 66 #[lV a40 l40 c40,lV (some (A0 H8.size)) 1 1]) (fun v41 H9=>∃ a42 l42 c42,v41=lV a42 l42 c42∧∃(I43:IT) (μ43:MT),I43 [lV a42 l42 c42,iV 0] H9∧∀ w44 H10,I43 w44 H10→∀ g_45:Nat→Value,∃ a46 l46 c46 n47,w44=[lV a46 l46 c46,iV n47]∧cond (decide (n47<40)) (evS PP (Builtin.append_ #[66,66] 66 #[lV a46 l46 c46,lV (some (A0 H10.size)) 1 1]) (fun v48 H11=>∃ a49 l49 c49,v48=lV a49 l49 c49∧I43 [lV a49 l49 c49,iV (wW (n47+1))] H11∧μ43 [lV a49 l49 c49,iV (wW (n47+1))] H11<μ43 w44 H10) (H10.push (.cells #[iV (wW (500000+n34))] 3))) (evS PP (Builtin.append_ #[178,178] 178 #[lV a33 l33 c33,lV (some (A0 H10.size)) 1 1]) (fun v50 H12=>∃ a51 l51 c51,v50=lV a51 l51 c51∧I30 [lV a51 l51 c51,iV (wW (n34+1))] H12∧μ30 [lV a51 l51 c51,iV (wW (n34+1))] H12<μ30 w31 H8) (H10.push (.cells #[lV a46 l46 c46] 66)))) (H8.push (.cells #[iV (wW (500000+n34))] 3))) (kilnlaw13_Lists_apart_K9 Q #[pV p1,Yb,Yc,Yd,Ye,Yf,Yg,Yh,Yi,lV a7 l7 c7,lV a33 l33 c33,iV n8,(g_6 12),(g_6 13),iV n34,(g_32 15),(g_32 16),Yr,Ys,Yt,Yu,Yv,Yw,Yx,Yy,Yz,YA,YB,YC,YD,YE,YF,YG,YH,YI,YJ,YK,YL,YM,YN,YO,YP,YQ,YR,YS,YT,YU,YV,YW,YX,YY,YZ,Y0,Y1,Y2,Y3,Y4,Y5,Y6,Y7,Y8,Y9,Za,Zb,Zc,Zd,Ze,Zf,Zg,Zh,Zi,Zj,Zk,Zl,Zm,Zn,Zo,Zp,Zq,Zr,Zs,Zt,Zu,Zv,Zw,Zx,Zy,Zz,ZA,ZB,ZC,ZD,ZE,ZF,ZG,ZH,ZI,ZJ,ZK,ZL,ZM,ZN,ZO,ZP,ZQ,ZR,ZS,ZT,ZU,ZV,ZW,ZX,ZY,ZZ,Z0,Z1,Z2,Z3,Z4,Z5,Z6,Z7,Z8,Z9,Xa,Xb,Xc,Xd,Xe,Xf,Xg,Xh,Xi,Xj,Xk,Xl,Xm,iV n8,pV p1,pV (some q9),pV (some q9),lV a10 l10 c10,iV (l10:Int),.bool false,(g_6 144),(g_6 145),(g_6 146),(g_6 147),(g_6 148),(g_6 149),(g_6 150),(g_6 151),(g_6 152),(g_6 153),(g_6 154),(g_6 155),(g_6 156),(g_6 157),(g_6 158),(g_6 159),(g_6 160),(g_6 161),(g_6 162),(g_6 163),(g_6 164),(g_6 165),(g_6 166),(g_6 167),(g_6 168),(g_6 169),(g_6 170),(g_6 171),iV n34,pV p1,pV (some q35),pV (some (q35.add 2)),lV a36 l36 c36,iV (l36:Int),.bool false,(g_32 179),(g_32 180),(g_32 181),(g_32 182),(g_32 183),(g_32 184),(g_32 185),(g_32 186),(g_32 187),(g_32 188),(g_32 189),(g_32 190),(g_32 191),(g_32 192),(g_32 193),(g_32 194),(g_32 195),(g_32 196),(g_32 197),(g_32 198),(g_32 199),(g_32 200),(g_32 201),(g_32 202),(g_32 203),(g_32 204),Wu,Wv,Ww,Wx,Wy,Wz,WA,WB,WC,WD,WE,WF,WG,WH,WI,WJ,WK,WL,WM,WN,WO,WP,WQ,WR,WS,WT,WU,WV,WW,WX,WY,WZ,W2,W3,W4,W5,W6,W7,W9,Va,Vb,Vc,Vd,Ve,Vf,Vg,Vh,Vi,Vj,Vk,Vl,Vm,Vn,Vo,Vp,Vq,Vr,Vs,Vt,Vu,Vv,Vw,Vx,Vy,Vz,VA,VB,VC,VD,VE,VF,VG,VH,VI,VJ,VK,VL,VM,VN,VO,VP,VQ,VR,VS,VT,VU,VV,VW,VX,VY,VZ,V0,V1,V2,V3,V4,V5,V6,V7,V8,V9,Ja,Jb,Jc,Jd,Je,Jf,Jg,Jh,Ji,Jj,Jk,Jl,Jm,Jn,Jo,Jp,Jq,Jr,Js,Jt,Ju,Jv,Jw,Jx,Jy,Jz,JA,JB,JC,JD,JE,JF,JG,JH,JI,JJ,JK,JL,JM,JN] H8))
theorem kilnlaw13_Lists_apart_T7_ok {p1:Option Addr}{a2:Option Addr}{l2:Nat}{c2:Nat}{a3:Option Addr}{l3:Nat}{c3:Nat}{Yb Yc Yd Ye Yf Yg Yh Yi Yl Ym Yn Yo Yp Yq Yr Ys Yt Yu Yv Yw Yx Yy Yz YA YB YC YD YE YF YG YH YI YJ YK YL YM YN YO YP YQ YR YS YT YU YV YW YX YY YZ Y0 Y1 Y2 Y3 Y4 Y5 Y6 Y7 Y8 Y9 Za Zb Zc Zd Ze Zf Zg Zh Zi Zj Zk Zl Zm Zn Zo Zp Zq Zr Zs Zt Zu Zv Zw Zx Zy Zz ZA ZB ZC ZD ZE ZF ZG ZH ZI ZJ ZK ZL ZM ZN ZO ZP ZQ ZR ZS ZT ZU ZV ZW ZX ZY ZZ Z0 Z1 Z2 Z3 Z4 Z5 Z6 Z7 Z8 Z9 Xa Xb Xc Xd Xe Xf Xg Xh Xi Xj Xk Xl Xm Xn Xo Xp Xq Xr Xs Xt Xu Xv Xw Xx Xy Xz XA XB XC XD XE XF XG XH XI XJ XK XL XM XN XO XP XQ XR XS XT XU XV XW XX XY XZ X0 X1 X2 X3 X4 X5 X6 X7 X8 X9 Wa Wb Wc Wd We Wf Wg Wh Wi Wj Wk Wl Wm Wn Wo Wp Wq Ws Wt Wu Wv Ww Wx Wy Wz WA WB WC WD WE WF WG WH WI WJ WK WL WM WN WO WP WQ WR WS WT WU WV WW WX WY WZ W2 W3 W4 W5 W6 W7 W9 Va Vb Vc Vd Ve Vf Vg Vh Vi Vj Vk Vl Vm Vn Vo Vp Vq Vr Vs Vt Vu Vv Vw Vx Vy Vz VA VB VC VD VE VF VG VH VI VJ VK VL VM VN VO VP VQ VR VS VT VU VV VW VX VY VZ V0 V1 V2 V3 V4 V5 V6 V7 V8 V9 Ja Jb Jc Jd Je Jf Jg Jh Ji Jj Jk Jl Jm Jn Jo Jp Jq Jr Js Jt Ju Jv Jw Jx Jy Jz JA JB JC JD JE JF JG JH JI JJ JK JL JM JN:Value} (h:kilnlaw13_Lists_apart_T7 p1 Yb Yc Yd Ye Yf Yg Yh Yi a2 l2 c2 a3 l3 c3 Yr Ys Yt Yu Yv Yw Yx Yy Yz YA YB YC YD YE YF YG YH YI YJ YK YL YM YN YO YP YQ YR YS YT YU YV YW YX YY YZ Y0 Y1 Y2 Y3 Y4 Y5 Y6 Y7 Y8 Y9 Za Zb Zc Zd Ze Zf Zg Zh Zi Zj Zk Zl Zm Zn Zo Zp Zq Zr Zs Zt Zu Zv Zw Zx Zy Zz ZA ZB ZC ZD ZE ZF ZG ZH ZI ZJ ZK ZL ZM ZN ZO ZP ZQ ZR ZS ZT ZU ZV ZW ZX ZY ZZ Z0 Z1 Z2 Z3 Z4 Z5 Z6 Z7 Z8 Z9 Xa Xb Xc Xd Xe Xf Xg Xh Xi Xj Xk Xl Xm Wu Wv Ww Wx Wy Wz WA WB WC WD WE WF WG WH WI WJ WK WL WM WN WO WP WQ WR WS WT WU WV WW WX WY WZ W2 W3 W4 W5 W6 W7 W9 Va Vb Vc Vd Ve Vf Vg Vh Vi Vj Vk Vl Vm Vn Vo Vp Vq Vr Vs Vt Vu Vv Vw Vx Vy Vz VA VB VC VD VE VF VG VH VI VJ VK VL VM VN VO VP VQ VR VS VT VU VV VW VX VY VZ V0 V1 V2 V3 V4 V5 V6 V7 V8 V9 Ja Jb Jc Jd Je Jf Jg Jh Ji Jj Jk Jl Jm Jn Jo Jp Jq Jr Js Jt Ju Jv Jw Jx Jy Jz JA JB JC JD JE JF JG JH JI JJ JK JL JM JN Q H):kilnlaw13_Lists_apart_K7 Q #[.pointer p1,Yb,Yc,Yd,Ye,Yf,Yg,Yh,Yi,.slice a2 l2 c2,.slice a3 l3 c3,Yl,Ym,Yn,Yo,Yp,Yq,Yr,Ys,Yt,Yu,Yv,Yw,Yx,Yy,Yz,YA,YB,YC,YD,YE,YF,YG,YH,YI,YJ,YK,YL,YM,YN,YO,YP,YQ,YR,YS,YT,YU,YV,YW,YX,YY,YZ,Y0,Y1,Y2,Y3,Y4,Y5,Y6,Y7,Y8,Y9,Za,Zb,Zc,Zd,Ze,Zf,Zg,Zh,Zi,Zj,Zk,Zl,Zm,Zn,Zo,Zp,Zq,Zr,Zs,Zt,Zu,Zv,Zw,Zx,Zy,Zz,ZA,ZB,ZC,ZD,ZE,ZF,ZG,ZH,ZI,ZJ,ZK,ZL,ZM,ZN,ZO,ZP,ZQ,ZR,ZS,ZT,ZU,ZV,ZW,ZX,ZY,ZZ,Z0,Z1,Z2,Z3,Z4,Z5,Z6,Z7,Z8,Z9,Xa,Xb,Xc,Xd,Xe,Xf,Xg,Xh,Xi,Xj,Xk,Xl,Xm,Xn,Xo,Xp,Xq,Xr,Xs,Xt,Xu,Xv,Xw,Xx,Xy,Xz,XA,XB,XC,XD,XE,XF,XG,XH,XI,XJ,XK,XL,XM,XN,XO,XP,XQ,XR,XS,XT,XU,XV,XW,XX,XY,XZ,X0,X1,X2,X3,X4,X5,X6,X7,X8,X9,Wa,Wb,Wc,Wd,We,Wf,Wg,Wh,Wi,Wj,Wk,Wl,Wm,Wn,Wo,Wp,Wq,Ws,Wt,Wu,Wv,Ww,Wx,Wy,Wz,WA,WB,WC,WD,WE,WF,WG,WH,WI,WJ,WK,WL,WM,WN,WO,WP,WQ,WR,WS,WT,WU,WV,WW,WX,WY,WZ,W2,W3,W4,W5,W6,W7,W9,Va,Vb,Vc,Vd,Ve,Vf,Vg,Vh,Vi,Vj,Vk,Vl,Vm,Vn,Vo,Vp,Vq,Vr,Vs,Vt,Vu,Vv,Vw,Vx,Vy,Vz,VA,VB,VC,VD,VE,VF,VG,VH,VI,VJ,VK,VL,VM,VN,VO,VP,VQ,VR,VS,VT,VU,VV,VW,VX,VY,VZ,V0,V1,V2,V3,V4,V5,V6,V7,V8,V9,Ja,Jb,Jc,Jd,Je,Jf,Jg,Jh,Ji,Jj,Jk,Jl,Jm,Jn,Jo,Jp,Jq,Jr,Js,Jt,Ju,Jv,Jw,Jx,Jy,Jz,JA,JB,JC,JD,JE,JF,JG,JH,JI,JJ,JK,JL,JM,JN] H :=
 evEq (by kernel_rfl) h
def kilnlaw13_Lists_apart_T9 (p1:Option Addr) (Yb:Value) (Yd:Value) (Ye:Value) (Yf:Value) (Yg:Value) (Yh:Value) (Yi:Value) (a2:Option Addr) (l2:Nat) (c2:Nat) (a3:Option Addr) (l3:Nat) (c3:Nat) (Yl:Value) (Ym:Value) (Yn:Value) (Yo:Value) (Yp:Value) (Yq:Value) (Yu:Value) (Yv:Value) (Yw:Value) (Yx:Value) (Yy:Value) (Yz:Value) (YA:Value) (YB:Value) (YC:Value) (YD:Value) (YE:Value) (YF:Value) (YG:Value) (YH:Value) (YI:Value) (YJ:Value) (YK:Value) (YL:Value) (YM:Value) (YN:Value) (YO:Value) (YP:Value) (YQ:Value) (YR:Value) (YS:Value) (YT:Value) (YU:Value) (YV:Value) (YW:Value) (YX:Value) (YY:Value) (YZ:Value) (Y0:Value) (Y1:Value) (Y2:Value) (Y3:Value) (Y4:Value) (Y5:Value) (Y6:Value) (Y7:Value) (Y8:Value) (Y9:Value) (Za:Value) (Zb:Value) (Zc:Value) (Zd:Value) (Ze:Value) (Zf:Value) (Zg:Value) (Zh:Value) (Zi:Value) (Zj:Value) (Zk:Value) (Zl:Value) (Zm:Value) (Zn:Value) (Zo:Value) (Zp:Value) (Zq:Value) (Zr:Value) (Zs:Value) (Zt:Value) (Zu:Value) (Zv:Value) (Zw:Value) (Zx:Value) (Zy:Value) (Zz:Value) (ZA:Value) (ZB:Value) (ZC:Value) (ZD:Value) (ZE:Value) (ZF:Value) (ZG:Value) (ZH:Value) (ZI:Value) (ZJ:Value) (ZK:Value) (ZL:Value) (ZM:Value) (ZN:Value) (ZO:Value) (ZP:Value) (ZQ:Value) (ZR:Value) (ZS:Value) (ZT:Value) (ZU:Value) (ZV:Value) (ZW:Value) (ZX:Value) (ZY:Value) (ZZ:Value) (Z0:Value) (Z1:Value) (Z2:Value) (Z3:Value) (Z4:Value) (Z5:Value) (Z6:Value) (Z7:Value) (Z8:Value) (Z9:Value) (Xa:Value) (Xb:Value) (Xc:Value) (Xd:Value) (Xe:Value) (Xf:Value) (Xg:Value) (Xh:Value) (Xi:Value) (Xj:Value) (Xk:Value) (Xl:Value) (Xm:Value) (Xn:Value) (Xo:Value) (Xp:Value) (Xq:Value) (Xr:Value) (Xs:Value) (Xt:Value) (Xu:Value) (Xv:Value) (Xw:Value) (Xx:Value) (Xy:Value) (Xz:Value) (XA:Value) (XB:Value) (XC:Value) (XD:Value) (XE:Value) (XF:Value) (XG:Value) (XH:Value) (XI:Value) (XJ:Value) (XK:Value) (XL:Value) (XM:Value) (XN:Value) (XO:Value) (XP:Value) (XQ:Value) (XR:Value) (XS:Value) (XT:Value) (XU:Value) (XV:Value) (XW:Value) (XX:Value) (XY:Value) (XZ:Value) (X0:Value) (X1:Value) (X2:Value) (X3:Value) (X4:Value) (X5:Value) (X6:Value) (X7:Value) (X8:Value) (X9:Value) (Wa:Value) (Wb:Value) (Wc:Value) (Wd:Value) (We:Value) (Wf:Value) (Wg:Value) (Wh:Value) (Wi:Value) (Wj:Value) (Wk:Value) (Wl:Value) (Wm:Value) (Wn:Value) (Wo:Value) (Wp:Value) (Wq:Value) (Ws:Value) (Wt:Value) (VG:Value) (VH:Value) (VI:Value) (VJ:Value) (VK:Value) (VL:Value) (VM:Value) (VN:Value) (VO:Value) (VP:Value) (VQ:Value) (VR:Value) (VS:Value) (VT:Value) (VU:Value) (VV:Value) (VW:Value) (VX:Value) (VY:Value) (VZ:Value) (V0:Value) (V1:Value) (V2:Value) (V3:Value) (V4:Value) (V5:Value) (V6:Value) (V7:Value) (V8:Value) (V9:Value) (Ja:Value) (Jb:Value) (Jc:Value) (Jd:Value) (Je:Value) (Jf:Value) (Jg:Value) (Jh:Value) (Ji:Value) (Jj:Value) (Jk:Value) (Jl:Value) (Jm:Value) (Jn:Value) (Jo:Value) (Jp:Value) (Jq:Value) (Jr:Value) (Js:Value) (Jt:Value) (Ju:Value) (Jv:Value) (Jw:Value) (Jx:Value) (Jy:Value) (Jz:Value) (JA:Value) (JB:Value) (JC:Value) (JD:Value) (JE:Value) (JF:Value) (JG:Value) (JH:Value) (JI:Value) (JJ:Value) (JK:Value) (JL:Value) (JM:Value) (JN:Value) (Q:QT) (H:Heap):Prop :=
 ∃(I4:IT) (μ4:MT),I4 [iV 0] H∧∀ w5 H1,I4 w5 H1→∀ g_6:Nat→Value,∃ n7,w5=[iV n7]∧cond (decide (n7<(l2:Int))) (∃ q8,p1=some q8∧∃ a9 l9 c9,cellH H1 q8=some (lV a9 l9 c9)∧((0:Int)≤n7∧n7<(l9:Int))∧∃ q10,a9=some q10∧∃ a11 l11 c11,cellH H1 (q10.add (Int.toNat n7*1))=some (lV a11 l11 c11)∧∃(I12:IT) (μ12:MT),I12 [iV 0] H1∧∀ w13 H2,I12 w13 H2→∀ g_14:Nat→Value,∃ n15,w13=[iV n15]∧((0:Int)≤n7∧n7<(l2:Int))∧∃ q16,a2=some q16∧∃ a17 l17 c17,cellH H2 (q16.add (Int.toNat n7*1))=some (lV a17 l17 c17)∧cond (decide (n15<(l17:Int))) (cond (decide (n15<(l11:Int))) (((0:Int)≤n7∧n7<(l2:Int))∧∃ q18,a2=some q18∧∃ a19 l19 c19,cellH H2 (q18.add (Int.toNat n7*1))=some (lV a19 l19 c19)∧((0:Int)≤n15∧n15<(l19:Int))∧∃ q20,a19=some q20∧∃ s21,cellH H2 (q20.add (Int.toNat n15*1))=some (sV s21)∧cS 128 #[iV n7] (fun v22 H3=>∃ s23,v22=sV s23∧((cellH H3 (q20.add (Int.toNat n15*1))=some (sV s21)∧True)∧((cellH H3 (q18.add (Int.toNat n7*1))=some (lV a19 l19 c19)∧True)∧True))∧cond (!(strEq s21 s23)) (Q (.bool false) H3) (∃ q24,p1=some q24∧∃ a25 l25 c25,cellH H3 q24=some (lV a25 l25 c25)∧((0:Int)≤n7∧n7<(l25:Int))∧∃ q26,a25=some q26∧∃ a27 l27 c27,cellH H3 (q26.add (Int.toNat n7*1))=some (lV a27 l27 c27)∧((0:Int)≤n15∧n15<(l27:Int))∧∃ q28,a27=some q28∧∃ s29,cellH H3 (q28.add (Int.toNat n15*1))=some (sV s29)∧cS 128 #[iV n7] (fun v30 H4=>∃ s31,v30=sV s31∧((cellH H4 (q28.add (Int.toNat n15*1))=some (sV s29)∧True)∧((cellH H4 (q26.add (Int.toNat n7*1))=some (lV a27 l27 c27)∧True)∧((cellH H4 q24=some (lV a25 l25 c25)∧True)∧True)))∧cond (!(strEq s29 s31)) (Q (.bool false) H4) (cond (decide (n15 ≥ (l11:Int))) (((0:Int)≤n7∧n7<(l2:Int))∧∃ q32,a2=some q32∧∃ a33 l33 c33,cellH H4 (q32.add (Int.toNat n7*1))=some (lV a33 l33 c33)∧((0:Int)≤n15∧n15<(l33:Int))∧∃ q34,a33=some q34∧∃ s35,cellH H4 (q34.add (Int.toNat n15*1))=some (sV s35)∧cS 128 #[iV n7] (fun v36 H5=>∃ s37,v36=sV s37∧((cellH H5 (q34.add (Int.toNat n15*1))=some (sV s35)∧True)∧((cellH H5 (q32.add (Int.toNat n7*1))=some (lV a33 l33 c33)∧True)∧True))∧cond (decide ((((⟨#[103]⟩:ByteArray).size+s37.size:Nat):Int) > IntKind.i64.max)) False (cond (!(strEq s35 ((⟨#[103]⟩:ByteArray)++s37))) (Q (.bool false) H5) (I12 [iV (wW (n15+1))] H5∧μ12 [iV (wW (n15+1))] H5<μ12 w13 H2))) H4) (I12 [iV (wW (n15+1))] H4∧μ12 [iV (wW (n15+1))] H4<μ12 w13 H2))) H3)) H2) (cond (decide (n15 ≥ (l11:Int))) (((0:Int)≤n7∧n7<(l2:Int))∧∃ q38,a2=some q38∧∃ a39 l39 c39,cellH H2 (q38.add (Int.toNat n7*1))=some (lV a39 l39 c39)∧((0:Int)≤n15∧n15<(l39:Int))∧∃ q40,a39=some q40∧∃ s41,cellH H2 (q40.add (Int.toNat n15*1))=some (sV s41)∧cS 128 #[iV n7] (fun v42 H6=>∃ s43,v42=sV s43∧((cellH H6 (q40.add (Int.toNat n15*1))=some (sV s41)∧True)∧((cellH H6 (q38.add (Int.toNat n7*1))=some (lV a39 l39 c39)∧True)∧True))∧cond (decide ((((⟨#[103]⟩:ByteArray).size+s43.size:Nat):Int) > IntKind.i64.max)) False (cond (!(strEq s41 ((⟨#[103]⟩:ByteArray)++s43))) (Q (.bool false) H6) (I12 [iV (wW (n15+1))] H6∧μ12 [iV (wW (n15+1))] H6<μ12 w13 H2))) H2) (I12 [iV (wW (n15+1))] H2∧μ12 [iV (wW (n15+1))] H2<μ12 w13 H2))) (I4 [iV (wW (n7+1))] H2∧μ4 [iV (wW (n7+1))] H2<μ4 w5 H1)) (kilnlaw13_Lists_apart_K10 Q #[pV p1,Yb,(g_6 2),Yd,Ye,Yf,Yg,Yh,Yi,lV a2 l2 c2,lV a3 l3 c3,Yl,Ym,Yn,Yo,Yp,Yq,iV n7,(g_6 18),(g_6 19),Yu,Yv,Yw,Yx,Yy,Yz,YA,YB,YC,YD,YE,YF,YG,YH,YI,YJ,YK,YL,YM,YN,YO,YP,YQ,YR,YS,YT,YU,YV,YW,YX,YY,YZ,Y0,Y1,Y2,Y3,Y4,Y5,Y6,Y7,Y8,Y9,Za,Zb,Zc,Zd,Ze,Zf,Zg,Zh,Zi,Zj,Zk,Zl,Zm,Zn,Zo,Zp,Zq,Zr,Zs,Zt,Zu,Zv,Zw,Zx,Zy,Zz,ZA,ZB,ZC,ZD,ZE,ZF,ZG,ZH,ZI,ZJ,ZK,ZL,ZM,ZN,ZO,ZP,ZQ,ZR,ZS,ZT,ZU,ZV,ZW,ZX,ZY,ZZ,Z0,Z1,Z2,Z3,Z4,Z5,Z6,Z7,Z8,Z9,Xa,Xb,Xc,Xd,Xe,Xf,Xg,Xh,Xi,Xj,Xk,Xl,Xm,Xn,Xo,Xp,Xq,Xr,Xs,Xt,Xu,Xv,Xw,Xx,Xy,Xz,XA,XB,XC,XD,XE,XF,XG,XH,XI,XJ,XK,XL,XM,XN,XO,XP,XQ,XR,XS,XT,XU,XV,XW,XX,XY,XZ,X0,X1,X2,X3,X4,X5,X6,X7,X8,X9,Wa,Wb,Wc,Wd,We,Wf,Wg,Wh,Wi,Wj,Wk,Wl,Wm,Wn,Wo,Wp,Wq,Ws,Wt,iV n7,lV a2 l2 c2,iV (l2:Int),.bool false,(g_6 209),(g_6 210),(g_6 211),(g_6 212),(g_6 213),(g_6 214),(g_6 215),(g_6 216),(g_6 217),(g_6 218),(g_6 219),(g_6 220),(g_6 221),(g_6 222),(g_6 223),(g_6 224),(g_6 225),(g_6 226),(g_6 227),(g_6 228),(g_6 229),(g_6 230),(g_6 231),(g_6 232),(g_6 233),(g_6 234),(g_6 235),(g_6 236),(g_6 237),(g_6 238),(g_6 239),(g_6 240),(g_6 241),(g_6 242),(g_6 243),(g_6 244),(g_6 245),(g_6 246),(g_6 247),(g_6 248),(g_6 249),(g_6 250),(g_6 251),(g_6 252),(g_6 253),(g_6 254),(g_6 255),(g_6 256),(g_6 257),(g_6 258),(g_6 259),(g_6 260),(g_6 261),(g_6 262),(g_6 263),(g_6 264),(g_6 265),(g_6 266),(g_6 267),(g_6 268),(g_6 269),(g_6 270),(g_6 271),(g_6 272),(g_6 273),(g_6 274),(g_6 275),VG,VH,VI,VJ,VK,VL,VM,VN,VO,VP,VQ,VR,VS,VT,VU,VV,VW,VX,VY,VZ,V0,V1,V2,V3,V4,V5,V6,V7,V8,V9,Ja,Jb,Jc,Jd,Je,Jf,Jg,Jh,Ji,Jj,Jk,Jl,Jm,Jn,Jo,Jp,Jq,Jr,Js,Jt,Ju,Jv,Jw,Jx,Jy,Jz,JA,JB,JC,JD,JE,JF,JG,JH,JI,JJ,JK,JL,JM,JN] H1)
theorem kilnlaw13_Lists_apart_T9_ok {p1:Option Addr}{a2:Option Addr}{l2:Nat}{c2:Nat}{a3:Option Addr}{l3:Nat}{c3:Nat}{Yb Yc Yd Ye Yf Yg Yh Yi Yl Ym Yn Yo Yp Yq Yr Ys Yt Yu Yv Yw Yx Yy Yz YA YB YC YD YE YF YG YH YI YJ YK YL YM YN YO YP YQ YR YS YT YU YV YW YX YY YZ Y0 Y1 Y2 Y3 Y4 Y5 Y6 Y7 Y8 Y9 Za Zb Zc Zd Ze Zf Zg Zh Zi Zj Zk Zl Zm Zn Zo Zp Zq Zr Zs Zt Zu Zv Zw Zx Zy Zz ZA ZB ZC ZD ZE ZF ZG ZH ZI ZJ ZK ZL ZM ZN ZO ZP ZQ ZR ZS ZT ZU ZV ZW ZX ZY ZZ Z0 Z1 Z2 Z3 Z4 Z5 Z6 Z7 Z8 Z9 Xa Xb Xc Xd Xe Xf Xg Xh Xi Xj Xk Xl Xm Xn Xo Xp Xq Xr Xs Xt Xu Xv Xw Xx Xy Xz XA XB XC XD XE XF XG XH XI XJ XK XL XM XN XO XP XQ XR XS XT XU XV XW XX XY XZ X0 X1 X2 X3 X4 X5 X6 X7 X8 X9 Wa Wb Wc Wd We Wf Wg Wh Wi Wj Wk Wl Wm Wn Wo Wp Wq Ws Wt Wu Wv Ww Wx Wy Wz WA WB WC WD WE WF WG WH WI WJ WK WL WM WN WO WP WQ WR WS WT WU WV WW WX WY WZ W2 W3 W4 W5 W6 W7 W9 Va Vb Vc Vd Ve Vf Vg Vh Vi Vj Vk Vl Vm Vn Vo Vp Vq Vr Vs Vt Vu Vv Vw Vx Vy Vz VA VB VC VD VE VF VG VH VI VJ VK VL VM VN VO VP VQ VR VS VT VU VV VW VX VY VZ V0 V1 V2 V3 V4 V5 V6 V7 V8 V9 Ja Jb Jc Jd Je Jf Jg Jh Ji Jj Jk Jl Jm Jn Jo Jp Jq Jr Js Jt Ju Jv Jw Jx Jy Jz JA JB JC JD JE JF JG JH JI JJ JK JL JM JN:Value} (h:kilnlaw13_Lists_apart_T9 p1 Yb Yd Ye Yf Yg Yh Yi a2 l2 c2 a3 l3 c3 Yl Ym Yn Yo Yp Yq Yu Yv Yw Yx Yy Yz YA YB YC YD YE YF YG YH YI YJ YK YL YM YN YO YP YQ YR YS YT YU YV YW YX YY YZ Y0 Y1 Y2 Y3 Y4 Y5 Y6 Y7 Y8 Y9 Za Zb Zc Zd Ze Zf Zg Zh Zi Zj Zk Zl Zm Zn Zo Zp Zq Zr Zs Zt Zu Zv Zw Zx Zy Zz ZA ZB ZC ZD ZE ZF ZG ZH ZI ZJ ZK ZL ZM ZN ZO ZP ZQ ZR ZS ZT ZU ZV ZW ZX ZY ZZ Z0 Z1 Z2 Z3 Z4 Z5 Z6 Z7 Z8 Z9 Xa Xb Xc Xd Xe Xf Xg Xh Xi Xj Xk Xl Xm Xn Xo Xp Xq Xr Xs Xt Xu Xv Xw Xx Xy Xz XA XB XC XD XE XF XG XH XI XJ XK XL XM XN XO XP XQ XR XS XT XU XV XW XX XY XZ X0 X1 X2 X3 X4 X5 X6 X7 X8 X9 Wa Wb Wc Wd We Wf Wg Wh Wi Wj Wk Wl Wm Wn Wo Wp Wq Ws Wt VG VH VI VJ VK VL VM VN VO VP VQ VR VS VT VU VV VW VX VY VZ V0 V1 V2 V3 V4 V5 V6 V7 V8 V9 Ja Jb Jc Jd Je Jf Jg Jh Ji Jj Jk Jl Jm Jn Jo Jp Jq Jr Js Jt Ju Jv Jw Jx Jy Jz JA JB JC JD JE JF JG JH JI JJ JK JL JM JN Q H):kilnlaw13_Lists_apart_K9 Q #[.pointer p1,Yb,Yc,Yd,Ye,Yf,Yg,Yh,Yi,.slice a2 l2 c2,.slice a3 l3 c3,Yl,Ym,Yn,Yo,Yp,Yq,Yr,Ys,Yt,Yu,Yv,Yw,Yx,Yy,Yz,YA,YB,YC,YD,YE,YF,YG,YH,YI,YJ,YK,YL,YM,YN,YO,YP,YQ,YR,YS,YT,YU,YV,YW,YX,YY,YZ,Y0,Y1,Y2,Y3,Y4,Y5,Y6,Y7,Y8,Y9,Za,Zb,Zc,Zd,Ze,Zf,Zg,Zh,Zi,Zj,Zk,Zl,Zm,Zn,Zo,Zp,Zq,Zr,Zs,Zt,Zu,Zv,Zw,Zx,Zy,Zz,ZA,ZB,ZC,ZD,ZE,ZF,ZG,ZH,ZI,ZJ,ZK,ZL,ZM,ZN,ZO,ZP,ZQ,ZR,ZS,ZT,ZU,ZV,ZW,ZX,ZY,ZZ,Z0,Z1,Z2,Z3,Z4,Z5,Z6,Z7,Z8,Z9,Xa,Xb,Xc,Xd,Xe,Xf,Xg,Xh,Xi,Xj,Xk,Xl,Xm,Xn,Xo,Xp,Xq,Xr,Xs,Xt,Xu,Xv,Xw,Xx,Xy,Xz,XA,XB,XC,XD,XE,XF,XG,XH,XI,XJ,XK,XL,XM,XN,XO,XP,XQ,XR,XS,XT,XU,XV,XW,XX,XY,XZ,X0,X1,X2,X3,X4,X5,X6,X7,X8,X9,Wa,Wb,Wc,Wd,We,Wf,Wg,Wh,Wi,Wj,Wk,Wl,Wm,Wn,Wo,Wp,Wq,Ws,Wt,Wu,Wv,Ww,Wx,Wy,Wz,WA,WB,WC,WD,WE,WF,WG,WH,WI,WJ,WK,WL,WM,WN,WO,WP,WQ,WR,WS,WT,WU,WV,WW,WX,WY,WZ,W2,W3,W4,W5,W6,W7,W9,Va,Vb,Vc,Vd,Ve,Vf,Vg,Vh,Vi,Vj,Vk,Vl,Vm,Vn,Vo,Vp,Vq,Vr,Vs,Vt,Vu,Vv,Vw,Vx,Vy,Vz,VA,VB,VC,VD,VE,VF,VG,VH,VI,VJ,VK,VL,VM,VN,VO,VP,VQ,VR,VS,VT,VU,VV,VW,VX,VY,VZ,V0,V1,V2,V3,V4,V5,V6,V7,V8,V9,Ja,Jb,Jc,Jd,Je,Jf,Jg,Jh,Ji,Jj,Jk,Jl,Jm,Jn,Jo,Jp,Jq,Jr,Js,Jt,Ju,Jv,Jw,Jx,Jy,Jz,JA,JB,JC,JD,JE,JF,JG,JH,JI,JJ,JK,JL,JM,JN] H :=
 evEq (by kernel_rfl) h
def kilnlaw13_Lists_apart_T10 (p1:Option Addr) (a2:Option Addr) (l2:Nat) (Q:QT) (H:Heap):Prop :=
 ∃(I3:IT) (μ3:MT),I3 [iV 0] H∧∀ w4 H1,I3 w4 H1→∀ g_5:Nat→Value,∃ n6,w4=[iV n6]∧cond (decide (n6<(l2:Int))) (∃ q7,p1=some q7∧∃ a8 l8 c8,cellH H1 (q7.add 2)=some (lV a8 l8 c8)∧((0:Int)≤n6∧n6<(l8:Int))∧∃ q9,a8=some q9∧∃ a10 l10 c10,cellH H1 (q9.add (Int.toNat n6*1))=some (lV a10 l10 c10)∧∃(I11:IT) (μ11:MT),I11 [iV 0] H1∧∀ w12 H2,I11 w12 H2→∀ g_13:Nat→Value,∃ n14,w12=[iV n14]∧((0:Int)≤n6∧n6<(l2:Int))∧∃ q15,a2=some q15∧∃ a16 l16 c16,cellH H2 (q15.add (Int.toNat n6*1))=some (lV a16 l16 c16)∧cond (decide (n14<(l16:Int))) (cond (decide (n14<(l10:Int))) (((0:Int)≤n6∧n6<(l2:Int))∧∃ q17,a2=some q17∧∃ a18 l18 c18,cellH H2 (q17.add (Int.toNat n6*1))=some (lV a18 l18 c18)∧((0:Int)≤n14∧n14<(l18:Int))∧∃ q19,a18=some q19∧∃ n20,cellH H2 (q19.add (Int.toNat n14*1))=some (iV n20)∧cond (n20 != (wW (1000+n6))) (Q (.bool false) H2) (∃ q21,p1=some q21∧∃ a22 l22 c22,cellH H2 (q21.add 2)=some (lV a22 l22 c22)∧((0:Int)≤n6∧n6<(l22:Int))∧∃ q23,a22=some q23∧∃ a24 l24 c24,cellH H2 (q23.add (Int.toNat n6*1))=some (lV a24 l24 c24)∧((0:Int)≤n14∧n14<(l24:Int))∧∃ q25,a24=some q25∧∃ n26,cellH H2 (q25.add (Int.toNat n14*1))=some (iV n26)∧cond (n26 != (wW (1000+n6))) (Q (.bool false) H2) (cond (decide (n14 ≥ (l10:Int))) (((0:Int)≤n6∧n6<(l2:Int))∧∃ q27,a2=some q27∧∃ a28 l28 c28,cellH H2 (q27.add (Int.toNat n6*1))=some (lV a28 l28 c28)∧((0:Int)≤n14∧n14<(l28:Int))∧∃ q29,a28=some q29∧∃ n30,cellH H2 (q29.add (Int.toNat n14*1))=some (iV n30)∧cond (n30 != (wW (500000+n6))) (Q (.bool false) H2) (I11 [iV (wW (n14+1))] H2∧μ11 [iV (wW (n14+1))] H2<μ11 w12 H2)) (I11 [iV (wW (n14+1))] H2∧μ11 [iV (wW (n14+1))] H2<μ11 w12 H2)))) (cond (decide (n14 ≥ (l10:Int))) (((0:Int)≤n6∧n6<(l2:Int))∧∃ q31,a2=some q31∧∃ a32 l32 c32,cellH H2 (q31.add (Int.toNat n6*1))=some (lV a32 l32 c32)∧((0:Int)≤n14∧n14<(l32:Int))∧∃ q33,a32=some q33∧∃ n34,cellH H2 (q33.add (Int.toNat n14*1))=some (iV n34)∧cond (n34 != (wW (500000+n6))) (Q (.bool false) H2) (I11 [iV (wW (n14+1))] H2∧μ11 [iV (wW (n14+1))] H2<μ11 w12 H2)) (I11 [iV (wW (n14+1))] H2∧μ11 [iV (wW (n14+1))] H2<μ11 w12 H2))) (I3 [iV (wW (n6+1))] H2∧μ3 [iV (wW (n6+1))] H2<μ3 w4 H1)) (Q (.bool true) H1)
theorem kilnlaw13_Lists_apart_T10_ok {p1:Option Addr}{a2:Option Addr}{l2:Nat}{c2:Nat}{Yb Yc Yd Ye Yf Yg Yh Yi Yj Yl Ym Yn Yo Yp Yq Yr Ys Yt Yu Yv Yw Yx Yy Yz YA YB YC YD YE YF YG YH YI YJ YK YL YM YN YO YP YQ YR YS YT YU YV YW YX YY YZ Y0 Y1 Y2 Y3 Y4 Y5 Y6 Y7 Y8 Y9 Za Zb Zc Zd Ze Zf Zg Zh Zi Zj Zk Zl Zm Zn Zo Zp Zq Zr Zs Zt Zu Zv Zw Zx Zy Zz ZA ZB ZC ZD ZE ZF ZG ZH ZI ZJ ZK ZL ZM ZN ZO ZP ZQ ZR ZS ZT ZU ZV ZW ZX ZY ZZ Z0 Z1 Z2 Z3 Z4 Z5 Z6 Z7 Z8 Z9 Xa Xb Xc Xd Xe Xf Xg Xh Xi Xj Xk Xl Xm Xn Xo Xp Xq Xr Xs Xt Xu Xv Xw Xx Xy Xz XA XB XC XD XE XF XG XH XI XJ XK XL XM XN XO XP XQ XR XS XT XU XV XW XX XY XZ X0 X1 X2 X3 X4 X5 X6 X7 X8 X9 Wa Wb Wc Wd We Wf Wg Wh Wi Wj Wk Wl Wm Wn Wo Wp Wq Ws Wt Wu Wv Ww Wx Wy Wz WA WB WC WD WE WF WG WH WI WJ WK WL WM WN WO WP WQ WR WS WT WU WV WW WX WY WZ W2 W3 W4 W5 W6 W7 W9 Va Vb Vc Vd Ve Vf Vg Vh Vi Vj Vk Vl Vm Vn Vo Vp Vq Vr Vs Vt Vu Vv Vw Vx Vy Vz VA VB VC VD VE VF VG VH VI VJ VK VL VM VN VO VP VQ VR VS VT VU VV VW VX VY VZ V0 V1 V2 V3 V4 V5 V6 V7 V8 V9 Ja Jb Jc Jd Je Jf Jg Jh Ji Jj Jk Jl Jm Jn Jo Jp Jq Jr Js Jt Ju Jv Jw Jx Jy Jz JA JB JC JD JE JF JG JH JI JJ JK JL JM JN:Value} (h:kilnlaw13_Lists_apart_T10 p1 a2 l2 Q H):kilnlaw13_Lists_apart_K10 Q #[.pointer p1,Yb,Yc,Yd,Ye,Yf,Yg,Yh,Yi,Yj,.slice a2 l2 c2,Yl,Ym,Yn,Yo,Yp,Yq,Yr,Ys,Yt,Yu,Yv,Yw,Yx,Yy,Yz,YA,YB,YC,YD,YE,YF,YG,YH,YI,YJ,YK,YL,YM,YN,YO,YP,YQ,YR,YS,YT,YU,YV,YW,YX,YY,YZ,Y0,Y1,Y2,Y3,Y4,Y5,Y6,Y7,Y8,Y9,Za,Zb,Zc,Zd,Ze,Zf,Zg,Zh,Zi,Zj,Zk,Zl,Zm,Zn,Zo,Zp,Zq,Zr,Zs,Zt,Zu,Zv,Zw,Zx,Zy,Zz,ZA,ZB,ZC,ZD,ZE,ZF,ZG,ZH,ZI,ZJ,ZK,ZL,ZM,ZN,ZO,ZP,ZQ,ZR,ZS,ZT,ZU,ZV,ZW,ZX,ZY,ZZ,Z0,Z1,Z2,Z3,Z4,Z5,Z6,Z7,Z8,Z9,Xa,Xb,Xc,Xd,Xe,Xf,Xg,Xh,Xi,Xj,Xk,Xl,Xm,Xn,Xo,Xp,Xq,Xr,Xs,Xt,Xu,Xv,Xw,Xx,Xy,Xz,XA,XB,XC,XD,XE,XF,XG,XH,XI,XJ,XK,XL,XM,XN,XO,XP,XQ,XR,XS,XT,XU,XV,XW,XX,XY,XZ,X0,X1,X2,X3,X4,X5,X6,X7,X8,X9,Wa,Wb,Wc,Wd,We,Wf,Wg,Wh,Wi,Wj,Wk,Wl,Wm,Wn,Wo,Wp,Wq,Ws,Wt,Wu,Wv,Ww,Wx,Wy,Wz,WA,WB,WC,WD,WE,WF,WG,WH,WI,WJ,WK,WL,WM,WN,WO,WP,WQ,WR,WS,WT,WU,WV,WW,WX,WY,WZ,W2,W3,W4,W5,W6,W7,W9,Va,Vb,Vc,Vd,Ve,Vf,Vg,Vh,Vi,Vj,Vk,Vl,Vm,Vn,Vo,Vp,Vq,Vr,Vs,Vt,Vu,Vv,Vw,Vx,Vy,Vz,VA,VB,VC,VD,VE,VF,VG,VH,VI,VJ,VK,VL,VM,VN,VO,VP,VQ,VR,VS,VT,VU,VV,VW,VX,VY,VZ,V0,V1,V2,V3,V4,V5,V6,V7,V8,V9,Ja,Jb,Jc,Jd,Je,Jf,Jg,Jh,Ji,Jj,Jk,Jl,Jm,Jn,Jo,Jp,Jq,Jr,Js,Jt,Ju,Jv,Jw,Jx,Jy,Jz,JA,JB,JC,JD,JE,JF,JG,JH,JI,JJ,JK,JL,JM,JN] H :=
 evEq (by kernel_rfl) h
end Go.Proofs.YtmkdkplipbocjaaGreatDoor
namespace Go.Proofs.YtmkdkplipbocjaaGreatDoor
open Kw
def ownS (i:Nat):ByteArray:=byteS [109,IntKind.wrap .u8 (shrI .i64 i 8),IntKind.wrap .u8 i]
def gS (i:Nat):ByteArray:=(⟨#[103]⟩:ByteArray)++ownS i
def oneT (i:Nat):Value:=.string (ownS i)
def moreT (i:Nat):Value:=.string (gS i)
def oneI (i:Nat):Value:=.int .i64 (1000+(i:Int))
def moreI (i:Nat):Value:=.int .i64 (500000+(i:Int))
theorem ownS_size (i:Nat):(ownS i).size=3:=by simp [ownS,byteS,ByteArray.size]
theorem condE {a b:Int}{A B:Prop} (he:a=b) (h:B):cond (a != b) A B:=by
 rw [bneI,cond_dec,if_neg (fun hn=>hn he)];exact h
theorem condS {a b:ByteArray}{A B:Prop} (he:a=b) (h:B):cond (!(strEq a b)) A B:=by
 rw [strEq_dec,decide_eq_true he];exact h
theorem condZ {s:ByteArray}{B:Prop} (hs:s.size=3) (h:B):cond (decide ((((⟨#[103]⟩:ByteArray).size+s.size:Nat):Int) > IntKind.i64.max)) False B:=by
 rw [hs,cond_dec,if_neg (by simp [ByteArray.size,IntKind.max,IntKind.bits,IntKind.signed])];exact h
theorem rdAt {H:Heap}{a:Option Addr}{l:Nat}{ys:List Value} (h:Rd 1 H a l ys){j:Nat} (hj:j<l):∃ p,a=some p∧cellH H (p.add (j*1))=ys[j]?:=by
 cases ha:a with
 | none=>have:=h.2.1 ha;omega
 | some p=>exact ⟨p,rfl,by rw [Nat.mul_one];exact h.2.2 p ha j (by omega)⟩
section
variable {H:Heap}{xb:Nat}{hd:Nat→Hd}{K:Foot}{U:Bool→Foot}{hs:Bool→Nat→Hd}{fs:Bool→Nat→Foot}{xs:Bool→Nat→List Value}{Q:QT}
theorem ys_get {n j:Nat}{a b:Value}{ys:List Value} (hy:ys=List.replicate n a++List.replicate 41 b) (hj:j<n+41):ys[j]?=some (if j<n then a else b):=by
 rw [hy]
 split
 ·rw [List.getElem?_append_left (by simp;omega),List.getElem?_replicate_of_lt (by omega)]
 ·rw [List.getElem?_append_right (by simp;omega),List.getElem?_replicate_of_lt (by simp;omega)]
theorem ap10 (ap:AP H xb hd K U hs fs xs){aI:Option Addr}{lI:Nat}{hm:Nat→Hd}{ys:Nat→List Value}{KM:Foot} (mo:More H aI lI hm ys KM) (hl:lI=(hd 2).2.1) (hl2:lI≤2000) (hlm:∀ j,j<lI→(hm j).2.1=(hs true j).2.1+41)
  (hx:∀ j,j<lI→xs true j=List.replicate (hs true j).2.1 (oneI j)) (hy:∀ j,j<lI→ys j=xs true j++List.replicate 41 (moreI j)) (h:Q (.bool true) H):kilnlaw13_Lists_apart_T10 (some ⟨xb,0,none⟩) aI lI Q H:=by
 unfold kilnlaw13_Lists_apart_T10 iV wW lV
 refine ⟨fun w H'=>∃ i:Nat,w=[.int .i64 i]∧i≤lI∧H'=H,fun w _=>match w with
  | [.int _ i]=>((lI:Int)-i).toNat
  | _=>0,⟨0,rfl,by omega,rfl⟩,?_⟩
 rintro w H1 ⟨i,rfl,hi,rfl⟩ _
 refine ⟨_,rfl,condD (fun hlt=>?_) fun _=>h⟩
 have hil:i<lI:=by omega
 have hi2:i<(hd (sel true)).2.1:=by show i<(hd 2).2.1;omega
 have hb:=ap.bnd true i hi2
 have e1:IntKind.wrap .i64 ((i:Int)+1)=((i+1:Nat):Int):=by rw [wrap64_id (by omega) (by omega)];omega
 have e2:IntKind.wrap .i64 (1000+(i:Int))=1000+(i:Int):=wrap64_id (by omega) (by omega)
 have e3:IntKind.wrap .i64 (500000+(i:Int))=500000+(i:Int):=wrap64_id (by omega) (by omega)
 rw [e1,e2,e3,Int.toNat_natCast]
 obtain ⟨b,hbe,_,_⟩:=ap.cell true i hi2
 obtain ⟨bm,hbm,_,_⟩:=mo.cell i hil
 have bd:((0:Int)≤(i:Int)∧(i:Int)<(lI:Int)):=⟨by omega,hlt⟩
 have bd2:((0:Int)≤(i:Int)∧(i:Int)<((hd 2).2.1:Int)):=⟨by omega,by omega⟩
 have hlmi:=hlm i hil
 have hyi:ys i=List.replicate (hs true i).2.1 (oneI i)++List.replicate 41 (moreI i):=by rw [hy i hil,hx i hil]
 refine ⟨_,rfl,_,_,_,blkA ap.blk 2 rfl,bd2,_,hbe,_,_,_,ap.head hbe hi2,?_⟩
 refine ⟨fun w H'=>∃ j:Nat,w=[.int .i64 j]∧j≤(hm i).2.1∧H'=H1,fun w _=>match w with
  | [.int _ j]=>(((hm i).2.1:Int)-j).toNat
  | _=>0,⟨0,rfl,by omega,rfl⟩,?_⟩
 rintro w H2 ⟨j,rfl,hj,rfl⟩ _
 refine ⟨_,rfl,bd,_,hbm,_,_,_,mo.head hbm hil,condD (fun hlt2=>?_) fun _=>⟨⟨i+1,rfl,by omega,rfl⟩,by simp;omega⟩⟩
 have e4:IntKind.wrap .i64 ((j:Int)+1)=((j+1:Nat):Int):=by rw [wrap64_id (by omega) (by omega)];omega
 rw [e4,Int.toNat_natCast]
 have hjl:j<(hm i).2.1:=by omega
 obtain ⟨p,hp,hc⟩:=rdAt (mo.rd i hil).1 hjl
 rw [ys_get hyi (by omega)] at hc
 have bdj:((0:Int)≤(j:Int)∧(j:Int)<((hm i).2.1:Int)):=⟨by omega,hlt2⟩
 have go:(∃ j_1:Nat,[Value.int .i64 ((j+1:Nat):Int)]=[.int .i64 (j_1:Int)]∧j_1≤(hm i).2.1∧H2=H2)∧((((hm i).2.1:Int)-((j+1:Nat):Int)).toNat)<(((hm i).2.1:Int)-(j:Int)).toNat:=⟨⟨j+1,rfl,by omega,rfl⟩,by omega⟩
 refine condD (fun h3=>?_) fun h3=>condD (fun h4=>?_) fun h4=>go
 ·rw [if_pos (by omega)] at hc
  have hjs:j<(hs true i).2.1:=by omega
  obtain ⟨p2,hp2,hc2⟩:=rdAt (ap.own true i hi2).rd hjs
  rw [hx i hil,List.getElem?_replicate_of_lt hjs] at hc2
  exact ⟨bd,_,hbm,_,_,_,mo.head hbm hil,bdj,_,hp,_,hc,condE rfl ⟨_,rfl,_,_,_,blkA ap.blk 2 rfl,bd2,_,hbe,_,_,_,ap.head hbe hi2,⟨by omega,h3⟩,_,hp2,_,hc2,condE rfl (condD (fun h4=>by omega) fun _=>go)⟩⟩
 ·rw [if_neg (by omega)] at hc
  exact ⟨bd,_,hbm,_,_,_,mo.head hbm hil,bdj,_,hp,_,hc,condE rfl go⟩
theorem ap9 {Yb Yd Ye Yf Yg Yh Yi Yl Ym Yn Yo Yp Yq Yu Yv Yw Yx Yy Yz YA YB YC YD YE YF YG YH YI YJ YK YL YM YN YO YP YQ YR YS YT YU YV YW YX YY YZ Y0 Y1 Y2 Y3 Y4 Y5 Y6 Y7 Y8 Y9 Za Zb Zc Zd Ze Zf Zg Zh Zi Zj Zk Zl Zm Zn Zo Zp Zq Zr Zs Zt Zu Zv Zw Zx Zy Zz ZA ZB ZC ZD ZE ZF ZG ZH ZI ZJ ZK ZL ZM ZN ZO ZP ZQ ZR ZS ZT ZU ZV ZW ZX ZY ZZ Z0 Z1 Z2 Z3 Z4 Z5 Z6 Z7 Z8 Z9 Xa Xb Xc Xd Xe Xf Xg Xh Xi Xj Xk Xl Xm Xn Xo Xp Xq Xr Xs Xt Xu Xv Xw Xx Xy Xz XA XB XC XD XE XF XG XH XI XJ XK XL XM XN XO XP XQ XR XS XT XU XV XW XX XY XZ X0 X1 X2 X3 X4 X5 X6 X7 X8 X9 Wa Wb Wc Wd We Wf Wg Wh Wi Wj Wk Wl Wm Wn Wo Wp Wq Ws Wt VG VH VI VJ VK VL VM VN VO VP VQ VR VS VT VU VV VW VX VY VZ V0 V1 V2 V3 V4 V5 V6 V7 V8 V9 Ja Jb Jc Jd Je Jf Jg Jh Ji Jj Jk Jl Jm Jn Jo Jp Jq Jr Js Jt Ju Jv Jw Jx Jy Jz JA JB JC JD JE JF JG JH JI JJ JK JL JM JN:Value}{aT:Option Addr}{lT cT:Nat}{aI:Option Addr}{lI cI:Nat} (ap:AP H xb hd K U hs fs xs){hmI:Nat→Hd}{ysI:Nat→List Value}{KI:Foot} (moI:More H aI lI hmI ysI KI) (hlI:lI=(hd 2).2.1) (hlI2:lI≤2000) (hlmI:∀ j,j<lI→(hmI j).2.1=(hs true j).2.1+41)
  (hxI:∀ j,j<lI→xs true j=List.replicate (hs true j).2.1 (oneI j)) (hyI:∀ j,j<lI→ysI j=xs true j++List.replicate 41 (moreI j))
  {hm:Nat→Hd}{ys:Nat→List Value}{KM:Foot} (mo:More H aT lT hm ys KM) (hl:lT=(hd 0).2.1) (hl2:lT≤2000) (hlm:∀ j,j<lT→(hm j).2.1=(hs false j).2.1+41)
  (hx:∀ j,j<lT→xs false j=List.replicate (hs false j).2.1 (oneT j)) (hy:∀ j,j<lT→ys j=xs false j++List.replicate 41 (moreT j)) (h:∀ H',Fr [] H H'→Q (.bool true) H') :
  kilnlaw13_Lists_apart_T9 (some ⟨xb,0,none⟩) Yb Yd Ye Yf Yg Yh Yi aT lT cT aI lI cI Yl Ym Yn Yo Yp Yq Yu Yv Yw Yx Yy Yz YA YB YC YD YE YF YG YH YI YJ YK YL YM YN YO YP YQ YR YS YT YU YV YW YX YY YZ Y0 Y1 Y2 Y3 Y4 Y5 Y6 Y7 Y8 Y9 Za Zb Zc Zd Ze Zf Zg Zh Zi Zj Zk Zl Zm Zn Zo Zp Zq Zr Zs Zt Zu Zv Zw Zx Zy Zz ZA ZB ZC ZD ZE ZF ZG ZH ZI ZJ ZK ZL ZM ZN ZO ZP ZQ ZR ZS ZT ZU ZV ZW ZX ZY ZZ Z0 Z1 Z2 Z3 Z4 Z5 Z6 Z7 Z8 Z9 Xa Xb Xc Xd Xe Xf Xg Xh Xi Xj Xk Xl Xm Xn Xo Xp Xq Xr Xs Xt Xu Xv Xw Xx Xy Xz XA XB XC XD XE XF XG XH XI XJ XK XL XM XN XO XP XQ XR XS XT XU XV XW XX XY XZ X0 X1 X2 X3 X4 X5 X6 X7 X8 X9 Wa Wb Wc Wd We Wf Wg Wh Wi Wj Wk Wl Wm Wn Wo Wp Wq Ws Wt VG VH VI VJ VK VL VM VN VO VP VQ VR VS VT VU VV VW VX VY VZ V0 V1 V2 V3 V4 V5 V6 V7 V8 V9 Ja Jb Jc Jd Je Jf Jg Jh Ji Jj Jk Jl Jm Jn Jo Jp Jq Jr Js Jt Ju Jv Jw Jx Jy Jz JA JB JC JD JE JF JG JH JI JJ JK JL JM JN Q H:=by
 unfold kilnlaw13_Lists_apart_T9 iV wW pV sV lV cS
 refine ⟨fun w H'=>∃ i:Nat,w=[.int .i64 i]∧i≤lT∧Fr [] H H',fun w _=>match w with
  | [.int _ i]=>((lT:Int)-i).toNat
  | _=>0,⟨0,rfl,by omega,Fr.refl _ _⟩,?_⟩
 rintro w H1 ⟨i,rfl,hi,f1⟩ _
 refine ⟨_,rfl,condD (fun hlt=>?_) fun _=>kilnlaw13_Lists_apart_T10_ok (ap10 (ap.nil f1) (moI.nil f1) hlI hlI2 hlmI hxI hyI (h _ f1))⟩
 have hil:i<lT:=by omega
 have hi2:i<(hd (sel false)).2.1:=by show i<(hd 0).2.1;omega
 have hb:=ap.bnd false i hi2
 have e1:IntKind.wrap .i64 ((i:Int)+1)=((i+1:Nat):Int):=by rw [wrap64_id (by omega) (by omega)];omega
 rw [e1,Int.toNat_natCast]
 obtain ⟨b,hbe,_,_⟩:=ap.cell false i hi2
 obtain ⟨bm,hbm,_,_⟩:=mo.cell i hil
 have bd:((0:Int)≤(i:Int)∧(i:Int)<(lT:Int)):=⟨by omega,hlt⟩
 have bd2:((0:Int)≤(i:Int)∧(i:Int)<((hd 0).2.1:Int)):=⟨by omega,by omega⟩
 have hlmi:=hlm i hil
 have hyi:ys i=List.replicate (hs false i).2.1 (oneT i)++List.replicate 41 (moreT i):=by rw [hy i hil,hx i hil]
 have ap1:=ap.nil f1
 refine ⟨_,rfl,_,_,_,ap1.blk.cell 0,bd2,_,hbe,_,_,_,ap1.head hbe hi2,?_⟩
 refine ⟨fun w H'=>∃ j:Nat,w=[.int .i64 j]∧j≤(hm i).2.1∧Fr [] H H',fun w _=>match w with
  | [.int _ j]=>(((hm i).2.1:Int)-j).toNat
  | _=>0,⟨0,rfl,by omega,f1⟩,?_⟩
 rintro w H2 ⟨j,rfl,hj,f2⟩ _
 have mo2:=mo.nil f2
 have ap2:=ap.nil f2
 refine ⟨_,rfl,bd,_,hbm,_,_,_,mo2.head hbm hil,condD (fun hlt2=>?_) fun _=>⟨⟨i+1,rfl,by omega,f2⟩,by simp;omega⟩⟩
 have e4:IntKind.wrap .i64 ((j:Int)+1)=((j+1:Nat):Int):=by rw [wrap64_id (by omega) (by omega)];omega
 rw [e4,Int.toNat_natCast]
 have hjl:j<(hm i).2.1:=by omega
 obtain ⟨p,hp,hc⟩:=rdAt (mo2.rd i hil).1 hjl
 rw [ys_get hyi (by omega)] at hc
 have bdj:((0:Int)≤(j:Int)∧(j:Int)<((hm i).2.1:Int)):=⟨by omega,hlt2⟩
 have go:∀ {H':Heap},Fr [] H H'→(∃ j_1:Nat,[Value.int .i64 ((j+1:Nat):Int)]=[.int .i64 (j_1:Int)]∧j_1≤(hm i).2.1∧Fr [] H H')∧((((hm i).2.1:Int)-((j+1:Nat):Int)).toNat)<(((hm i).2.1:Int)-(j:Int)).toNat:=fun f=>⟨⟨j+1,rfl,by omega,f⟩,by omega⟩
 refine condD (fun h3=>?_) fun h3=>condD (fun h4=>?_) fun h4=>go f2
 ·rw [if_pos (by omega)] at hc
  have hjs:j<(hs false i).2.1:=by omega
  obtain ⟨p2,hp2,hc2⟩:=rdAt (ap2.own false i hi2).rd hjs
  rw [hx i hil,List.getElem?_replicate_of_lt hjs] at hc2
  refine ⟨bd,_,hbm,_,_,_,mo2.head hbm hil,bdj,_,hp,_,hc,own_c fun H3 s3 hs3 f3=>?_⟩
  have ap3:=ap2.nil f3
  have mo3:=mo2.nil f3
  have hc3:=cell_keep f3 hc2
  refine ⟨_,rfl,⟨⟨cell_keep f3 hc,trivial⟩,⟨mo3.head hbm hil,trivial⟩,trivial⟩,condS hs3.symm ⟨_,rfl,_,_,_,ap3.blk.cell 0,bd2,_,hbe,_,_,_,ap3.head hbe hi2,⟨by omega,h3⟩,_,hp2,_,hc3,own_c fun H4 s4 hs4 f4=>?_⟩⟩
  have ap4:=ap3.nil f4
  exact ⟨_,rfl,⟨⟨cell_keep f4 hc3,trivial⟩,⟨ap4.head hbe hi2,trivial⟩,⟨ap4.blk.cell 0,trivial⟩,trivial⟩,condS hs4.symm (condD (fun h4=>by omega) fun _=>go ((f2.trans f3).trans f4))⟩
 ·rw [if_neg (by omega)] at hc
  refine ⟨bd,_,hbm,_,_,_,mo2.head hbm hil,bdj,_,hp,_,hc,own_c fun H3 s3 hs3 f3=>?_⟩
  have hs3':s3=ownS i:=hs3
  exact ⟨_,rfl,⟨⟨cell_keep f3 hc,trivial⟩,⟨(mo2.nil f3).head hbm hil,trivial⟩,trivial⟩,condZ (by rw [hs3'];exact ownS_size i) (condS (by rw [hs3'];rfl) (go (f2.trans f3)))⟩
end
section
variable {H:Heap}{xb:Nat}{hd:Nat→Hd}{K:Foot}{U:Bool→Foot}{hs:Bool→Nat→Hd}{fs:Bool→Nat→Foot}{xs:Bool→Nat→List Value}{Q:QT}
theorem rep_snoc {n:Nat}{v:Value}:List.replicate n v++[v]=List.replicate (n+1) v:=by rw [List.replicate_succ']
theorem ap7 {Yb Yc Yd Ye Yf Yg Yh Yi Yr Ys Yt Yu Yv Yw Yx Yy Yz YA YB YC YD YE YF YG YH YI YJ YK YL YM YN YO YP YQ YR YS YT YU YV YW YX YY YZ Y0 Y1 Y2 Y3 Y4 Y5 Y6 Y7 Y8 Y9 Za Zb Zc Zd Ze Zf Zg Zh Zi Zj Zk Zl Zm Zn Zo Zp Zq Zr Zs Zt Zu Zv Zw Zx Zy Zz ZA ZB ZC ZD ZE ZF ZG ZH ZI ZJ ZK ZL ZM ZN ZO ZP ZQ ZR ZS ZT ZU ZV ZW ZX ZY ZZ Z0 Z1 Z2 Z3 Z4 Z5 Z6 Z7 Z8 Z9 Xa Xb Xc Xd Xe Xf Xg Xh Xi Xj Xk Xl Xm Wu Wv Ww Wx Wy Wz WA WB WC WD WE WF WG WH WI WJ WK WL WM WN WO WP WQ WR WS WT WU WV WW WX WY WZ W2 W3 W4 W5 W6 W7 W9 Va Vb Vc Vd Ve Vf Vg Vh Vi Vj Vk Vl Vm Vn Vo Vp Vq Vr Vs Vt Vu Vv Vw Vx Vy Vz VA VB VC VD VE VF VG VH VI VJ VK VL VM VN VO VP VQ VR VS VT VU VV VW VX VY VZ V0 V1 V2 V3 V4 V5 V6 V7 V8 V9 Ja Jb Jc Jd Je Jf Jg Jh Ji Jj Jk Jl Jm Jn Jo Jp Jq Jr Js Jt Ju Jv Jw Jx Jy Jz JA JB JC JD JE JF JG JH JI JJ JK JL JM JN:Value} (ap:AP H xb hd K U hs fs xs) (hlT:(hd 0).2.1≤2000) (hlI:(hd 2).2.1≤2000)
  (hxT:∀ j,j<(hd 0).2.1→xs false j=List.replicate (hs false j).2.1 (oneT j)) (hxI:∀ j,j<(hd 2).2.1→xs true j=List.replicate (hs true j).2.1 (oneI j)) (h:∀ H',Fr (U false++U true) H H'→Q (.bool true) H') :
  kilnlaw13_Lists_apart_T7 (some ⟨xb,0,none⟩) Yb Yc Yd Ye Yf Yg Yh Yi none 0 0 none 0 0 Yr Ys Yt Yu Yv Yw Yx Yy Yz YA YB YC YD YE YF YG YH YI YJ YK YL YM YN YO YP YQ YR YS YT YU YV YW YX YY YZ Y0 Y1 Y2 Y3 Y4 Y5 Y6 Y7 Y8 Y9 Za Zb Zc Zd Ze Zf Zg Zh Zi Zj Zk Zl Zm Zn Zo Zp Zq Zr Zs Zt Zu Zv Zw Zx Zy Zz ZA ZB ZC ZD ZE ZF ZG ZH ZI ZJ ZK ZL ZM ZN ZO ZP ZQ ZR ZS ZT ZU ZV ZW ZX ZY ZZ Z0 Z1 Z2 Z3 Z4 Z5 Z6 Z7 Z8 Z9 Xa Xb Xc Xd Xe Xf Xg Xh Xi Xj Xk Xl Xm Wu Wv Ww Wx Wy Wz WA WB WC WD WE WF WG WH WI WJ WK WL WM WN WO WP WQ WR WS WT WU WV WW WX WY WZ W2 W3 W4 W5 W6 W7 W9 Va Vb Vc Vd Ve Vf Vg Vh Vi Vj Vk Vl Vm Vn Vo Vp Vq Vr Vs Vt Vu Vv Vw Vx Vy Vz VA VB VC VD VE VF VG VH VI VJ VK VL VM VN VO VP VQ VR VS VT VU VV VW VX VY VZ V0 V1 V2 V3 V4 V5 V6 V7 V8 V9 Ja Jb Jc Jd Je Jf Jg Jh Ji Jj Jk Jl Jm Jn Jo Jp Jq Jr Js Jt Ju Jv Jw Jx Jy Jz JA JB JC JD JE JF JG JH JI JJ JK JL JM JN Q H:=by
 have hsT:sliceInfo PP 37=some (1,16,some (.string (⟨#[]⟩:ByteArray))):=by kernel_rfl
 have hsTT:sliceInfo PP 80=some (1,24,some (.slice none 0 0)):=by kernel_rfl
 have hsI:sliceInfo PP 66=some (1,8,some (.int .i64 0)):=by kernel_rfl
 have hsII:sliceInfo PP 178=some (1,24,some (.slice none 0 0)):=by kernel_rfl
 unfold kilnlaw13_Lists_apart_T7 A0 iV wW pV sV lV cS;dsimp only [shH]
 refine ⟨fun w H'=>∃(i:Nat) (a:Option Addr) (c:Nat),w=[.slice a i c,.int .i64 i]∧i≤(hd 0).2.1∧PH H H' xb hd K U hs fs xs false moreT i a c,fun w _=>match w with
  | [_,.int _ i]=>(((hd 0).2.1:Int)-i).toNat
  | _=>0,⟨0,none,0,rfl,by omega,PH.start ap _ _⟩,?_⟩
 rintro w H1 ⟨i,aT,cT,rfl,hi,hP⟩ _
 have ap1:=hP.ap
 refine ⟨_,_,_,_,rfl,_,rfl,_,_,_,ap1.blk.cell 0,condD (fun hlt=>?_) fun hge=>?_⟩
 ·have hi2:i<(hd (sel false)).2.1:=by show i<(hd 0).2.1;omega
  have hb:=ap1.bnd false i hi2
  have e1:IntKind.wrap .i64 ((i:Int)+1)=((i+1:Nat):Int):=by rw [wrap64_id (by omega) (by omega)];omega
  rw [e1,Int.toNat_natCast]
  obtain ⟨b,hbe,_,_⟩:=ap1.cell false i hi2
  have bd2:((0:Int)≤(i:Int)∧(i:Int)<((hd 0).2.1:Int)):=⟨by omega,hlt⟩
  refine ⟨_,rfl,_,_,_,ap1.blk.cell 0,bd2,_,hbe,_,_,_,ap1.head hbe hi2,own_c fun H2 s2 hs2 f2=>?_⟩
  have es2:s2=ownS i:=hs2
  have ap2:=ap1.nil f2
  have ap2p:=ap2.nil (Fr.push [] H2 (.cells #[.string ((⟨#[103]⟩:ByteArray)++s2)] 9))
  refine ⟨_,rfl,⟨⟨ap2.head hbe hi2,trivial⟩,⟨ap2.blk.cell 0,trivial⟩,trivial⟩,condZ (by rw [es2];exact ownS_size i) ⟨⟨⟨ap2p.head hbe hi2,trivial⟩,⟨ap2p.blk.cell 0,trivial⟩,trivial⟩,?_⟩⟩
  refine ((Grown.start (ap1.own false i hi2)).nil f2).app (by simp) hsT rfl (by kernel_rfl) rfl (by omega) (by decide) (by decide) fun a3 c3 G3 H3 g3=>⟨_,_,_,rfl,trivial,?_⟩
  refine ⟨fun w H'=>∃(j:Nat) (a:Option Addr) (c:Nat) (G:Foot),w=[.slice a ((hs false i).2.1+(1+j)) c,.int .i64 j]∧j≤40∧Grown H1 H' (hs false i) (fs false i) (xs false i) (List.replicate (1+j) (moreT i)) a c G,fun w _=>match w with
   | [_,.int _ j]=>((40:Int)-j).toNat
   | _=>0,⟨0,a3,c3,G3,rfl,by omega,?_⟩,?_⟩
  ·rw [es2] at g3;exact g3
  rintro w H4 ⟨j,a4,c4,G4,rfl,hj,g4⟩ _
  refine ⟨_,_,_,_,rfl,condD (fun hj2=>?_) fun hj2=>?_⟩
  ·have e4:IntKind.wrap .i64 ((j:Int)+1)=((j+1:Nat):Int):=by rw [wrap64_id (by omega) (by omega)];omega
   rw [e4]
   refine own_c fun H5 s5 hs5 f5=>⟨_,rfl,condZ (by rw [hs5];exact ownS_size i) ?_⟩
   refine (g4.nil f5).app (by simp) hsT rfl (by kernel_rfl) rfl (by omega) (by decide) (by decide) fun a6 c6 G6 H6 g6=>⟨_,_,_,rfl,⟨j+1,a6,c6,G6,rfl,by omega,?_⟩,by simp;omega⟩
   rw [hs5] at g6
   have e5:List.replicate (1+j) (moreT i)++[moreT i]=List.replicate (1+(j+1)) (moreT i):=rep_snoc
   rw [←e5]
   exact g6
  ·have ej:j=40:=by omega
   subst ej
   refine PH.app (.inr ⟨ap.ltK,ap.ltU⟩) hP hi2 g4 rfl hsTT rfl (by kernel_rfl) (by omega) (by decide) (by decide) fun a7 c7 H7 hP7=>⟨_,_,_,rfl,⟨i+1,a7,c7,rfl,by omega,hP7⟩,by simp;omega⟩
 have eT:i=(hd 0).2.1:=by omega
 subst eT
 obtain ⟨hmT,KT,moT,hlmT,hdT⟩:=hP.more ap.ltU rfl
 have frT:=hP.fr
 clear hP
 refine ⟨fun w H'=>∃(i:Nat) (a:Option Addr) (c:Nat),w=[.slice a i c,.int .i64 i]∧i≤(hd 2).2.1∧PH H1 H' xb hd K U hs fs xs true moreI i a c,fun w _=>match w with
  | [_,.int _ i]=>(((hd 2).2.1:Int)-i).toNat
  | _=>0,⟨0,none,0,rfl,by omega,PH.start ap1 _ _⟩,?_⟩
 rintro w H8 ⟨i,aI,cI,rfl,hi,hP⟩ _
 have ap8:=hP.ap
 refine ⟨_,_,_,_,rfl,_,rfl,_,_,_,blkA ap8.blk 2 rfl,condD (fun hlt=>?_) fun hge=>?_⟩
 ·have hi2:i<(hd (sel true)).2.1:=by show i<(hd 2).2.1;omega
  have hb:=ap8.bnd true i hi2
  have e1:IntKind.wrap .i64 ((i:Int)+1)=((i+1:Nat):Int):=by rw [wrap64_id (by omega) (by omega)];omega
  have e3:IntKind.wrap .i64 (500000+(i:Int))=500000+(i:Int):=wrap64_id (by omega) (by omega)
  rw [e1,e3,Int.toNat_natCast]
  obtain ⟨b,hbe,_,_⟩:=ap8.cell true i hi2
  have bd2:((0:Int)≤(i:Int)∧(i:Int)<((hd 2).2.1:Int)):=⟨by omega,hlt⟩
  refine ⟨_,rfl,_,_,_,blkA ap8.blk 2 rfl,bd2,_,hbe,_,_,_,ap8.head hbe hi2,?_⟩
  refine (Grown.start (ap8.own true i hi2)).app (by simp) hsI rfl (by kernel_rfl) rfl (by omega) (by decide) (by decide) fun a3 c3 G3 H3 g3=>⟨_,_,_,rfl,?_⟩
  refine ⟨fun w H'=>∃(j:Nat) (a:Option Addr) (c:Nat) (G:Foot),w=[.slice a ((hs true i).2.1+(1+j)) c,.int .i64 j]∧j≤40∧Grown H8 H' (hs true i) (fs true i) (xs true i) (List.replicate (1+j) (moreI i)) a c G,fun w _=>match w with
   | [_,.int _ j]=>((40:Int)-j).toNat
   | _=>0,⟨0,a3,c3,G3,rfl,by omega,g3⟩,?_⟩
  rintro w H4 ⟨j,a4,c4,G4,rfl,hj,g4⟩ _
  refine ⟨_,_,_,_,rfl,condD (fun hj2=>?_) fun hj2=>?_⟩
  ·have e4:IntKind.wrap .i64 ((j:Int)+1)=((j+1:Nat):Int):=by rw [wrap64_id (by omega) (by omega)];omega
   rw [e4]
   refine g4.app (by simp) hsI rfl (by kernel_rfl) rfl (by omega) (by decide) (by decide) fun a6 c6 G6 H6 g6=>⟨_,_,_,rfl,⟨j+1,a6,c6,G6,rfl,by omega,?_⟩,by simp;omega⟩
   have e5:List.replicate (1+j) (moreI i)++[moreI i]=List.replicate (1+(j+1)) (moreI i):=rep_snoc
   rw [←e5]
   exact g6
  ·have ej:j=40:=by omega
   subst ej
   refine PH.app (.inr ⟨ap1.ltK,ap1.ltU⟩) hP hi2 g4 rfl hsII rfl (by kernel_rfl) (by omega) (by decide) (by decide) fun a7 c7 H7 hP7=>⟨_,_,_,rfl,⟨i+1,a7,c7,rfl,by omega,hP7⟩,by simp;omega⟩
 have eI:i=(hd 2).2.1:=by omega
 subst eI
 obtain ⟨hmI,KI,moI,hlmI,hdI⟩:=hP.more ap1.ltU rfl
 have moT8:=moT.fr hP.fr (hdT true (by decide))
 refine kilnlaw13_Lists_apart_T9_ok (ap9 ap8 moI rfl hlI hlmI hxI (fun _ _=>rfl) moT8 rfl hlT hlmT hxT (fun _ _=>rfl) fun H' f=>h H' ?_)
 exact ((frT.mono fun b hb=>by simp [hb]).trans (hP.fr.mono fun b hb=>by simp [hb])).trans (Fr.of_nil f)
theorem rep_set {n:Nat}{v r:Value}{rest:List Value}:(List.replicate n v++r :: rest).set n v=List.replicate (n+1) v++rest:=by
 rw [List.set_append_right _ _ (by simp)]
 simp [List.replicate_succ']
theorem ap3 {Yb Yc Yd Ye Yl Ym Yn Yo Yp Yq Yr Ys Yt Yu Yv Yw Yx Yy Yz YA YB YC YD YE YF YG YH YI YJ YK YL YM YN YO YP YQ YR YS YT YU YV YW YX YY YZ Y0 Y1 Y2 Y3 Y4 Y5 Y6 Y7 Y8 Y9 Za Zb Zc Zd Ze Zf Zg Zh Zi Zj Zk Xn Xo Xp Xq Xr Xs Xt Xu Xv Xw Xx Xy Xz XA XB XC XD XE XF XG XH XI XJ XK XL XM XN XO XP XQ XR XS XT XU XV XW XX XY XZ X0 X1 X2 X3 X4 X5 X6 X7 X8 X9 Wa Wb Wc Wd We Wf Wg Wh Wi Wj Wk Wl Wm Wn Wo Wp Wq Ws Wt Wu Wv Ww Wx Wy Wz WA WB WC WD WE WF WG WH WI WJ WK WL WM WN WO WP WQ WR WS WT WU WV WW WX WY WZ W2 W3 W4 W5 W6 W7 W9 Va Vb Vc Vd Ve Vf Vg Vh Vi Vj Vk Vl Vm Vn Vo Vp Vq Vr Vs Vt Vu Vv Vw Vx Vy Vz VA VB VC VD VE VF VG VH VI VJ VK VL VM VN VO VP VQ VR VS VT VU VV VW VX VY VZ V0 V1 V2 V3 V4 V5 V6 V7 V8 V9 Ja Jb Jc Jd Je Jf Jg Jh Ji Jj Jk Jl Jm Jn Jo Jp Jq Jr Js Jt Ju Jv Jw Jx Jy Jz JA JB JC JD JE JF JG JH JI JJ JK JL JM JN:Value} (ap:AP H xb hd K U hs fs xs) (hlT:(hd 0).2.1≤2000) (hlI:(hd 2).2.1≤2000) (h:∀ H',Fr (U false++U true) H H'→Q (.bool true) H') :
  kilnlaw13_Lists_apart_T3 (some ⟨xb,0,none⟩) Yb Yc Yd Ye Yl Ym Yn Yo Yp Yq Yr Ys Yt Yu Yv Yw Yx Yy Yz YA YB YC YD YE YF YG YH YI YJ YK YL YM YN YO YP YQ YR YS YT YU YV YW YX YY YZ Y0 Y1 Y2 Y3 Y4 Y5 Y6 Y7 Y8 Y9 Za Zb Zc Zd Ze Zf Zg Zh Zi Zj Zk Xn Xo Xp Xq Xr Xs Xt Xu Xv Xw Xx Xy Xz XA XB XC XD XE XF XG XH XI XJ XK XL XM XN XO XP XQ XR XS XT XU XV XW XX XY XZ X0 X1 X2 X3 X4 X5 X6 X7 X8 X9 Wa Wb Wc Wd We Wf Wg Wh Wi Wj Wk Wl Wm Wn Wo Wp Wq Ws Wt Wu Wv Ww Wx Wy Wz WA WB WC WD WE WF WG WH WI WJ WK WL WM WN WO WP WQ WR WS WT WU WV WW WX WY WZ W2 W3 W4 W5 W6 W7 W9 Va Vb Vc Vd Ve Vf Vg Vh Vi Vj Vk Vl Vm Vn Vo Vp Vq Vr Vs Vt Vu Vv Vw Vx Vy Vz VA VB VC VD VE VF VG VH VI VJ VK VL VM VN VO VP VQ VR VS VT VU VV VW VX VY VZ V0 V1 V2 V3 V4 V5 V6 V7 V8 V9 Ja Jb Jc Jd Je Jf Jg Jh Ji Jj Jk Jl Jm Jn Jo Jp Jq Jr Js Jt Ju Jv Jw Jx Jy Jz JA JB JC JD JE JF JG JH JI JJ JK JL JM JN Q H:=by
 unfold kilnlaw13_Lists_apart_T3 iV wW pV sV lV cS;dsimp only [shH]
 refine ⟨fun w H'=>∃(i:Nat) (xs':Bool→Nat→List Value),w=[.int .i64 i]∧i≤(hd 0).2.1∧AP H' xb hd K U hs fs xs'∧(∀ j,j<i→xs' false j=List.replicate (hs false j).2.1 (oneT j))∧Fr (U false++U true) H H',fun w _=>match w with
  | [.int _ i]=>(((hd 0).2.1:Int)-i).toNat
  | _=>0,⟨0,xs,rfl,by omega,ap,fun j hj=>by omega,Fr.refl _ _⟩,?_⟩
 clear ap
 rintro w H1 ⟨i,xs1,rfl,hi,ap1,hx1,fr1⟩ _
 refine ⟨_,rfl,_,rfl,_,_,_,ap1.blk.cell 0,condD (fun hlt=>?_) fun hge=>?_⟩
 ·have hi2:i<(hd (sel false)).2.1:=by show i<(hd 0).2.1;omega
  have hb:=ap1.bnd false i hi2
  have e1:IntKind.wrap .i64 ((i:Int)+1)=((i+1:Nat):Int):=by rw [wrap64_id (by omega) (by omega)];omega
  rw [e1,Int.toNat_natCast]
  obtain ⟨b,hbe,_,_⟩:=ap1.cell false i hi2
  have bd2:((0:Int)≤(i:Int)∧(i:Int)<((hd 0).2.1:Int)):=⟨by omega,hlt⟩
  refine ⟨fun w H'=>∃(j:Nat) (xs':Bool→Nat→List Value) (rest:List Value),w=[.int .i64 j]∧j≤(hs false i).2.1∧AP H' xb hd K U hs fs xs'∧(∀ k,k<i→xs' false k=List.replicate (hs false k).2.1 (oneT k))∧xs' false i=List.replicate j (oneT i)++rest∧Fr (U false++U true) H H',fun w _=>match w with
   | [.int _ j]=>(((hs false i).2.1:Int)-j).toNat
   | _=>0,⟨0,xs1,xs1 false i,rfl,by omega,ap1,hx1,rfl,fr1⟩,?_⟩
  rintro w H2 ⟨j,xs2,rest,rfl,hj,ap2,hx2,hr2,fr2⟩ _
  refine ⟨_,rfl,_,rfl,_,_,_,ap2.blk.cell 0,bd2,_,hbe,_,_,_,ap2.head hbe hi2,condD (fun hlt2=>?_) fun hge2=>?_⟩
  ·have e4:IntKind.wrap .i64 ((j:Int)+1)=((j+1:Nat):Int):=by rw [wrap64_id (by omega) (by omega)];omega
   rw [e4,Int.toNat_natCast]
   refine ⟨_,rfl,_,_,_,ap2.blk.cell 0,bd2,_,hbe,_,_,_,ap2.head hbe hi2,own_c fun H3 s3 hs3 f3=>?_⟩
   have ap3:=ap2.nil f3
   have hjl:j<(hs false i).2.1:=by omega
   have ho3:=ap3.own false i hi2
   obtain ⟨bb,hbb,hw,hf,hput⟩:=Own.put ho3 hjl (.string s3)
   have es3:s3=ownS i:=hs3
   refine ⟨_,rfl,⟨⟨ap3.head hbe hi2,trivial⟩,⟨ap3.blk.cell 0,trivial⟩,trivial⟩,⟨by omega,hlt2⟩,_,hbb,?_⟩
   rw [add_none,Nat.zero_add,Nat.mul_one]
   have hlen:=ho3.len
   rw [hr2] at hlen
   simp only [List.length_append,List.length_replicate,Nat.mul_one] at hlen
   cases rest with
   | nil=>simp at hlen;omega
   | cons r rest =>
    refine ⟨hw,trivial,⟨j+1,_,rest,rfl,by omega,ap3.set hi2 hf hput,fun k hk=>?_,?_,?_⟩,by simp;omega⟩
    ·rw [updX_ne _ _ (.inr (by omega))];exact hx2 k hk
    ·rw [updX_eq,hr2,es3];exact rep_set
    ·exact (fr2.trans (Fr.of_nil f3)).trans (hf.mono fun y hy=>List.mem_append.2 (.inl (ap3.sub false i hi2 y hy)))
  ·have ej:j=(hs false i).2.1:=by omega
   have hlen:=(ap2.own false i hi2).len
   rw [hr2] at hlen
   simp only [List.length_append,List.length_replicate,Nat.mul_one] at hlen
   have er:rest=[]:=List.eq_nil_of_length_eq_zero (by omega)
   refine ⟨⟨i+1,xs2,rfl,by omega,ap2,fun k hk=>?_,fr2⟩,by simp;omega⟩
   by_cases ek:k=i
   ·subst ek;rw [hr2,er,List.append_nil,ej]
   ·exact hx2 k (by omega)
 have eT:i=(hd 0).2.1:=by omega
 subst eT
 refine ⟨fun w H'=>∃(i:Nat) (xs':Bool→Nat→List Value),w=[.int .i64 i]∧i≤(hd 2).2.1∧AP H' xb hd K U hs fs xs'∧(∀ j,j<(hd 0).2.1→xs' false j=List.replicate (hs false j).2.1 (oneT j))∧(∀ j,j<i→xs' true j=List.replicate (hs true j).2.1 (oneI j))∧Fr (U false++U true) H H',fun w _=>match w with
  | [.int _ i]=>(((hd 2).2.1:Int)-i).toNat
  | _=>0,⟨0,xs1,rfl,by omega,ap1,hx1,fun j hj=>by omega,fr1⟩,?_⟩
 clear ap1 hx1 fr1
 rintro w H4 ⟨i,xs4,rfl,hi,ap4,hx4,hy4,fr4⟩ _
 refine ⟨_,rfl,_,rfl,_,_,_,blkA ap4.blk 2 rfl,condD (fun hlt=>?_) fun hge=>?_⟩
 ·have hi2:i<(hd (sel true)).2.1:=by show i<(hd 2).2.1;omega
  have hb:=ap4.bnd true i hi2
  have e1:IntKind.wrap .i64 ((i:Int)+1)=((i+1:Nat):Int):=by rw [wrap64_id (by omega) (by omega)];omega
  have e2:IntKind.wrap .i64 (1000+(i:Int))=1000+(i:Int):=wrap64_id (by omega) (by omega)
  rw [e1,e2,Int.toNat_natCast]
  obtain ⟨b,hbe,_,_⟩:=ap4.cell true i hi2
  have bd2:((0:Int)≤(i:Int)∧(i:Int)<((hd 2).2.1:Int)):=⟨by omega,hlt⟩
  refine ⟨fun w H'=>∃(j:Nat) (xs':Bool→Nat→List Value) (rest:List Value),w=[.int .i64 j]∧j≤(hs true i).2.1∧AP H' xb hd K U hs fs xs'∧(∀ k,k<(hd 0).2.1→xs' false k=List.replicate (hs false k).2.1 (oneT k))∧(∀ k,k<i→xs' true k=List.replicate (hs true k).2.1 (oneI k))∧xs' true i=List.replicate j (oneI i)++rest∧Fr (U false++U true) H H',fun w _=>match w with
   | [.int _ j]=>(((hs true i).2.1:Int)-j).toNat
   | _=>0,⟨0,xs4,xs4 true i,rfl,by omega,ap4,hx4,hy4,rfl,fr4⟩,?_⟩
  rintro w H5 ⟨j,xs5,rest,rfl,hj,ap5,hx5,hy5,hr5,fr5⟩ _
  refine ⟨_,rfl,_,rfl,_,_,_,blkA ap5.blk 2 rfl,bd2,_,hbe,_,_,_,ap5.head hbe hi2,condD (fun hlt2=>?_) fun hge2=>?_⟩
  ·have e4:IntKind.wrap .i64 ((j:Int)+1)=((j+1:Nat):Int):=by rw [wrap64_id (by omega) (by omega)];omega
   rw [e4,Int.toNat_natCast]
   have hjl:j<(hs true i).2.1:=by omega
   have ho5:=ap5.own true i hi2
   obtain ⟨bb,hbb,hw,hf,hput⟩:=Own.put ho5 hjl (.int .i64 (1000+(i:Int)))
   refine ⟨_,rfl,_,_,_,blkA ap5.blk 2 rfl,bd2,_,hbe,_,_,_,ap5.head hbe hi2,⟨by omega,hlt2⟩,_,hbb,?_⟩
   rw [add_none,Nat.zero_add,Nat.mul_one]
   have hlen:=ho5.len
   rw [hr5] at hlen
   simp only [List.length_append,List.length_replicate,Nat.mul_one] at hlen
   cases rest with
   | nil=>simp at hlen;omega
   | cons r rest =>
    refine ⟨hw,⟨j+1,_,rest,rfl,by omega,ap5.set hi2 hf hput,fun k hk=>?_,fun k hk=>?_,?_,?_⟩,by simp;omega⟩
    ·rw [updX_ne _ _ (.inl (by decide))];exact hx5 k hk
    ·rw [updX_ne _ _ (.inr (by omega))];exact hy5 k hk
    ·rw [updX_eq,hr5];exact rep_set
    ·exact fr5.trans (hf.mono fun y hy=>List.mem_append.2 (.inr (ap5.sub true i hi2 y hy)))
  ·have ej:j=(hs true i).2.1:=by omega
   have hlen:=(ap5.own true i hi2).len
   rw [hr5] at hlen
   simp only [List.length_append,List.length_replicate,Nat.mul_one] at hlen
   have er:rest=[]:=List.eq_nil_of_length_eq_zero (by omega)
   refine ⟨⟨i+1,xs5,rfl,by omega,ap5,hx5,fun k hk=>?_,fr5⟩,by simp;omega⟩
   by_cases ek:k=i
   ·subst ek;rw [hr5,er,List.append_nil,ej]
   ·exact hy5 k (by omega)
 have eI:i=(hd 2).2.1:=by omega
 subst eI
 exact kilnlaw13_Lists_apart_T7_ok (ap7 ap4 hlT hlI hx4 hy4 fun H' f=>h H' (fr4.trans f))
end
attribute [local irreducible] bootRH bootH bootL
theorem LS.ap {H:Heap}{xb:Nat}{hd:Nat→Hd}{Fs:Nat→Foot}{zs ws:List (List ByteArray)}{is vs:List (List Int)} (h:LS H xb hd Fs zs ws is vs) (hz:∀ z∈zs,z.length≤100000000) (hI:∀ z∈is,z.length≤100000000) :
  ∃ K U hs fs xs,AP H xb hd K U hs fs xs∧∀ b∈U false++U true,b∈allF xb Fs:=by
 obtain ⟨F1,F2,hsT,fsT,s1,s2,d1,l2,c1,o1,p1⟩:=LRep.parts (V:=strsV) h.t
 obtain ⟨G1,G2,hsI,fsI,r1,r2,e1,m2,k1,q1,t1⟩:=LRep.parts (V:=intsV) h.i
 have lt1:zs.length=(hd 0).2.1:=h.t.len.symm
 have lt2:is.length=(hd 2).2.1:=h.i.len.symm
 have d02:=h.d 0 2 (by decide) (by decide) (by decide)
 have gT:∀ i,i<(hd 0).2.1→∃ x,zs[i]?=some x∧x∈zs∧strsV (zs.getD i [])=strsV x:=fun i hi=>by
  have hh:i<zs.length:=by omega
  exact ⟨zs[i],List.getElem?_eq_getElem hh,List.getElem_mem hh,by rw [List.getD_eq_getElem?_getD,List.getElem?_eq_getElem hh];rfl⟩
 have gI:∀ i,i<(hd 2).2.1→∃ x,is[i]?=some x∧x∈is∧intsV (is.getD i [])=intsV x:=fun i hi=>by
  have hh:i<is.length:=by omega
  exact ⟨is[i],List.getElem?_eq_getElem hh,List.getElem_mem hh,by rw [List.getD_eq_getElem?_getD,List.getElem?_eq_getElem hh];rfl⟩
 refine ⟨xb :: (F1++G1),fun c=>match c with | false=>F2 | true=>G2,fun c=>match c with | false=>hsT | true=>hsI,fun c=>match c with | false=>fsT | true=>fsI,fun c i=>match c with | false=>strsV (zs.getD i []) | true=>intsV (is.getD i []),⟨h.blk,by simp,fun b hb=>?_,fun c b hb=>?_,fun c b hb hm=>?_,fun c c' hc=>?_,fun c i hi b hb=>?_,fun c i j hi hj hij=>?_,fun c i hi=>?_,fun c i hi=>?_,fun c i hi=>?_⟩,fun b hb=>?_⟩
 ·simp only [List.mem_cons,List.mem_append] at hb
  rcases hb with rfl | hb | hb
  ·exact h.blk.lt
  ·exact h.lt 0 (by decide) b (s1 b hb)
  ·exact h.lt 2 (by decide) b (r1 b hb)
 ·cases c
  ·exact l2 b hb
  ·exact m2 b hb
 ·simp only [List.mem_cons,List.mem_append] at hm
  cases c
  ·rcases hm with rfl | hm | hm
   ·exact h.x 0 (by decide) (s2 _ hb)
   ·exact d1 b hb hm
   ·exact d02 b (s2 b hb) (r1 b hm)
  ·rcases hm with rfl | hm | hm
   ·exact h.x 2 (by decide) (r2 _ hb)
   ·exact d02 b (s1 b hm) (r2 b hb)
   ·exact e1 b hb hm
 ·cases c <;> cases c'
  ·exact absurd rfl hc
  ·exact fun b hb hm=>d02 b (s2 b hb) (r2 b hm)
  ·exact fun b hb hm=>d02 b (s2 b hm) (r2 b hb)
  ·exact absurd rfl hc
 ·cases c
  ·obtain ⟨x,hx,_⟩:=gT i hi
   exact (o1 i x hx).2 b hb
  ·obtain ⟨x,hx,_⟩:=gI i hi
   exact (q1 i x hx).2 b hb
 ·cases c
  ·exact p1 i j (by have h3:i<(hd 0).2.1:=hi;omega) (by have h3:j<(hd 0).2.1:=hj;omega) hij
  ·exact t1 i j (by have h3:i<(hd 2).2.1:=hi;omega) (by have h3:j<(hd 2).2.1:=hj;omega) hij
 ·cases c
  ·obtain ⟨b,g1,g2,g3⟩:=c1 i hi
   exact ⟨b,g1,by simp [g2],g3⟩
  ·obtain ⟨b,g1,g2,g3⟩:=k1 i hi
   exact ⟨b,g1,by simp [g2],g3⟩
 ·cases c
  ·obtain ⟨x,hx,_,e⟩:=gT i hi
   simp only [e]
   exact (o1 i x hx).1
  ·obtain ⟨x,hx,_,e⟩:=gI i hi
   simp only [e]
   exact (q1 i x hx).1
 ·cases c
  ·obtain ⟨x,hx,hm,e⟩:=gT i hi
   have h1:=(o1 i x hx).1.len
   have h2:=hz x hm
   simp only [strsV,List.length_map] at h1
   show (hsT i).2.1≤_
   omega
  ·obtain ⟨x,hx,hm,e⟩:=gI i hi
   have h1:=(q1 i x hx).1.len
   have h2:=hI x hm
   simp only [intsV,List.length_map] at h1
   show (hsI i).2.1≤_
   omega
 ·rcases List.mem_append.1 hb with hb | hb
  ·exact allF_k (by decide) (s2 b hb)
  ·exact allF_k (by decide) (r2 b hb)
theorem RV.get {α:Type}{V:α→List Value}{H:Heap}{a:Option Addr}{l c:Nat}{zs:List α}{F:Foot} (h:LRep 1 (RV V) H a l c zs F){i:Nat} (hi:i<zs.length):∃ b al ll cl,a=some ⟨b,0,none⟩∧cellH H ((⟨b,0,none⟩:Addr).add (i*1))=some (.slice al ll cl)∧Rd 1 H al ll (V zs[i]):=by
 obtain ⟨⟨pb,po,ps⟩,ys,G,h1,h2,h3,h4,h5,⟨al,ll,cl,e,ho⟩,_⟩:=h.get hi
 simp only at h2 h3 h4
 subst h2;subst h3
 have:=h4 0 (by decide)
 rw [e] at this
 exact ⟨pb,al,ll,cl,h1,by rw [add_none,Nat.zero_add];exact this,ho.rd⟩
section
variable {H:Heap}{xb:Nat}{hd:Nat→Hd}{Fs:Nat→Foot}{zs:List (List ByteArray)}{is:List (List Int)}{Q:QT}
theorem apart_c (hL:LS H xb hd Fs zs zs is is) (hz:∀ z∈zs,z.length≤100000000) (hi:∀ z∈is,z.length≤100000000) (hn:zs.length≤2000) (hm:is.length≤2000) (h:∀ H',Fr (allF xb Fs) H H'→Q (.bool true) H') :
  callS PP n_k30 #[.pointer (some ⟨xb,0,none⟩)] Q H:=by
 apply k30_ok
 unfold k30 iV wW pV lV cS
 have l0:=hL.t.len
 have l1:=hL.w.len
 have l2:=hL.i.len
 have l3:=hL.v.len
 refine ⟨fun w H'=>∃ i:Nat,w=[.int .i64 i]∧i≤zs.length∧H'=H,fun w _=>match w with
  | [.int _ i]=>((zs.length:Int)-i).toNat
  | _=>0,⟨0,rfl,by omega,rfl⟩,?_⟩
 rintro w H1 ⟨i,rfl,hi1,rfl⟩ _
 refine ⟨_,rfl,_,rfl,_,_,_,hL.blk.cell 0,condD (fun hlt=>?_) fun hge=>?_⟩
 ·have hil:i<zs.length:=by omega
  have e1:IntKind.wrap .i64 ((i:Int)+1)=((i+1:Nat):Int):=by rw [wrap64_id (by omega) (by omega)];omega
  rw [e1,Int.toNat_natCast]
  obtain ⟨b1,a1,n1,c1,hb1,hc1,hr1⟩:=RV.get (V:=strsV) hL.t hil
  obtain ⟨b2,a2,n2,c2,hb2,hc2,hr2⟩:=RV.get (V:=strsV) hL.w hil
  refine ⟨_,rfl,_,_,_,hL.blk.cell 0,⟨by omega,hlt⟩,_,hb1,_,_,_,hc1,_,rfl,_,_,_,blkA hL.blk 1 rfl,⟨by omega,by omega⟩,_,hb2,_,_,_,hc2,?_⟩
  have hn1:=hr1.1
  have:=hz zs[i] (List.getElem_mem hil)
  simp only [strsV,List.length_map] at hn1
  refine same_c hr1 hr2 (by omega) ⟨_,rfl,trivial,?_⟩
  rw [decide_eq_true rfl]
  exact ⟨⟨i+1,rfl,by omega,rfl⟩,by simp;omega⟩
 refine ⟨fun w H'=>∃ i:Nat,w=[.int .i64 i]∧i≤is.length∧H'=H1,fun w _=>match w with
  | [.int _ i]=>((is.length:Int)-i).toNat
  | _=>0,⟨0,rfl,by omega,rfl⟩,?_⟩
 rintro w H3 ⟨i,rfl,hi3,rfl⟩ _
 refine ⟨_,rfl,_,rfl,_,_,_,blkA hL.blk 2 rfl,condD (fun hlt=>?_) fun hge=>?_⟩
 ·have hil:i<is.length:=by omega
  have e1:IntKind.wrap .i64 ((i:Int)+1)=((i+1:Nat):Int):=by rw [wrap64_id (by omega) (by omega)];omega
  rw [e1,Int.toNat_natCast]
  obtain ⟨b1,a1,n1,c1,hb1,hc1,hr1⟩:=RV.get (V:=intsV) hL.i hil
  obtain ⟨b2,a2,n2,c2,hb2,hc2,hr2⟩:=RV.get (V:=intsV) hL.v hil
  refine ⟨_,rfl,_,_,_,blkA hL.blk 2 rfl,⟨by omega,hlt⟩,_,hb1,_,_,_,hc1,_,rfl,_,_,_,blkA hL.blk 3 rfl,⟨by omega,by omega⟩,_,hb2,_,_,_,hc2,?_⟩
  have hn1:=hr1.1
  have:=hi is[i] (List.getElem_mem hil)
  simp only [intsV,List.length_map] at hn1
  refine sameInts_c hr1 hr2 (by omega) ⟨_,rfl,trivial,?_⟩
  rw [decide_eq_true rfl]
  exact ⟨⟨i+1,rfl,by omega,rfl⟩,by simp;omega⟩
 obtain ⟨K,U,hs,fs,xs,ap,hU⟩:=hL.ap hz hi
 exact kilnlaw13_Lists_apart_T3_ok (ap3 ap (by omega) (by omega) fun H' f=>h H' (f.mono hU))
end
section
variable {H:Heap}{bp br:Nat}{Fp Fq:Foot}{s:SP}{t:TB}{v:KV}{Q:QT}
theorem own2 (v0 v1:ByteArray) (e:TypeId) (H:Heap):Own 1 (H.push (.cells #[.string v0,.string v1] e)) (some ⟨H.size,0,none⟩) 2 2 (strsV [v0,v1]) [H.size]:=⟨rfl,Nat.le_refl _,.inr ⟨_,_,rfl,rfl,Blk.new _ _ _,rfl,rfl⟩⟩
theorem global_both (hT:Tw H bp br Fp Fq s t v){name:ByteArray}{R:Heap→Prop} (h:∀ H' Fp' Fq' s' t' v',Tw H' bp br Fp' Fq' s' t' v'→Up (Fp++Fq) H (Fp'++Fq') H'→R H') :
  callS PP n_k18 #[.pointer (some ⟨bp,0,none⟩),.string name] (fun v14 H5=>∃ n15:Int,v14=.int .i64 n15∧callS PP n_k12 #[.int .i64 n15] (fun v16 H6=>∃ n17:Int,v16=.int .i64 n17∧callS PP n_k27 #[.pointer (some ⟨br,0,none⟩),.string name] (fun v18 H7=>∃ n19:Int,v18=.int .i64 n19∧cond (n17 != n19) (Q (.bool false) H7) (R H7)) H6) H5) H:=by
 refine kglobal_k hT.p hT.v fun H1 Fp' hP hu1=>⟨_,rfl,num1_c ⟨_,rfl,global_r (hT.r1 hu1) hT.v fun H2 Fq' hR2 hu2=>⟨_,rfl,condE rfl ?_⟩⟩⟩
 obtain ⟨v',hv'⟩:=kGlobalAll_all hT.v name
 obtain ⟨hT2,hu⟩:=hT.both hP hu1 hR2 hu2 hv'
 exact h _ _ _ _ _ _ hT2 hu
theorem own_over {F0 F1:Foot}{H0 H1:Heap}{s:SP}{t:TB}{b:Nat} (hP:PK H1 b F1 s t) (hu:Up F0 H0 F1 H1){o:Nat} (ho0:H0.size≤o) (hoF:o∉F1){c2:Nat}{ys:List ByteArray} (ho:Own 1 H1 (some ⟨o,0,none⟩) 2 c2 (strsV ys) [o]) (hg:g_word_kinds<H0.size) (j:Nat) (hj:j<2) (x:ByteArray) :
  Wr H1 ⟨o,j,none⟩∧PK (setH H1 ⟨o,j,none⟩ (.string x)) b F1 s t∧Up F0 H0 F1 (setH H1 ⟨o,j,none⟩ (.string x))∧Own 1 (setH H1 ⟨o,j,none⟩ (.string x)) (some ⟨o,0,none⟩) 2 c2 (strsV (ys.set j x)) [o]:=by
 obtain ⟨bb,hbb,hw,hf,hput⟩:=Own.put ho hj (.string x)
 cases hbb
 refine ⟨hw,hP.fr hf (fun y hy hm=>by simp at hm;subst hm;exact hoF hy) (by simp;omega),Up.mid hu hf (by simp;omega),?_⟩
 have e:strsV (ys.set j x)=(strsV ys).set j (.string x):=by simp [strsV,List.map_set]
 rw [e]
 exact hput
theorem defines_c (hT:Tw H bp br Fp Fq s t v) (h:∀ H' Fp' Fq' s' t' v',Tw H' bp br Fp' Fq' s' t' v'→Up (Fp++Fq) H (Fp'++Fq') H'→Q (.bool true) H') :
  callS PP n_k28 #[.pointer (some ⟨bp,0,none⟩),.pointer (some ⟨br,0,none⟩)] Q H:=by
 apply k28_ok
 unfold k28 A0 iV pV sV lV cS
 have hgl:=hT.glt
 have ho0:=own2 ⟨#[97,120]⟩ ⟨#[97,121]⟩ 9 H
 have fp:=Fr.push [] H (.cells #[.string (⟨#[97,120]⟩:ByteArray),.string (⟨#[97,121]⟩:ByteArray)] 9)
 generalize (H.push (.cells #[.string (⟨#[97,120]⟩:ByteArray),.string (⟨#[97,121]⟩:ByteArray)] 9))=H0 at ho0 fp ⊢
 have hlp:=hT.p.lt
 have nF:H.size∉Fp:=fun hm=>Nat.lt_irrefl _ (hlp _ hm)
 have out:∀ {H':Heap}{F':Foot}{ys:List ByteArray},Own 1 H' (some ⟨H.size,0,none⟩) 2 2 (strsV ys) [H.size]→H.size∉F'→Outs H' (some ⟨H.size,0,none⟩) 2 F':=fun ho hn=>.inr (Own.out ho (by intro y hy hm;simp at hy;subst hy;exact hn hm))
 have keep:∀ {H1 H2:Heap}{F1 F2:Foot}{ys:List ByteArray},Own 1 H1 (some ⟨H.size,0,none⟩) 2 2 (strsV ys) [H.size]→Up F1 H1 F2 H2→H.size∉F1→Own 1 H2 (some ⟨H.size,0,none⟩) 2 2 (strsV ys) [H.size]∧H.size∉F2:=fun ho hu hn =>
  ⟨ho.fr hu.1 (by intro y hy hm;simp at hy;subst hy;exact hn hm),Up.out hu hn (by have:=ho.lt H.size (by simp);exact this)⟩
 refine kdefine_k (hT.p.nil fp) hT.v ho0.rd (out ho0 nF) (by omega) (by omega) fun H1 F1 hP1 hu1=>⟨_,_,rfl,⟨by decide,by decide⟩,_,rfl,?_⟩
 obtain ⟨v1,hv1⟩:=kDefineAll_all hT.v ⟨#[67,111,110,101]⟩ ⟨#[79,98,106,101,99,116]⟩ [⟨#[97,120]⟩,⟨#[97,121]⟩]
 obtain ⟨ho1,nF1⟩:=keep ho0 hu1 nF
 have u1:=(Up.of_nil (F:=Fp) fp).trans hu1
 obtain ⟨w1,hP1b,u1b,ho1b⟩:=own_over hP1 u1 (Nat.le_refl _) nF1 ho1 hgl 0 (by decide) ⟨#[97,122]⟩
 have ho1b:Own 1 _ (some ⟨H.size,0,none⟩) 2 2 (strsV [⟨#[97,122]⟩,⟨#[97,121]⟩]) [H.size]:=ho1b
 refine ⟨w1,?_⟩
 refine kdefine_k hP1b hv1 ho1b.rd (out ho1b nF1) (by omega) (by omega) fun H2 F2 hP2 hu2=>⟨_,_,rfl,⟨by decide,by decide⟩,_,rfl,?_⟩
 obtain ⟨v2,hv2⟩:=kDefineAll_all hv1 ⟨#[67,116,119,111]⟩ ⟨#[79,98,106,101,99,116]⟩ [⟨#[97,122]⟩,⟨#[97,121]⟩]
 obtain ⟨ho2,nF2⟩:=keep ho1b hu2 nF1
 have u2:=u1b.trans hu2
 obtain ⟨w2,hP2b,u2b,ho2b⟩:=own_over hP2 u2 (Nat.le_refl _) nF2 ho2 hgl 1 (by decide) ⟨#[97,122]⟩
 have ho2b:Own 1 _ (some ⟨H.size,0,none⟩) 2 2 (strsV [⟨#[97,122]⟩,⟨#[97,122]⟩]) [H.size]:=ho2b
 refine ⟨w2,?_⟩
 refine kdefine_k hP2b hv2 ho2b.rd (out ho2b nF2) (by omega) (by omega) fun H3 F3 hP3 hu3=>⟨_,_,rfl,?_⟩
 obtain ⟨v3,hv3⟩:=kDefineAll_all hv2 ⟨#[67,116,104,114,101,101]⟩ ⟨#[79,98,106,101,99,116]⟩ [⟨#[97,122]⟩,⟨#[97,122]⟩]
 have u3:=u2b.trans hu3
 have hR3:=hT.r1 u3
 have lt3:=hR3.lt
 have outq:∀ {H':Heap}{F':Foot}{e:TypeId}{x y:ByteArray},(∀ b∈F',b<H'.size)→Outs (H'.push (.cells #[.string x,.string y] e)) (some ⟨H'.size,0,none⟩) 2 F':=fun hl=>.inr (Own.out (own2 _ _ _ _) (by intro y hy hm;simp at hy;subst hy;exact Nat.lt_irrefl _ (hl _ hm)))
 refine define0_r (hR3.nil (Fr.push [] _ _)) hT.v (own2 _ _ _ _).rd (outq lt3) (by omega) fun H4 F4 hR4 hu4=>⟨_,_,rfl,?_⟩
 refine define0_r (hR4.nil (Fr.push [] _ _)) hv1 (own2 _ _ _ _).rd (outq hR4.lt) (by omega) fun H5 F5 hR5 hu5=>⟨_,_,rfl,?_⟩
 refine define0_r (hR5.nil (Fr.push [] _ _)) hv2 (own2 _ _ _ _).rd (outq hR5.lt) (by omega) fun H6 F6 hR6 hu6=>⟨_,_,rfl,?_⟩
 have u6:=(((Up.of_nil (F:=Fq) (Fr.push [] H3 _)).trans hu4).trans ((Up.of_nil (Fr.push [] H4 _)).trans hu5)).trans ((Up.of_nil (Fr.push [] H5 _)).trans hu6)
 obtain ⟨hT6,hu⟩:=hT.both hP3 u3 hR6 u6 hv3
 refine condI (fun _=>num1_c ⟨_,rfl,condI (fun _=>condI (fun _=>num1_c ⟨_,rfl,condI (fun _=>condI (fun _=>num1_c ⟨_,rfl,?_⟩) fun hn=>absurd rfl hn) fun hn=>absurd rfl hn⟩) fun hn=>absurd rfl hn) fun hn=>absurd rfl hn⟩) fun hn=>absurd rfl hn
 rw [beqI,decide_eq_true rfl]
 exact h _ _ _ _ _ _ hT6 hu
end
end Go.Proofs.YtmkdkplipbocjaaGreatDoor
namespace Go.Proofs.YtmkdkplipbocjaaGreatDoor
open Kw
attribute [local irreducible] bootRH bootH bootL
def HeldOK (H0 H:Heap) (F:Foot) (p:Option Addr):Prop:=p=none∨∃ xb hd Fs zs is,p=some ⟨xb,0,none⟩∧LS H xb hd Fs zs zs is is∧zs.length≤2000∧is.length≤2000∧(∀ z∈zs,z.length≤100000000)∧(∀ z∈is,z.length≤100000000)∧∀ y∈allF xb Fs,H0.size≤y∧y∉F
section
variable {H0 H H':Heap}{F F':Foot}{p:Option Addr}
theorem LS.allLt {xb:Nat}{hd:Nat→Hd}{Fs:Nat→Foot}{zs ws:List (List ByteArray)}{is vs:List (List Int)} (h:LS H xb hd Fs zs ws is vs):∀ y∈allF xb Fs,y<H.size:=fun y hy=>by
 rcases allF_mem hy with rfl | ⟨k,hk,hy⟩
 ·exact h.blk.lt
 ·exact h.lt k hk y hy
theorem HeldOK.up (h:HeldOK H0 H F p) (hu:Up F H F' H'):HeldOK H0 H' F' p:=by
 rcases h with h | ⟨xb,hd,Fs,zs,is,h1,h2,h3,h4,h5,h6,h7⟩
 ·exact .inl h
 ·refine .inr ⟨xb,hd,Fs,zs,is,h1,h2.fr hu.1 (h7 _ allF_x).2 fun k hk y hy=>(h7 y (allF_k hk hy)).2,h3,h4,h5,h6,fun y hy=>⟨(h7 y hy).1,fun hm=>?_⟩⟩
  rcases hu.2 y hm with h8 | h8
  ·exact (h7 y hy).2 h8
  ·have:=h2.allLt y hy;omega
theorem HeldOK.of {xb n m:Nat} (h:LJ [] H H' xb n m) (hn:n≤2000) (hm:m≤2000) (h0:H0.size≤H.size) (hF:∀ y∈F,y<H.size):HeldOK H0 H' F (some ⟨xb,0,none⟩):=by
 obtain ⟨hd,Fs,zs,is,hB,hz,hi,hlz,hli⟩:=h
 refine .inr ⟨xb,hd,Fs,zs,is,rfl,hB.ls,by omega,by omega,hlz,hli,fun y hy=>?_⟩
 rcases hB.up.2 y hy with h1 | h1
 ·simp at h1
 ·exact ⟨by omega,fun hm=>by have:=hF y hm;omega⟩
theorem LJ.fr {xb n m:Nat} (h:LJ [] H H' xb n m):Fr [] H H':=by obtain ⟨_,_,_,_,hB,_⟩:=h;exact hB.up.1
end
structure Hold (H0 H:Heap) (bp br:Nat) (p:Option Addr):Prop where
 tw:∃ Fp Fq s t v,Tw H bp br Fp Fq s t v∧(∀ x∈Fp++Fq,H0.size≤x)∧HeldOK H0 H (Fp++Fq) p
 fr:Fr [] H0 H
section
variable {H0 H:Heap}{bp br:Nat}{p:Option Addr}{Q:QT}
theorem up_all {H0 H H':Heap}{F F':Foot} (hf:Fr [] H0 H) (hF:∀ x∈F,H0.size≤x) (hu:Up F H F' H'):Fr [] H0 H'∧∀ x∈F',H0.size≤x :=
 Up.fresh hf hu hF
theorem hold_step (hg:Hold H0 H bp br p){q:Addr}{x:StepV} (hx:StepAt H0 q x) (h:∀ H',Hold H0 H' bp br p→Q (.bool true) H') :
  ∃ n18:Int,cellH H q=some (.int .i64 n18)∧∃ n19:Int,cellH H (q.add 1)=some (.int .i64 n19)∧∃ n20:Int,cellH H (q.add 2)=some (.int .i64 n20)∧∃ s21:ByteArray,cellH H (q.add 3)=some (.string s21)∧∃ s22:ByteArray,cellH H (q.add 4)=some (.string s22)∧∃ a23:Option Addr,∃ l23 c23:Nat,cellH H (q.add 5)=some (.slice a23 l23 c23) ∧
   callS PP n_k24 #[.pointer (some ⟨bp,0,none⟩),.pointer (some ⟨br,0,none⟩),.agg #[.int .i64 n18,.int .i64 n19,.int .i64 n20,.string s21,.string s22,.slice a23 l23 c23]] Q H:=by
 obtain ⟨a,l,c,h1,h2,h3,h4,h5⟩:=hx.fr hg.fr
 obtain ⟨Fp,Fq,s,t,v,hT,hF,hH⟩:=hg.tw
 obtain ⟨a',l',c',g1,_,_,_,g5⟩:=hx
 have e0:cellH H q=some (.int .i64 x.kind):=by have:=h1 0 _ rfl;simpa [Addr.add] using this
 have es:Value.slice a l c=.slice a' l' c':=by
  have q1:=h1 5 _ rfl
  have q2:=cell_keep hg.fr (g1 5 _ rfl)
  rw [q1] at q2
  exact Option.some.inj q2
 cases es
 have out:∀ F,(∀ x∈F,H0.size≤x)→Outs H a l F:=fun F hF=>g5.imp id fun g p hp=>⟨Nat.lt_of_lt_of_le (g p hp) hg.fr.1,fun hm=>by have:=hF _ hm;have:=g p hp;omega⟩
 refine ⟨_,e0,_,h1 1 _ rfl,_,h1 2 _ rfl,_,h1 3 _ rfl,_,h1 4 _ rfl,_,_,_,h1 5 _ rfl,?_⟩
 refine plays_c hT h2 (out Fp fun x hx=>hF x (by simp [hx])) (out Fq fun x hx=>hF x (by simp [hx])) h4 fun H' Fp' Fq' s' t' v' hT' hu=>h H' ?_
 have:=up_all hg.fr hF hu
 exact ⟨⟨Fp',Fq',s',t',v',hT',this.2,hH.up hu⟩,this.1⟩
theorem hold_apart {q:Addr} (hk:g_word_kinds<H0.size) (hg:Hold H0 H bp br (some q)) (h:∀ H',Going H0 H' bp br→Q (.bool true) H'):callS PP n_k30 #[.pointer (some q)] Q H:=by
 obtain ⟨Fp,Fq,s,t,v,hT,hF,hH⟩:=hg.tw
 rcases hH with hH | ⟨xb,hd,Fs,zs,is,h1,h2,h3,h4,h5,h6,h7⟩
 ·cases hH
 cases h1
 refine apart_c h2 h5 h6 h3 h4 fun H' f=>h H' ⟨⟨Fp,Fq,s,t,v,hT.fr f (fun y hy hm=>(h7 y hm).2 (by simp [hy])) (fun y hy hm=>(h7 y hm).2 (by simp [hy])) fun hm=>by have:=(h7 _ hm).1;omega,hF⟩,Nat.le_trans hg.fr.1 f.1,fun b hb hn=>?_⟩
 rw [f.2 b (Nat.lt_of_lt_of_le hb hg.fr.1) fun hm=>by have:=(h7 b hm).1;omega,hg.fr.2 b hb hn]
theorem lists_end (hk:g_word_kinds<H0.size) (hg:Hold H0 H bp br p) (h:∀ H',Fr [] H0 H'→Q (.bool true) H') :
  callS PP n_k29 #[.pointer (some ⟨bp,0,none⟩),.pointer (some ⟨br,0,none⟩)] (fun v52 H16=>∃ p53:Option Addr,v52=.pointer p53∧cond (!(Option.isNone p)) (callS PP n_k30 #[.pointer p] (fun v54 H17=>∃ b55:Bool,v54=.bool b55∧cond (!b55) (Q (.bool false) H17) (callS PP n_k30 #[.pointer p53] (fun v56 H18=>∃ b57:Bool,v56=.bool b57∧cond b57 (callS PP n_k15 #[.pointer (some ⟨bp,0,none⟩),.pointer (some ⟨br,0,none⟩)] (fun v58 H19=>∃ b59:Bool,v58=.bool b59∧cond b59 (callS PP n_k13 #[] (fun v60 H20=>∃ b61:Bool,v60=.bool b61∧Q (.bool b61) H20) H19) (Q (.bool false) H19)) H18) (Q (.bool false) H18)) H17)) H16)
   (callS PP n_k30 #[.pointer p53] (fun v62 H21=>∃ b63:Bool,v62=.bool b63∧cond b63 (callS PP n_k15 #[.pointer (some ⟨bp,0,none⟩),.pointer (some ⟨br,0,none⟩)] (fun v64 H22=>∃ b65:Bool,v64=.bool b65∧cond b65 (callS PP n_k13 #[] (fun v66 H23=>∃ b67:Bool,v66=.bool b67∧Q (.bool b67) H23) H22) (Q (.bool false) H22)) H21) (Q (.bool false) H21)) H16)) H:=by
 have tail:∀ {H1:Heap}{q:Addr},Hold H0 H1 bp br (some q)→callS PP n_k30 #[.pointer (some q)] (fun v62 H21=>∃ b63:Bool,v62=.bool b63∧cond b63 (callS PP n_k15 #[.pointer (some ⟨bp,0,none⟩),.pointer (some ⟨br,0,none⟩)] (fun v64 H22=>∃ b65:Bool,v64=.bool b65∧cond b65 (callS PP n_k13 #[] (fun v66 H23=>∃ b67:Bool,v66=.bool b67∧Q (.bool b67) H23) H22) (Q (.bool false) H22)) H21) (Q (.bool false) H21)) H1 :=
  fun hh=>hold_apart hk hh fun H2 hg2=>⟨_,rfl,going_end hg2 h⟩
 obtain ⟨Fp,Fq,s,t,v,hT,hF,hH⟩:=hg.tw
 have lt:∀ y∈Fp++Fq,y<H.size:=fun y hy=>by
  rcases List.mem_append.1 hy with hy | hy
  ·exact hT.p.lt y hy
  ·exact hT.r.lt y hy
 refine gather_c hT fun H1 xb n m hJ hn hm=>⟨_,rfl,?_⟩
 have f1:=hg.fr.trans hJ.fr
 rcases hH with rfl | ⟨x2,hd,Fs,zs,is,rfl,h2,h3,h4,h5,h6,h7⟩
 ·exact tail ⟨⟨Fp,Fq,s,t,v,hT.nil hJ.fr,hF,HeldOK.of hJ hn hm hg.fr.1 lt⟩,f1⟩
 have hq:HeldOK H0 H1 (Fp++Fq++allF x2 Fs) (some ⟨xb,0,none⟩):=HeldOK.of hJ hn hm hg.fr.1 fun y hy=>by
  rcases List.mem_append.1 hy with hy | hy
  ·exact lt y hy
  ·exact h2.allLt y hy
 simp only [Option.isNone_some,Bool.not_false,cond_true]
 refine apart_c (h2.nil hJ.fr) h5 h6 h3 h4 fun H2 f2=>⟨_,rfl,?_⟩
 simp only [Bool.not_true,cond_false]
 refine tail ⟨⟨Fp,Fq,s,t,v,(hT.nil hJ.fr).fr f2 (fun y hy hm=>(h7 y hm).2 (by simp [hy])) (fun y hy hm=>(h7 y hm).2 (by simp [hy])) fun hm=>by have:=(h7 _ hm).1;omega,hF,?_⟩,Nat.le_trans f1.1 f2.1,fun b hb hn=>?_⟩
 ·rcases hq with hq | ⟨x3,hd3,Fs3,zs3,is3,e3,g2,g3,g4,g5,g6,g7⟩
  ·cases hq
  ·refine .inr ⟨x3,hd3,Fs3,zs3,is3,e3,g2.fr f2 (fun hm=>(g7 _ allF_x).2 (by simp [hm])) (fun k hk y hy hm=>(g7 y (allF_k hk hy)).2 (by simp [hm])),g3,g4,g5,g6,fun y hy=>⟨(g7 y hy).1,fun hm=>(g7 y hy).2 (List.mem_append.2 (.inl hm))⟩⟩
 ·rw [f2.2 b (Nat.lt_of_lt_of_le hb f1.1) fun hm=>by have:=(h7 b hm).1;omega,f1.2 b hb hn]
theorem classLists_c {words oops:Int}{a:Option Addr}{l c:Nat}{xs:List StepV} (hk:Kinds H) (hN:NamesAt H) (hs:StepsAt H a l xs) (hl:l≤10000000000000) (h:∀ H',Fr [] H H'→Q (.bool true) H') :
  callS PP n_k7 #[.int .i64 words,.int .i64 oops,.slice a l c] Q H:=by
 apply k7_ok
 unfold k7 iV wW pV sV lV cS
 have hxl:=hs.1
 have hkl:g_word_kinds<H.size:=cell_lt hk.1
 refine @boots_c H Q words oops hk hN _ (fun e H1 f1=>?_) fun bp br Fp Fq H1 hT f1 hF=>?_
 ·simp only [Option.isNone_none,cond_true]
  exact classBoots_c (hk.fr f1 (by simp)) (hN.fr f1 (by simp)) fun H2 f2=>⟨_,rfl,h _ (f1.trans f2)⟩
 simp only [Option.isNone_some,cond_false]
 refine global_both hT fun H2 Fp2 Fq2 s2 t2 v2 hT2 hu2=>?_
 have a2:=up_all f1 hF hu2
 refine global_both hT2 fun H3 Fp3 Fq3 s3 t3 v3 hT3 hu3=>?_
 have a3:=up_all a2.1 a2.2 hu3
 refine defines_c hT3 fun H4 Fp4 Fq4 s4 t4 v4 hT4 hu4=>⟨_,rfl,?_⟩
 have a4:=up_all a3.1 a3.2 hu4
 simp only [Bool.not_true,cond_false]
 refine ⟨fun w H'=>∃(p:Option Addr) (i:Nat),w=[.pointer p,.int .i64 i]∧i≤l∧Hold H H' bp br p,fun w _=>match w with
  | [_,.int _ i]=>(l-i).toNat
  | _=>0,⟨none,0,rfl,Nat.zero_le _,⟨⟨_,_,_,_,_,hT4,a4.2,.inl rfl⟩,a4.1⟩⟩,?_⟩
 rintro w H5 ⟨p,i,rfl,hi,hg⟩ _
 refine ⟨_,_,rfl,condD (fun hlt=>?_) fun _=>lists_end hkl hg h⟩
 generalize hM:(1099511627776:Int)=M
 refine condD (fun _=>?_) fun _=>lists_end hkl hg h
 have hil:i<xs.length:=by omega
 obtain ⟨q,hq,hst⟩:=hs.2 i xs[i] (List.getElem?_eq_getElem hil)
 have e:IntKind.wrap .i64 ((i:Int)+1)=((i+1:Nat):Int):=by rw [wrap64_id (by omega) (by omega)];omega
 rw [Int.toNat_natCast,e]
 refine condI (fun _=>?_) fun _=>⟨⟨by omega,hlt⟩,_,hq,hold_step hg hst fun H6 hg6=>⟨_,rfl,⟨p,i+1,rfl,by omega,hg6⟩,by simp;omega⟩⟩
 obtain ⟨Fp5,Fq5,s5,t5,v5,hT5,hF5,_⟩:=hg.tw
 refine gather_c hT5 fun H6 xb n m hJ hn hm=>⟨_,rfl,⟨by omega,hlt⟩,_,hq,?_⟩
 have hg6:Hold H H6 bp br (some ⟨xb,0,none⟩):=⟨⟨Fp5,Fq5,s5,t5,v5,hT5.nil hJ.fr,hF5,HeldOK.of hJ hn hm hg.fr.1 fun y hy=>by
  rcases List.mem_append.1 hy with hy | hy
  ·exact hT5.p.lt y hy
  ·exact hT5.r.lt y hy⟩,hg.fr.trans hJ.fr⟩
 exact hold_step hg6 hst fun H7 hg7=>⟨_,rfl,⟨_,i+1,rfl,by omega,hg7⟩,by simp;omega⟩
end
end Go.Proofs.YtmkdkplipbocjaaGreatDoor
