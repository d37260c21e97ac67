/- Lemmas for RPP: functions of the program as predicate transformers, and their contracts. -/
import Derived.Test.YtgjfejoohojokaaGreatDoorZP2
import Derived.Test.YtgjfejoohojokaaGreatDoorProg
import Derived.Shelf.Strconv.Itoa3
import Derived.Shelf.Strings.Repeat
import Derived.Ground.NamesProg
import Derived.Calls
import Derived.Shelf.Strings.Builder1
set_option linter.all false
set_option maxRecDepth 100000
set_option maxHeartbeats 4000000
namespace Go.Proofs.YtgjfejoohojokaaGreatDoor
open Kw
noncomputable instance memDec (s:ByteArray) (l:List ByteArray):Decidable (s∈l):=Classical.propDecidable _
theorem mi {es:List (Key × Value)}{k:Key}:eC es k=none↔k∉es.map (·.1):=by
 induction es with
 | nil=>simp [eC]
 | cons p l ih =>
  unfold eC;by_cases h:k=p.1
  ·simp [h]
  ·rw [a0a h,ih];simp [h]
theorem AP {es:List (Key × Value)} (hnd:(es.map (·.1)).Nodup) (k k':Key):eC (rC es k) k'=if k'=k then none else eC es k':=by
 induction es with
 | nil=>simp [rC,eC]
 | cons p l ih =>
  rw [a2k,a2R] at hnd;unfold rC;by_cases h:k=p.1
  ·rw [a0b h];by_cases h2:k'=k
   ·rw [a0b h2];rw [mi,h2,h];exact hnd.1
   ·rw [a0a h2]
    have:k'≠p.1:=fun e=>h2 (e.trans h.symm)
    conv=>rhs;unfold eC
    rw [a0a this]
  ·rw [a0a h];unfold eC;by_cases h3:k'=p.1
   ·rw [a0b h3,a0b h3,a0a (fun e=>h (e.symm.trans h3))]
   ·rw [a0a h3,a0a h3];exact ih hnd.2
theorem Cr (es:List (Key × Value)) (k:Key):(rC es k).Sublist es:=by
 induction es with
 | nil=>exact a4p _
 | cons p l ih =>
  unfold rC;split
  ·exact List.sublist_cons_self _ _
  ·exact ih.cons_cons _
def pY (H:au) (b:Nat) (F:aS) (t:TB):Prop:=∃ a l c F' m es,F=b :: m :: F'∧b∉F'∧b≠m∧m∉F'∧bI H b #[ac t.most,.slice a l c,.map (some m)]∧bZ 1 H a l c (bC t.texts) F'∧eH H m es ∧
 (∀ p∈es,p.1.of .string)∧(∀ s,eC es (.str s)=(dt t.texts s).map fun n:Nat=>ac n)∧WFT t∧(es.map (·.1)).Nodup
section
variable {H:au}{b:Nat}{F F':aS}{t:TB}{Q:QT}
theorem pY.wf (h:pY H b F t):WFT t:=by obtain ⟨_,_,_,_,_,_,_,_,_,_,_,_,_,_,_,h,_⟩:=h;exact h
theorem pY.lt (h:pY H b F t):∀ x∈F,x<H.size:=by
 obtain ⟨a,l,c,F',m,es,rfl,h1,h2,h3,hB,hO,hM,_⟩:=h;intro x hx;rcases a0E.1 hx with rfl | hx
 ·exact hB.lt
 ·rcases a0E.1 hx with rfl | hx
  ·exact hM.lt
  ·exact hO.lt x hx
theorem pY.fr {H':au}{G:aS} (h:pY H b F t) (hf:Fr G H H') (hd:bU F G):pY H' b F t:=by
 obtain ⟨a,l,c,F',m,es,rfl,h1,h2,h3,hB,hO,hM,h4⟩:=h;exact ⟨a,l,c,F',m,es,rfl,h1,h2,h3,hB.fr hf (hd b (by simp)),hO.fr hf fun x hx=>hd x (by simp [hx]),hM.fr hf (hd m (by simp)),h4⟩
theorem nl (hT:pY H b F t) (h:Q (.bool false) H):ag PP 90 #[QW b] Q H:=by
 obtain ⟨a,l,c,F',m,es,rfl,h1,h2,h3,hB,_⟩:=hT;have w7:aq H ⟨b,2,none⟩=some (.map (some m)):=hB.cell 2;apply NO;dsimp only [aP,ah,nZ,aE,cD];simp only [a0l,a0f];exact ⟨_,rfl,_,w7,h⟩
theorem Hg {n:Int} (gw:¬ (0<=n∧n<=4096)->Q (.tuple #[.pointer none,ac 1]) H) (h:(0<=n∧n<=4096)->∀ b F H',pY H' b F ⟨n,[]⟩->Fr [] H H'->(∀ x∈F,H.size<=x)->Q (.tuple #[QW b,ac 0]) H'):ag PP 70 #[ac n] Q H:=by
 apply ME;dsimp only [aL,ah,bP,aX,ac,av,gS,am,aJ,ax,bJ];simp only [ae];refine cE (fun h1=>gw (by omega)) fun h1=>cE (fun h2=>gw (by omega)) fun h2=>?_;refine h (by omega) _ _ _ ⟨none,0,0,[],H.size,[],rfl,by simp,by simp,by simp,bI.new _ _ _,bZ.nil 1 _,eH.fr (H:=H.push (.map #[] 0)) (G:=[]) (eH.new H) (Fr.push [] _ _) (by simp),by simp,fun s=>by simp [eC,dt],?_,by simp⟩ ((Fr.push [] H _).more) (by simp);exact ⟨by simp;omega,by simp;omega,by simp;omega,by simp,by simp⟩
theorem qM (hT:pY H b F t):∃ a l c m es,aq H ⟨b,0,none⟩=some (ac t.most)∧aq H ⟨b,1,none⟩=some (.slice a l c)∧aq H ⟨b,2,none⟩=some (.map (some m))∧eH H m es∧(∀ p∈es,p.1.of .string)∧(∀ s,eC es (.str s)=(dt t.texts s).map fun n:Nat=>ac n)∧Rd 1 H a l (bC t.texts)∧l=t.texts.length:=by
 obtain ⟨a,l,c,F',m,es,rfl,h1,h2,h3,hB,hO,hM,h4,h5,h6⟩:=hT;exact ⟨a,l,c,m,es,hB.cell 0,hB.cell 1,hB.cell 2,hM,h4,h5,hO.rd,by have:=hO.len;simpa [bC] using this.symm⟩
theorem AW (hT:pY H b F t) (h:Q (ac (t.texts.length:Int)) H):ag PP 34 #[QW b] Q H:=by
 obtain ⟨a,l,c,m,es,Jm,uF,w7,hM,ho,hg,_,hl⟩:=qM hT;apply Mq;dsimp only [bk,ah,aK,ac,aE,am];refine nl hT ⟨_,rfl,?_⟩;simp only [a0f];refine ⟨_,rfl,_,_,_,uF,?_⟩;rw [hl];exact h
theorem wq (hT:pY H b F t){n:Int} (h:Q (pd t n) H):ag PP 337 #[QW b,ac n] Q H:=by
 obtain ⟨a,l,c,m,es,Jm,uF,w7,hM,ho,hg,Sl,hl⟩:=qM hT;apply Iw;dsimp only [bk,ah,aX,aK,cX,bc,ac,bf,aE,am,aO,ax,bJ];unfold pd at h;refine nl hT ⟨_,rfl,?_⟩;simp only [a0f,ae];refine cE (fun h2=>?_) fun h2=>?_
 ·rw [dif_neg (by omega)] at h;exact h
 refine ⟨_,rfl,_,_,_,uF,cE (fun h3=>?_) fun h3=>?_⟩
 ·rw [dif_neg (by omega)] at h;exact h
 ·rw [dif_pos (by omega)] at h;obtain ⟨p,be,rfl,aj⟩:=Sl.str (i:=n) (by omega) (by omega);exact ⟨_,rfl,_,_,_,uF,⟨by omega,by omega⟩,_,rfl,_,by rw [a0y];exact aj,h⟩
theorem tA (hT:pY H b F t){s:ByteArray} (h:∀ H' F',pY H' b F' (t.add s).2->Up F H F' H'->Q (.tuple #[ac (t.add s).1.1,ac (t.add s).1.2]) H'):ag PP 145 #[QW b,.string s] Q H:=by
 have OM:=hT;have Is:=hT.lt;have pe:=iq hT.wf s;have To:fB PP 141=some (.string,some (ac 0)):=by kernel_rfl
 have i7:bd PP 61=some (1,16,some (.string (⟨#[]⟩:ByteArray))):=by kernel_rfl
 obtain ⟨a,l,c,F',m,es,rfl,h1,h2,h3,hB,hO,hM,ho,hg,hw,hnd⟩:=hT;have Jm:aq H ⟨b,0,none⟩=some (ac t.most):=hB.cell 0;have uF:aq H ⟨b,1,none⟩=some (.slice a l c):=hB.cell 1;have w7:aq H ⟨b,2,none⟩=some (.map (some m)):=hB.cell 2;have hl:l=t.texts.length:=by have:=hO.len;simpa [bC] using this.symm
 have CO:=hw.m1;have hlen:=hw.len;apply Em;dsimp only [aL,aA,bk,ah,bP,aX,ay,aK,nZ,ac,av,gS,aE,am,aJ,bM,cS,aO,bj,yi];refine nl OM ⟨_,rfl,?_⟩;simp only [a0f,ae];unfold TB.add at h pe;refine cE (fun g1=>?_) fun g1=>cE (fun g2=>?_) fun g2=>?_
 ·rw [a0b (by unfold dE;omega)] at h;exact h H _ OM (Up.refl _ _)
 ·rw [a0b (by unfold dE;omega)] at h;exact h H _ OM (Up.refl _ _)
 have Z9:¬ ¬ dE s:=by unfold dE;omega
 rw [a0a Z9] at h pe;refine ⟨_,rfl,_,w7,?_⟩;refine mL (k:=.str s) To trivial ho hM ?_;rw [hg s];cases hn:dt t.texts s with
 | some n =>
  rw [hn] at h;refine ⟨_,_,rfl,?_⟩;exact h H _ OM (Up.refl _ _)
 | none =>
  rw [hn] at h pe;simp only at h pe;refine ⟨_,_,rfl,?_⟩;simp only [a30,a3m,a0f];refine ⟨_,rfl,_,_,_,uF,_,rfl,_,Jm,cE (fun g3=>?_) fun g3=>?_⟩
  ·rw [a0b (by omega)] at h;exact h H _ OM (Up.refl _ _)
  ·rw [a0a (by omega)] at h pe;refine ⟨_,rfl,_,_,_,uF,?_⟩;refine bK i7 rfl (by kernel_rfl) hO rfl (by simp [dJ]) (by omega) (by decide) (by decide) fun a' c' F3 H2 k1 k2 k3=>⟨_,_,_,rfl,?_⟩;have Jh:b∉F3:=fun hx=>by
    rcases k2.2 b hx with h4 | h4
    ·exact h1 h4
    ·have:=Is b (by simp);omega
   have WQ:m∉F3:=fun hx=>by
    rcases k2.2 m hx with h4 | h4
    ·exact h3 h4
    ·have:=Is m (by simp);omega
   have Da:=hB.fr k2.1 h1;have RG:=Da.set 1 (.slice a' (l+1) c');have hMs:=(hM.fr k2.1 h3).of_eq (H':=aQ H2 ⟨b,1,none⟩ (.slice a' (l+1) c')) (cP (a3t h2));refine ⟨_,rfl,Da.wr (by simp),_,rfl,_,RG.cell 2,?_⟩;refine jF (k:=.str s) To trivial ho hMs fun H4 Rq uH=>?_;rw [hl];have I7:Fr [b] H2 (aQ H2 ⟨b,1,none⟩ (.slice a' (l+1) c')):=Fr.set (by simp);refine h H4 (b :: m :: F3) ⟨a',l+1,c',F3,m,_,rfl,Jh,h2,WQ,RG.fr uH (by simpa using h2),?_,Rq,?_,fun x=>?_,pe,?_⟩ ⟨?_,fun x hx=>?_⟩
   ·have h5:=(k1.fr I7 (fun x hx hn=>Jh (by simp only [a0A] at hn;rw [←hn];exact hx))).fr uH (fun x hx hn=>WQ (by simp only [a0A] at hn;rw [←hn];exact hx));simp only;rw [dB];exact h5
   ·intro p hp
    have:∀ (es:List (Key × Value)),(∀ p∈es,p.1.of .string)->∀ p∈oR es (.str s) (ac (t.texts.length:Int)),p.1.of .string:=by
     intro es
     induction es with
     | nil=>intro _ p hp;simp [oR] at hp;subst hp;trivial
     | cons q es ih =>
      intro hes p hp;unfold oR at hp;split at hp
      ·rcases a0E.1 hp with rfl | hp
       ·trivial
       ·exact hes p (by simp [hp])
      ·rcases a0E.1 hp with rfl | hp
       ·exact hes _ (by simp)
       ·exact ih (fun p hp=>hes p (by simp [hp])) p hp
    rw [hl] at hp;exact this es ho p hp
   ·rw [zH,hg x,tP];by_cases hx:x=s
    ·subst hx;rw [hn];simp [hl]
    ·rw [a0a (by simpa using hx)];cases dt t.texts x with
     | some n=>rfl
     | none=>simp only;rw [a0a (fun e:s=x=>hx e.symm)]
   ·have hgn:eC es (.str s)=none:=by rw [hg s,hn];rfl
    rw [lN (gj.2 hgn),a2m,a23];refine ⟨hnd,by simp,fun x hx y hy hxy=>?_⟩;simp only [a2k,a26,a0A] at hy;subst hy;subst hxy;exact (mi.1 hgn) hx
   ·exact ((k2.1.mono fun x hx=>by simp [hx]).step (by simp)).trans (uH.mono fun x hx=>by simp only [a0A] at hx;simp [hx])
   ·rcases a0E.1 hx with rfl | hx
    ·exact .inl (by simp)
    ·rcases a0E.1 hx with rfl | hx
     ·exact .inl (by simp)
     ·exact (k2.2 x hx).imp (fun h4=>by simp [h4]) id
theorem CW {a:Option Addr}{l c:Nat}{ws:List ByteArray} (hk:Rd 1 H a l (bC ws)) (I6:l<=1000000000) (h:∀ a' c' F H',bZ 1 H' a' l c' (bC ws) F->Fr [] H H'->(∀ x∈F,H.size<=x)->Q (.slice a' l c') H'):ag PP 125 #[.slice a l c] Q H:=by
 have i7:bd PP 61=some (1,16,some (.string (⟨#[]⟩:ByteArray))):=by kernel_rfl
 apply Gr;dsimp only [aL,ah,av,cD,aJ,bM];cases a with
 | none =>
  have h0:=hk.2.1 rfl;subst h0
  have:ws=[]:=a1o (by have:=hk.1;simpa [bC] using this);subst this;exact h none 0 [] H (bZ.nil 1 H) (Fr.refl _ _) (by simp)
 | some p =>
  simp only [a0l,a0f];have fb:bZ 1 (H.push (.cells #[] 9)) (some ⟨H.size,0,none⟩) 0 0 (bC []) [H.size]:=⟨by simp [bC],a0U _,.inr ⟨H.size,_,rfl,rfl,bI.new _ _ _,by simp,by simp [bC]⟩⟩;refine dz i7 rfl (by kernel_rfl) fb (hk.fr' (Fr.push [] _ _) (by simp)) sD (by omega) (by decide) (by decide) fun a' c' F' H' g1 g2 g3=>⟨_,_,_,rfl,?_⟩;have o3:=Up.fresh (H:=H) (Fr.push [] H _) g2 (by simp)
  have:=h a' c' F' H' (by simpa [bC] using g1) o3.1 o3.2;simpa using this
theorem Eh (hT:pY H b F t) (h:∀ a l c G H',bZ 1 H' a l c (bC t.texts) G->Fr [] H H'->(∀ x∈G,H.size<=x)->Q (.slice a l c) H'):ag PP 66 #[QW b] Q H:=by
 have hw:=hT.wf;obtain ⟨a,l,c,m,es,Jm,uF,w7,hM,ho,hg,Sl,hl⟩:=qM hT;have CO:=hw.m1;have hlen:=hw.len;apply Pb;dsimp only [bk,cq,ah,aK,av,aE,am];refine nl hT ⟨_,rfl,?_⟩;simp only [a0f];refine ⟨_,rfl,_,_,_,by rw [aB];exact uF,?_⟩;exact CW Sl (by omega) fun a' c' G H' h1 h2 h3=>⟨_,_,_,rfl,h _ _ _ G H' h1 h2 h3⟩
theorem xl {l:List ByteArray} (hnd:l.Nodup) (n:Nat) (s:ByteArray):dt (l.take n) s=if s∈l.drop n then none else dt l s:=by
 induction l generalizing n with
 | nil=>simp [dt]
 | cons x l ih =>
  rw [a2R] at hnd;cases n with
  | zero =>
   simp only [List.take_zero,List.drop_zero,dt];by_cases h:s∈x :: l
   ·rw [a0b h]
   ·rw [a0a h];have h1:x≠s:=fun e=>h (by simp [e]);have h2:dt l s=none:=ku.2 fun hm=>h (by simp [hm]);rw [a0a h1,h2];rfl
  | succ n =>
   simp only [List.take_succ_cons,List.drop_succ_cons,dt];by_cases h1:x=s
   ·subst h1
    have:x∉l.drop n:=fun hm=>hnd.1 (List.mem_of_mem_drop hm);simp [this]
   ·rw [a0a h1,a0a h1,ih hnd.2];split <;> rfl
theorem B4 (hT:pY H b F t){n:Int} (h:∀ H',pY H' b F (TB.back t n).2->Fr F H H'->Q (ac (TB.back t n).1) H'):ag PP 163 #[QW b,ac n] Q H:=by
 have OM:=hT;have Is:=hT.lt;have To:fB PP 141=some (.string,some (ac 0)):=by kernel_rfl
 obtain ⟨a,l,c,F',m,es,rfl,h1,h2,h3,hB,hO,hM,ho,hg,hw,hnd⟩:=hT;have uF:aq H ⟨b,1,none⟩=some (.slice a l c):=hB.cell 1;have hl:l=t.texts.length:=by have:=hO.len;simpa [bC] using this.symm
 have CO:=hw.m1;have hlen:=hw.len;have hlc:=hO.2.1;apply Iz;dsimp only [pz,bk,ah,bP,aX,aK,nZ,cX,bc,ac,bf,bX,av,bm,gS,aE,am,aO,bj,aI];unfold TB.back at h;refine nl OM ⟨_,rfl,?_⟩;simp only [a0f,ae];refine aD (fun g1=>?_) fun g1=>?_
 ·rw [a0b (.inl g1)] at h;exact h H OM (Fr.refl _ _)
 refine ⟨_,rfl,_,_,_,by rw [aB];exact uF,aD (fun g2=>?_) fun g2=>?_⟩
 ·rw [a0b (by omega)] at h;exact h H OM (Fr.refl _ _)
 rw [a0a (by omega)] at h;have e1:IntKind.wrap .i64 ((l:Int)-n)=(l:Int)-n:=ao (by omega) (by omega);refine ⟨_,rfl,_,_,_,by rw [aB];exact uF,?_⟩;rw [e1];refine ⟨fun w H'=>∃(i:Nat) (es':List (Key × Value)),w=[ac i]∧(i:Int)<=(l:Int)-n∧Fr [m] H H'∧eH H' m es'∧es'.Sublist es∧∀ s,eC es' (.str s)=if s∈(t.texts.drop n.toNat).take i then none else eC es (.str s),fun w _=>match w with
  | [.int _ i]=>((l:Int)-n-i).toNat
  | _=>0,⟨0,es,rfl,by omega,Fr.refl _ _,hM,a4p _,by simp⟩,?_⟩
 rintro w H1 ⟨i,es',rfl,hi,hf,Vg,ff,UV⟩ _;have u7:=hB.fr hf (by simpa using h2);have Vh:=hO.fr hf (fun x hx hm=>h3 (by simp only [a0A] at hm;rw [←hm];exact hx));refine ⟨_,rfl,aD (fun g3=>?_) fun g3=>?_⟩
 ·have e2:IntKind.wrap .i64 (n+(i:Int))=n+i:=ao (by omega) (by omega);have e3:IntKind.wrap .i64 ((i:Int)+1)=((i+1:Nat):Int):=by rw [ao (by omega) (by omega)];omega
  rw [e2,e3];obtain ⟨p,be,rfl,aj⟩:=Vh.rd.str (i:=n+(i:Int)) (by omega) (by omega);refine ⟨_,rfl,_,by rw [aB];exact u7.cell 2,_,rfl,_,_,_,by rw [aB];exact u7.cell 1,⟨by omega,by omega⟩,_,rfl,_,by rw [a0y];exact aj,?_⟩;have Vi:(es'.map (·.1)).Nodup:=hnd.sublist (ff.map _);refine ye (k:=.str t.texts[(n+(i:Int)).toNat]) To trivial (fun p hp=>ho p (ff.subset hp)) Vg fun H2 Ow fa=>⟨trivial,⟨i+1,_,rfl,by omega,hf.trans fa,Ow,(Cr _ _).trans ff,fun s=>?_⟩,by simp;omega⟩;have Uc:i<(t.texts.drop n.toNat).length:=by rw [a3U];omega
  have lj:(t.texts.drop n.toNat).take (i+1)=(t.texts.drop n.toNat).take i++[t.texts[(n+(i:Int)).toNat]]:=by
   rw [a3T Uc,List.getElem_drop]
   congr 3;omega
  rw [AP Vi,UV,lj];by_cases hs:s=t.texts[(n+(i:Int)).toNat]
  ·rw [a0b (by rw [hs]),a0b (by rw [hs];simp)]
  ·rw [a0a (by simpa using hs)];simp only [a0T,a0A,hs,a2h]
 ·have Jk:(i:Int)=(l:Int)-n:=by omega
  have lj:(t.texts.drop n.toNat).take i=t.texts.drop n.toNat:=a0Y (by rw [a3U];omega);rw [lj] at UV;refine ⟨_,rfl,_,_,_,by rw [aB];exact u7.cell 1,⟨by omega,by omega⟩,_,rfl,by rw [aB];exact u7.wr (by simp),?_⟩;rw [aB];have I7:Fr [b] H1 (aQ H1 ⟨b,1,none⟩ (.slice a n.toNat c)):=Fr.set (by simp);refine h _ ⟨a,n.toNat,c,F',m,es',rfl,h1,h2,h3,u7.set 1 _,?_,Vg.fr I7 (by simpa using a3t h2),fun p hp=>ho p (ff.subset hp),fun s=>?_,?_,hnd.sublist (ff.map _)⟩ ((hf.mono fun x hx=>by simp only [a0A] at hx;simp [hx]).trans (I7.mono fun x hx=>by simp only [a0A] at hx;simp [hx]))
  ·have h4:=Vh.fr I7 (fun x hx hm=>h1 (by simp only [a0A] at hm;rw [←hm];exact hx));refine ⟨by simp [bC];omega,by omega,?_⟩;rcases h4.2.2 with ⟨h6,h7,h8⟩ | ⟨b',cs,h6,h7,h8,h9,qz⟩
   ·exact .inl ⟨h6,h7,h8⟩
   ·refine .inr ⟨b',cs,h6,h7,h8,h9,?_⟩;have I3:(cs.toList.take (l*1)).take (n.toNat*1)=(bC t.texts).take (n.toNat*1):=by rw [qz]
    rw [a4f] at I3;have Jb:min (n.toNat*1) (l*1)=n.toNat*1:=by omega
    rw [Jb] at I3;rw [I3];simp [bC,List.map_take]
  ·rw [UV s,xl hw.nodup,hg s];split <;> rfl
  ·exact { hw with len:=by simp;omega,nodup:=hw.nodup.sublist (a4q _ _),good:=fun s hs=>hw.good s (a2W hs) }
end
section
variable {Q:QT}{H:au}
variable {a b c d A B D P:Option Addr}{i j k m n x y z I J K M N:Int}{l o r s u v L O R S U V:Nat}{t w T W:ByteArray}{e E g:Bool}{q:Option Nat}{p X Y Z:Value}{F G:Addr}
theorem PU (h:ah (cD a) (Q (am none) H) (aE a fun a=>aF H a fun a=>Q (am a) H)):ag PP 7 #[.pointer a] Q H :=
 okF Tryz.func7 rfl h
theorem MN (h:fN 69 #[ac i,ac j] H fun a b c=>ax (am none) fun d=>ah (b != 0) (Q (bJ #[d,ac b]) c) (fN 70 #[ac 4096] c fun b c e=>ah (c != 0) (Q (bJ #[d,ac c]) e) (ax (ac 0) fun c=>ax (am a) fun a=>ax (aJ e #[a,am b] 65) fun b=>cq 71 #[] (aJ b #[ac 5,c,ac 6,c,ac 7,c] 120) fun _ f _ g=>cL [av (some (aL b.size)) 3 3,c] g fun b g i j k l m n=>ax (some (aL j.size)) fun o=>ah (aX n (f:Int)) (bM (Builtin.append_ #[121,121] 121 #[av k l m,av o 1 1]) (aJ j #[ac 12,ac 7] 120) fun a c d e=>bm b g [av a c d,ac (aI (n+1))] e i j) (bM (Builtin.append_ #[121,121] 121 #[av k l m,av o 3 3]) (aJ j #[ac 11,c,ac 11,ac 8,ac 11,ac 14] 120) fun b f _ g=>bX [c] g fun g i j k l=>ah (aX l (f:Int)) (bf l f b fun b=>ay k (bc b l 2) fun e=>ay k ((bc b l 2).add 1) fun b=>ax (aL k.size) fun f=>bj (aJ k #[c,c] 120) f (ac e) fun e=>ax (aN k.size 1) fun m=>bj e m (ac b) fun b=>ay b f fun e=>ay b m fun n=>du 44 #[a] b fun b o=>((aq o m=some (ac n)∧True)∧(aq o f=some (ac e)∧True)∧True)∧aC 73 #[ac e] o fun e f=>((aq f m=some (ac n)∧True)∧True)∧ak 72 #[am b,ac e,ac n,c] f fun b c e=>True∧ah (c != 0) (Q (bJ #[d,ac c]) e) (aC 73 #[ac b] e fun b c=>aC 74 #[a,av (some (aL c.size)) 1 1] (aJ c #[ac b] 26) fun a b=>ah (a != 0) (Q (bJ #[d,ac a]) b) (bm g i [ac (aI (l+1))] b j k))) (ax (am (some (aL e.size))) fun b=>fe 75 #[b] k fun d=>aC 76 #[a,ac 19] d fun _ d=>aC 8 #[a,ac (f:Int)] d fun _ a=>Q (bJ #[b,c]) a))))):ag PP 23 #[ac i,ac j] Q H :=
 okL Tryz.func23 rfl (fun | 10=>some [(10,121),(41,3)] | 15=>some [(56,3)] | _=>none) h
theorem NL (h:bk 77 #[am a] H fun c d=>ah (!c) (Q (aA 0 2) d) (ak 78 #[am a,aO t,aO w,av b l o] d fun c d e=>ah (d != 0) (Q (aA 0 d) e) (du 79 #[am a] e fun a d=>ak 80 #[am a,aO t,ac c,av b l o] d fun b c d=>aC 81 #[am a,ac c] d fun a c=>ah (a != 0) (Q (aA 0 a) c) (Q (aA b 0) c)))):ag PP 25 #[.pointer a,.string t,.string w,.slice b l o] Q H :=
 okF Tryz.func25 rfl h
theorem Bu (h:ah (cD a) (Q (am none) H) (aE a fun a=>aF H (a.add 1) fun a=>Q (am a) H)):ag PP 33 #[.pointer a] Q H :=
 okF Tryz.func33 rfl h
theorem MW (h:aE a fun b=>aF H b fun b=>du 44 #[am b] H fun b c=>cq 71 #[] c fun c d _ e=>bX [ac 0] e fun e f g i j=>ax (ac 18) fun k=>ah (aX j (d:Int)) (bf j d c fun c=>cX i (bc c j 1) fun c=>aE a fun a=>aF i (a.add 1) fun a=>ak 145 #[am a,aO c] i fun a _ c=>ak 146 #[ac a] c fun a _ c=>aC 73 #[ac 4] c fun c d=>C7 (fun a=>ah (j == 0) (aC 73 #[ac 1] d fun b c=>a [ac b] c) (a [ac c] d)) fun c d=>aC 73 #[k] d fun d l=>aC 73 #[k] l fun l m=>aC 73 #[k] m fun k m=>aC 147 #[ac 0] m fun m n=>ax (ac (aI (j+1))) fun o=>aC 147 #[o] n fun n p=>bX [ac 0] (aJ p #[ac a,ac c,ac d,ac l,ac k,ac m,ac n] 26) fun a c d k l=>ax (ac (aI (4+j))) fun m=>ah (aX l 7) (bf l 7 (some (aL p.size)) fun e=>ay k (bc e l 1) fun e=>aC 148 #[am b,m,ac l,ac e] k fun _ b=>bm a c [ac (aI (l+1))] b d k) (aC 73 #[m] k fun a c=>aC 148 #[am b,ac 20,ac j,ac a] c fun _ a=>bm e f [o] a g i)) (bX [ac 0] (aJ i #[ac 20,k,k,k,ac 1,ac 2,ac 3] 3) fun a c d e f=>ah (aX f 7) (bf f 7 (some (aL i.size)) fun g=>ay e (bc g f 1) fun g=>aC 73 #[ac g] e fun g i=>aC 148 #[am b,ac 19,ac f,ac g] i fun _ b=>bm a c [ac (aI (f+1))] b d e) (Q (bJ #[]) e))):ag PP 75 #[.pointer a] Q H :=
 okL Tryz.func75 rfl (fun | 2=>some [(21,3)] | 1009=>some [(9,26)] | 10=>some [(55,3)] | 17=>some [(76,3)] | _=>none) h
theorem M0 (h:ah (!(cD a)) (aE a fun a=>aF H a fun a=>Q (aP (!(cD a))) H) (Q (aP false) H)):ag PP 77 #[.pointer a] Q H :=
 okF Tryz.func77 rfl h
theorem N6 (h:bk 149 #[aO t,.int .u8 65,.int .u8 90] H fun c d=>ah (!c) (Q (aA 0 133) d) (ax (am a) fun a=>bk 150 #[a,aO t] d fun c d=>ah c (Q (aA 0 131) d) (ak 151 #[a,aO w] d fun c d e=>ah (d != 0) (Q (aA 0 d) e) (ax (aL e.size) fun d=>bj (aJ e #[am none] 203) d a fun e=>mS (fun a=>aF e d fun b=>aC 152 #[aZ #[am b],ac c,ac 6] e fun b c=>ah (bP b 1) (ah (decide (b<=14)) (Q (aA 0 132) c) (a [] c)) (a [] c)) fun e=>aF e d fun d=>cq 153 #[aZ #[am d],ac c] e fun d e f g=>bX [ac 0] g fun g i j k m=>ah (aX m (l:Int)) (bf m l b fun a=>cX k (bc a m 1) fun a=>bk 154 #[aO a] k fun c l=>ah (!c) (Q (aA 0 133) l) (((0:Int)<=m∧m<=(o:Int))∧bk 155 #[av b (Int.toNat m) o,aO a] l fun b c=>ah b (Q (aA 0 134) c) (bk 155 #[av d e f,aO a] c fun a b=>ah a (Q (aA 0 135) b) (bm g i [ac (aI (m+1))] b j k)))) (ah (bP (aI ((e:Int)+(l:Int))) 32) (Q (aA 0 137) k) (aC 156 #[a] k fun a b=>ah (decide (a≥256)) (Q (aA 0 138) b) (Q (aA c 0) b))))))):ag PP 78 #[.pointer a,.string t,.string w,.slice b l o] Q H :=
 okL Tryz.func78 rfl (fun | 1012=>some [] | 14=>some [(48,3)] | _=>none) h
theorem Mv (h:aE a fun b=>aF H (b.add 1) fun b=>aE a fun c=>aF H c fun d=>aE a fun e=>aF H e fun f=>aC 34 #[am b] H fun b g=>ax (some (am f)) fun i=>((aq g e=i∧True)∧(aq g c=some (am d)∧True)∧True)∧du 44 #[am d] g fun c d=>((aq d e=i∧True)∧True)∧aC 60 #[am c] d fun c d=>((aq d e=i∧True)∧True)∧cq 63 #[am f] d fun _ d _ e=>True∧True∧Q (am (some (aL e.size))) (aJ e #[am a,ac b,ac c,ac (d:Int)] 207)):ag PP 79 #[.pointer a] Q H :=
 okF Tryz.func79 rfl h
theorem MB (h:ax (am a) fun c=>ak 157 #[c,aO t] H fun d e f=>ah (e != 0) (Q (aA 0 e) f) (ax (ac 0) fun e=>cL [av none 0 0,e] f fun f g j k m n o p=>ah (aX p (l:Int)) (bf p l b fun a=>cX k (bc a p 1) fun a=>ak 157 #[c,aO a] k fun a b c=>ah (b != 0) (Q (aA 0 b) c) (bM (Builtin.append_ #[30,30] 30 #[av m n o,av (some (aL c.size)) 1 1]) (aJ c #[ac a] 26) fun a b c d=>bm f g [av a b c,ac (aI (p+1))] d j k)) (ak 158 #[c,av m n o] k fun b f g=>ah (f != 0) (Q (aA 0 f) g) (aE a fun f=>aF g f fun f=>aC 156 #[am f] g fun f g=>aC 73 #[ac 18] g fun g j=>aC 73 #[ac i] j fun i j=>aC 147 #[e] j fun j k=>aC 147 #[ac (aI (f+1))] k fun f k=>ak 159 #[c,ac 12,av (some (aL k.size)) 7 7] (aJ k #[ac d,ac i,ac b,ac g,ac g,ac j,ac f] 26) fun b d f=>ah (d != 0) (Q (aA 0 d) f) (ax (ac b) fun b=>Lv (fun d=>aE a fun g=>aF f g fun i=>aE a fun a=>aF f a fun j=>ax (some (am i)) fun k=>ax (aZ #[am i]) fun i=>aC 161 #[aZ #[am j],e] f (fun a e=>((aq e g=k∧True)∧True)∧cq 160 #[i,ac a] e (fun a e f g=>True∧True∧bM (Builtin.append_ #[30,30] 30 #[av a e f,av (some (aL g.size)) 1 1]) (aJ g #[b] 26) fun a b e f=>True∧ak 158 #[c,av a b e] f fun a b c=>True∧d [ac b,ac a] c)∧ax (aJ e #[b] 26) fun b=>((aq b g=k∧True)∧True)∧cq 160 #[i,ac a] b fun a b f g=>True∧bM (Builtin.append_ #[30,30] 30 #[av a b f,av (some (aL e.size)) 1 1]) g fun a b e f=>True∧ak 158 #[c,av a b e] f fun a b c=>True∧d [ac b,ac a] c)∧ax (aJ f #[b] 26) fun b=>((aq b a=some (am j)∧True)∧(aq b g=k∧True)∧True)∧aC 161 #[aZ #[am j],e] b fun a b=>((aq b g=k∧True)∧True)∧cq 160 #[i,ac a] b fun a b e g=>True∧bM (Builtin.append_ #[30,30] 30 #[av a b e,av (some (aL f.size)) 1 1]) g fun a b e f=>True∧ak 158 #[c,av a b e] f fun a b c=>True∧d [ac b,ac a] c) fun c d f=>ah (c != 0) (Q (aA 0 c) f) (aE a fun a=>aF f a fun a=>aE a fun a=>aF f a fun a=>aC 162 #[am a,e,ac d] f fun _ a=>ak 89 #[b] a fun a b c=>Q (aA a b) c)))))):ag PP 80 #[.pointer a,.string t,ac i,.slice b l o] Q H :=
 okL Tryz.func80 rfl (fun | 6=>some [(12,30),(33,3)] | 1022=>some [(11,33),(21,26)] | _=>none) h
theorem Nn (h:aE a fun b=>aF H b fun b=>aE b fun b=>aF H b fun b=>aE a fun c=>ay H (c.add 3) fun d=>cq 63 #[am b] H fun _ e _ f=>((aq f (c.add 3)=some (ac d)∧True)∧True)∧aC 8 #[am b,ac (aI ((e:Int)-d))] f fun _ c=>True∧ah (i == 0) (Q (ac i) c) (aE a fun d=>aF c d fun d=>aE d fun d=>aF c (d.add 1) fun d=>aE a fun e=>ay c (e.add 1) fun e=>aC 163 #[am d,ac e] c fun _ c=>True∧ah (i != 24) (aE a fun a=>ay c (a.add 2) fun d=>du 44 #[am b] c fun b c=>((aq c (a.add 2)=some (ac d)∧True)∧True)∧aC 45 #[am b,ac d] c fun _ a=>True∧Q (ac i) a) (Q (ac i) c))):ag PP 81 #[.pointer a,ac i] Q H :=
 okF Tryz.func81 rfl h
theorem DB (h:ak 151 #[am a,aO t] H fun _ b c=>ah (b == 0) (Q (aP true) c) (cq 270 #[am a] c fun a b c d=>bk 155 #[av a b c,aO t] d fun a b=>Q (aP a) b)):ag PP 150 #[.pointer a,.string t] Q H :=
 okF Tryz.func150 rfl h
theorem FP (h:bk 77 #[am a] H fun b c=>ah (!b) (Q (aA 0 2) c) (ax (aL c.size) fun b=>bj (aJ c #[am none] 203) b (am a) fun a=>aF a b fun c=>aC 161 #[aZ #[am c],ac 0] a fun a c=>aF c b fun d=>aC 271 #[aZ #[am d],ac a] c fun c d=>bX [ac 0] d fun d e f g i=>ah (aX i c) (aF g b fun c=>aC 272 #[aZ #[am c],ac a,ac i] g fun a c=>aF c b fun b=>eI 273 #[aZ #[am b],ac a,ac 0] c fun b c=>ah (bO b t) (Q (aA a 0) c) (bm d e [ac (aI (i+1))] c f g)) (Q (aA 0 130) g))):ag PP 151 #[.pointer a,.string t] Q H :=
 okL Tryz.func151 rfl (fun | 6=>some [(20,3)] | _=>none) h
theorem Gq (h:ax (aJ H #[am a] 203) fun a=>aF a (aL H.size) fun b=>aC 275 #[aZ #[am b],ac i,ac j] a fun a b=>ak 274 #[ac a] b fun a _ b=>Q (ac a) b):ag PP 152 #[.agg #[.pointer a],ac i,ac j] Q H :=
 okF Tryz.func152 rfl h
theorem zk (h:ax (aJ H #[am a] 203) fun a=>ah (i == 0) (Q (av none 0 0) a) (ax (aL H.size) fun b=>aF a b fun c=>aF a b fun d=>aF a b fun e=>aF a b fun f=>aC 276 #[aZ #[am d],ac i] a fun a d=>ax (some (am e)) fun g=>ax (aq d b) (fun a=>(a=some (am f)∧True)∧(a=g∧True)∧(a=some (am c)∧True)∧True)∧cq 153 #[aZ #[am c],ac a] d fun a c d j=>ax (aq j b) (fun a=>(a=some (am f)∧True)∧(a=g∧True)∧True)∧aC 272 #[aZ #[am f],ac i,ac 2] j fun f i=>((aq i b=g∧True)∧True)∧cq 277 #[aZ #[am e],ac f] i fun b e f g=>True∧bM (Builtin.append_ #[61,61] 61 #[av a c d,av b e f]) g fun a b c d=>True∧Q (av a b c) d)):ag PP 153 #[.agg #[.pointer a],ac i] Q H :=
 okF Tryz.func153 rfl h
theorem El (h:bk 77 #[am a] H fun b c=>ah (!b) (Q (ac 0) c) (ax (aL c.size) fun b=>bj (aJ c #[am none] 203) b (am a) fun a=>aF a b fun c=>aF a b fun d=>aC 161 #[aZ #[am d],ac 0] a fun a d=>((aq d b=some (am c)∧True)∧True)∧aC 271 #[aZ #[am c],ac a] d fun a b=>True∧Q (ac a) b)):ag PP 156 #[.pointer a] Q H :=
 okF Tryz.func156 rfl h
theorem GW (h:aE a fun a=>aF H a fun a=>aE a fun a=>aF H (a.add 1) fun a=>ak 145 #[am a,aO t] H fun a b c=>ah (b != 0) (Q (aA 0 b) c) (ak 146 #[ac a] c fun a b c=>Q (aA a b) c)):ag PP 157 #[.pointer a,.string t] Q H :=
 okF Tryz.func157 rfl h
theorem Hq (h:ah ((l:Int) == 0) (aC 73 #[ac 18] H fun a b=>Q (aA a 0) b) (ak 159 #[am a,ac 11,av b l o] H fun a b c=>Q (aA a b) c)):ag PP 158 #[.pointer a,.slice b l o] Q H :=
 okF Tryz.func158 rfl h
theorem K7 (h:aE a fun c=>aF H c fun d=>aE d fun e=>aF H e fun f=>aC 73 #[ac i] H fun g i=>((aq i e=some (am f)∧True)∧(aq i c=some (am d)∧True)∧True)∧ak 279 #[am f,ac g,ac (l:Int),ac 0] i fun c d e=>True∧ah (d != 0) (Q (aA 0 d) e) (ak 89 #[ac c] e fun d _ e=>bX [ac 0] e fun e f g i j=>ah (aX j (l:Int)) (bf j l b fun b=>ay i (bc b j 1) fun b=>aE a fun a=>aF i a fun a=>aE a fun a=>aF i a fun a=>du 44 #[am a] i fun a c=>aC 148 #[am a,ac d,ac j,ac b] c fun _ a=>bm e f [ac (aI (j+1))] a g i) (aE a fun a=>aF i a fun a=>aE a fun a=>aF i a fun a=>aC 74 #[am a,av (some (aL i.size)) 1 1] (aJ i #[ac c] 26) fun a b=>Q (aA c a) b))):ag PP 159 #[.pointer a,ac i,.slice b l o] Q H :=
 okL Tryz.func159 rfl (fun | 6=>some [(40,3)] | _=>none) h
theorem ES (h:ax (aJ H #[am a] 203) fun a=>aF a (aL H.size) fun b=>aC 271 #[aZ #[am b],ac i] a fun a b=>cL [av none 0 0,ac 0] b fun b c d e f g j k=>ah (aX k a) (aF e (aL H.size) fun a=>aC 275 #[aZ #[am a],ac i,ac k] e fun a i=>bM (Builtin.append_ #[30,30] 30 #[av f g j,av (some (aL i.size)) 1 1]) (aJ i #[ac a] 26) fun a f g i=>bm b c [av a f g,ac (aI (k+1))] i d e) (Q (av f g j) e)):ag PP 160 #[.agg #[.pointer a],ac i] Q H :=
 okL Tryz.func160 rfl (fun | 3=>some [(5,30),(10,3)] | _=>none) h
theorem Ic (h:ax (aJ H #[am a] 203) fun a=>aF a (aL H.size) fun b=>aC 272 #[aZ #[am b],ac 19,ac i] a fun a b=>Q (ac a) b):ag PP 161 #[.agg #[.pointer a],ac i] Q H :=
 okF Tryz.func161 rfl h
theorem Ix (h:bk 77 #[am a] H fun b c=>ah (!b) (Q (aA 0 2) c) (aC 13 #[ac i] c fun b c=>ah (b == 1) (Q (aA 8 0) c) (ah (b == 2) (Q (aA 9 0) c) (ah (b == 3) (ak 89 #[ac i] c fun b _ c=>aE a fun a=>aF c a fun a=>du 44 #[am a] c fun a c=>ak 54 #[am a,ac b] c fun a b c=>ah (b != 0) (Q (aA 0 b) c) (ak 89 #[ac a] c fun a b c=>Q (aA a b) c)) (Q (aA 0 10) c))))):ag PP 220 #[.pointer a,ac i] Q H :=
 okF Tryz.func220 rfl h
theorem Dr (h:iZ 311 #[am a,ac i] H fun a b c=>bj (aJ c #[am none] 203) (aL c.size) (am a) fun a=>ah (b != 0) (Q (aA 0 b) a) (aF a (aL c.size) fun b=>aC 276 #[aZ #[am b],ac i] a fun a b=>Q (aA a 0) b)):ag PP 221 #[.pointer a,ac i] Q H :=
 okF Tryz.func221 rfl h
theorem FF (h:bk 77 #[am a] H fun b c=>ah (!b) (Q (av none 0 0) c) (ax (aL c.size) fun b=>bj (aJ c #[am none] 203) b (am a) fun a=>aF a b fun c=>aC 161 #[aZ #[am c],ac 1] a fun a c=>aF c b fun d=>aC 271 #[aZ #[am d],ac a] c fun c d=>cL [av none 0 0,ac 0] d fun d e f g i j k l=>ah (aX l (aI (Int.tdiv c 2))) (aF g b fun b=>eI 273 #[aZ #[am b],ac a,ac (aI (2*l))] g fun a b=>bM (Builtin.append_ #[61,61] 61 #[av i j k,av (some (aL b.size)) 1 1]) (aJ b #[aO a] 9) fun a b c i=>bm d e [av a b c,ac (aI (l+1))] i f g) (Q (av i j k) g))):ag PP 270 #[.pointer a] Q H :=
 okL Tryz.func270 rfl (fun | 7=>some [(5,61),(18,3)] | _=>none) h
theorem FV (h:ax (aJ H #[am a] 203) fun a=>aF a (aL H.size) fun b=>aE b fun b=>aF a b fun b=>du 44 #[am b] a fun a b=>bW 55 #[am a,ac i] b fun a _ _ b=>Q (ac a) b):ag PP 271 #[.agg #[.pointer a],ac i] Q H :=
 okF Tryz.func271 rfl h
theorem Kf (h:ax (aJ H #[am a] 203) fun a=>aF a (aL H.size) fun b=>aC 275 #[aZ #[am b],ac i,ac j] a fun a b=>ak 89 #[ac a] b fun a _ b=>Q (ac a) b):ag PP 272 #[.agg #[.pointer a],ac i,ac j] Q H :=
 okF Tryz.func272 rfl h
theorem Eb (h:ax (aJ H #[am a] 203) fun a=>aF a (aL H.size) fun b=>aC 275 #[aZ #[am b],ac i,ac j] a fun a b=>ak 336 #[ac a] b fun a b c=>ah (b != 0) (Q (aO (⟨#[]⟩:ByteArray)) c) (aF c (aL H.size) fun b=>aE b fun b=>aF c (b.add 1) fun b=>eb 337 #[am b,ac a] c fun a _ b=>Q (aO a) b)):ag PP 273 #[.agg #[.pointer a],ac i,ac j] Q H :=
 okF Tryz.func273 rfl h
theorem GK (h:ax (aJ H #[am a] 203) fun a=>aF a (aL H.size) fun b=>aE b fun b=>aF a b fun b=>du 44 #[am b] a fun a b=>ak 57 #[am a,ac i,ac j] b fun a _ b=>Q (ac a) b):ag PP 275 #[.agg #[.pointer a],ac i,ac j] Q H :=
 okF Tryz.func275 rfl h
theorem GZ (h:ax (aJ H #[am a] 203) fun a=>aF a (aL H.size) fun b=>aC 272 #[aZ #[am b],ac i,ac 1] a fun a b=>ah (a != 1) (Q (ac a) b) (Q (ac 0) b)):ag PP 276 #[.agg #[.pointer a],ac i] Q H :=
 okF Tryz.func276 rfl h
theorem KW (h:ax (aJ H #[am a] 203) fun a=>aF a (aL H.size) fun b=>aC 271 #[aZ #[am b],ac i] a fun a b=>cL [av none 0 0,ac 0] b fun b c d e f g j k=>ah (aX k a) (aF e (aL H.size) fun a=>eI 273 #[aZ #[am a],ac i,ac k] e fun a i=>bM (Builtin.append_ #[61,61] 61 #[av f g j,av (some (aL i.size)) 1 1]) (aJ i #[aO a] 9) fun a f g i=>bm b c [av a f g,ac (aI (k+1))] i d e) (Q (av f g j) e)):ag PP 277 #[.agg #[.pointer a],ac i] Q H :=
 okL Tryz.func277 rfl (fun | 3=>some [(5,61),(10,3)] | _=>none) h
theorem EL (h:iZ 311 #[am a,ac i] H fun a b c=>bj (aJ c #[am none] 203) (aL c.size) (am a) fun a=>ah (b != 0) (Q (aA 0 b) a) (aF a (aL c.size) fun b=>aC 152 #[aZ #[am b],ac i,ac 6] a fun a b=>Q (aA a 0) b)):ag PP 307 #[.pointer a,ac i] Q H :=
 okF Tryz.func307 rfl h
theorem HQ (h:iZ 311 #[am a,ac i] H fun a b c=>bj (aJ c #[am none] 203) (aL c.size) (am a) fun a=>ah (b != 0) (Q (bJ #[av none 0 0,ac b]) a) (aF a (aL c.size) fun b=>cq 153 #[aZ #[am b],ac i] a fun a b c d=>Q (bJ #[av a b c,ac 0]) d)):ag PP 308 #[.pointer a,ac i] Q H :=
 okF Tryz.func308 rfl h
theorem Ih (h:ax (am none) fun b=>bk 77 #[am a] (aJ H #[b] 203) fun c d=>ax (aL H.size) fun e=>ah (!c) (bj d e b fun a=>aF a e fun b=>Q (bJ #[aZ #[am b],ac 2]) a) (ax (aL d.size) fun c=>bj (aJ d #[b] 203) c (am a) fun a=>aF a c fun d=>bk 361 #[aZ #[am d],ac i] a fun a d=>ah (!a) (bj d e b fun a=>aF a e fun b=>Q (bJ #[aZ #[am b],ac 130]) a) (aF d c fun a=>bj d e (am a) fun a=>aF a e fun b=>Q (bJ #[aZ #[am b],ac 0]) a))):ag PP 311 #[.pointer a,ac i] Q H :=
 okF Tryz.func311 rfl h
theorem Dc (h:ax (aL H.size) fun b=>ax (aJ H #[am a] 203) fun a=>aF a b fun c=>aC 152 #[aZ #[am c],ac i,ac 6] a fun a c=>aF c b fun d=>aC 161 #[aZ #[am d],ac 0] c fun c d=>ax (aP false) fun e=>ah (bP i 0) (ah (decide (a≥1)) (aF d b fun f=>aC 271 #[aZ #[am f],ac c] d fun d f=>ah (decide (a<=d)) (aF f b fun b=>aC 272 #[aZ #[am b],ac c,ac (aI (a-1))] f fun a b=>Q (aP (a == i)) b) (Q e f)) (Q e d)) (Q e d)):ag PP 361 #[.agg #[.pointer a],ac i] Q H :=
 okF Tryz.func361 rfl h
end
end Go.Proofs.YtgjfejoohojokaaGreatDoor
namespace Kw
open Go
def KV.addC (v:KV) (c:CV) (d:Int):KV:={ v with cls:=v.cls++[c],clsA:=d }
theorem KS.fresh {s:SP}{v:KV} (h:KS s v){o:Int} (hn:¬ Reaches s.h s.roots o):∀ p∈v.roles,p.1≠o:=fun p hp he=>hn (he ▸ h.reach p hp)
theorem pq {s s':SP}{v:KV} (h:KS s v) (h':KS s' v){l:List Int} (e:s'.stack=s.stack++l):∀ w∈s.roots,w∈s'.roots:=by
 intro w hw;rw [h.roots] at hw;rw [h'.roots,e];simp only [a0E,a0T] at hw ⊢;rcases hw with h | h
 ·exact .inl h
 ·exact .inr (.inl h)
theorem kO {s:SP}{v:KV} (h:KS s v){j:Nat} (hj:j<v.cls.length):1<=(v.cls[j]).oop∧(v.cls[j]).oop<=65536:=by
 have:=(h.view.cls hj).bnd h.wf.h;exact ⟨this.1,this.2.1⟩
theorem gJ {n up l:Int}{k:Nat} (hn:dL n) (hu:dL (4*up)) (hl:dL l) (hk:k<=1000):∀ w∈cW n up l k,dL w:=by
 intro w hw;simp only [cW,a0E,a1l,a2h] at hw;rcases hw with rfl | rfl | rfl | rfl | rfl | rfl | rfl
 ·exact hn
 ·exact hu
 ·exact hl
 ·decide
 ·decide
 ·decide
 ·unfold dL;have:=bE (2*((k:Int)+1)+1);omega
theorem ki {s:SP}{v:KV} (h:KS s v):∀ w∈v.clsW,dL w:=fun w hw=>(h.view.all.bnd h.wf.h).2.2.2 w hw
theorem By {s:SP}{v:KV}{t:TB} (hk:KS s v) (s8:s.stack.length<65000){c l:Int}{n:Nat}{ns:List Nat}{j:Nat} (hj:j<v.cls.length) (an:v.cls.length<256)
  (uF:1<=c) (w7:c<=65536) (Zu:Reaches s.h s.roots c) (Uo:Reaches s.h s.roots l) (WR:iK s.h c (cW (fw n) (v.cls[j]).oop (4*l) v.cls.length)) (S0:iK s.h l (ns.map fw))
  (VW:∀ p∈v.roles,p.1≠c) (WS:ns=[]∧l=18∨∀ p∈v.roles,p.1≠l) (D7:c≠l) :
  co s.h (fI s t v.clsW (4*c)).2.1.h (fun k=>Reaches s.h s.roots k∧k≠19)∧(fI s t v.clsW (4*c)).2.2=t∧(∃ m,(fI s t v.clsW (4*c)).2.1.stack=s.stack++m∧m.length<=1) ∧
  ((fI s t v.clsW (4*c)).1.2≠0->KS (fI s t v.clsW (4*c)).2.1 v∧co s.h (fI s t v.clsW (4*c)).2.1.h (Reaches s.h s.roots)) ∧
  ((fI s t v.clsW (4*c)).1.2=0->(fI s t v.clsW (4*c)).1.1=c∧∃ d,KS (fI s t v.clsW (4*c)).2.1 (v.addC ⟨c,n,(v.cls[j]).oop,ns,l,18,18,[],[],0⟩ d)):=by
 have Do:∀ w∈v.clsW++[4*c],dL w:=fun w hw=>by
  rcases a0T.1 hw with hw | hw
  ·exact ki hk w hw
  ·simp only [a0A] at hw;rw [hw];exact dN uF w7
 obtain ⟨h1,h2,⟨m,h3,SE⟩,h4⟩:=iD hk (by omega) Do;unfold fI;by_cases he:(s.array (v.clsW++[4*c])).1.2=0
 ·rw [a0a (by simpa using he)];obtain ⟨d,e1,d1,d2,hda,TA,U3⟩:=h4 he;have U3:¬ Reaches s.h s.roots d:=by
   rcases U3 with h | h
   ·simp at h
   ·exact h
  rw [e1];generalize (s.array (v.clsW++[4*c])).2=s1 at *;obtain ⟨g1,g2,g3,g4,g5,g6,g7⟩:=rV h1 (i:=0) (w:=4*d) (by decide) (by decide) (dN d1 d2);generalize (s1.setRoot 0 (4*d)).2=s2 at *;have VX:∀ p∈v.roles,p.1≠d:=hk.fresh U3;have r19:((19,v.rootW):tS)∈v.roles:=by simp [KV.roles]
  have r18:((18,[]):tS)∈v.roles:=by simp [KV.roles]
  have WT:c≠19:=fun e=>VW _ r19 e.symm;have WU:d≠19:=fun e=>VX _ r19 e.symm;have WV:l≠19:=by
   rcases WS with ⟨_,h⟩ | h
   ·omega
   ·exact fun e=>h _ r19 e.symm
  have WW:c≠18:=fun e=>VW _ r18 e.symm;have hdc:d≠c:=fun e=>U3 (e ▸ Zu);have Uc:d≠l:=fun e=>U3 (e ▸ Uo);have h2k:co s.h s2.h fun k=>Reaches s.h s.roots k∧k≠19:=(h2.mono fun k hk=>hk.1).trans (g2.mono fun k hk=>hk.2);have ic:=vx hk.view hk.sep;refine ⟨h2k,rfl,⟨m,by rw [g6,h3],SE⟩,fun h=>absurd rfl h,fun _=>⟨by show 4*c / 4=c;omega,d,g3,g7,g5,g4,?_,?_,?_⟩⟩
  ·
   refine fo.of ?_ ?_ ?_ ?_ ?_ ?_
   ·simpa [KV.rootW,KV.addC] using g1
   ·have:=hda.keep g2 WU;simpa [KV.addC,KV.clsW] using this
   ·exact (h1.view.globs).keep g2 (ic (v.globA,gR v.glob) (by simp))
   ·exact (h1.view.nil).keep g2 (by decide)
   ·exact (h1.view.empty).keep g2 (by decide)
   ·intro p hp;simp only [KV.addC,ml,a0T,a0K,fY,a2S] at hp;rcases hp with hp | hp
    ·exact (h1.view p (by simp [KV.roles,hp])).keep g2 (ic p (by simp [hp]))
    ·simp only [crole,a0E,a1l,a2h] at hp;rcases hp with rfl | rfl | rfl | rfl
     ·have:=WR.keep h2k ⟨Zu,WT⟩;simpa [CV.slots,cW] using this
     ·exact S0.keep h2k ⟨Uo,WV⟩
     ·exact (h1.view.empty).keep g2 (by decide)
     ·exact (h1.view.empty).keep g2 (by decide)
  ·
   have hs:=hk.sep;unfold Pz at hs ⊢;simp only [KV.roles,KV.addC,ml,fY,a2S,a0K] at hs ⊢;rw [a2z,a2z] at hs;obtain ⟨i7,Jw,VO⟩:=hs;have new:∀ q∈crole ⟨c,n,(v.cls[j]).oop,ns,l,18,18,[],[],0⟩ v.cls.length,q.1=c∨q.1=l∨q.1=18:=by
    intro q hq;simp only [crole,a0E,a1l,a2h] at hq;rcases hq with rfl | rfl | rfl | rfl <;> simp
   refine a2z.2 ⟨fun q hq he=>?_,a2z.2 ⟨fun q hq he=>?_,?_⟩⟩
   ·
    exfalso;simp only [a0E,a0T] at hq;rcases hq with rfl | rfl | rfl | rfl | hq | hq
    ·exact WU he.symm
    ·exact ic (v.globA,gR v.glob) (by simp) he.symm
    ·simp at he
    ·simp at he
    ·exact ic q (by simp [hq]) he.symm
    ·rcases new q hq with h | h | h
     ·exact WT (by rw [←h];exact he.symm)
     ·exact WV (by rw [←h];exact he.symm)
     ·rw [h] at he;simp at he
   ·exfalso;simp only [a0E,a0T] at hq;rcases hq with rfl | rfl | rfl | hq | hq
    ·exact VX (v.globA,gR v.glob) (by simp [KV.roles]) he.symm
    ·exact VX (1,[]) (by simp [KV.roles]) he.symm
    ·exact VX (18,[]) (by simp [KV.roles]) he.symm
    ·exact VX q (by simp [KV.roles,hq]) he.symm
    ·rcases new q hq with h | h | h
     ·exact hdc (by rw [←h];exact he)
     ·exact Uc (by rw [←h];exact he)
     ·exact VX (18,[]) r18 (by rw [←h];exact he.symm)
   ·show ((v.globA,gR v.glob) :: (1,[]) :: (18,[]) :: (fY v.cls 0++_)).Pairwise _;rw [←a3k,←a3k,←a3k];refine a3b.2 ⟨VO,?_,fun p hp q hq he=>?_⟩
    ·simp only [crole];refine a2z.2 ⟨fun q hq he=>?_,a2z.2 ⟨fun q hq he=>?_,a2z.2 ⟨fun q hq he=>rfl,a2z.2 ⟨fun q hq he=>rfl,List.Pairwise.nil⟩⟩⟩⟩
     ·exfalso;simp only [a0E,a1l,a2h] at hq;rcases hq with rfl | rfl | rfl
      ·exact D7 he
      ·exact WW he
      ·exact WW he
     ·rcases WS with ⟨h,_⟩ | h
      ·simp [h]
      ·exfalso;simp only [a0E,a1l,a2h] at hq;rcases hq with rfl | rfl
       ·exact h _ r18 he.symm
       ·exact h _ r18 he.symm
    ·have hpr:p∈v.roles:=by
      simp only [KV.roles];exact a2F _ (a2F _ hp)
     have em:p.1=18->p.2=[]:=fun h=>by
      have:=hk.view p hpr;rw [h] at this;exact this.uniq hk.view.empty
     rcases new q hq with h | h | h
     ·exact absurd (he.trans h) (VW p hpr)
     ·rcases WS with ⟨_,h'⟩ | h'
      ·exact em (by rw [he,h,h'])
      ·exact absurd (he.trans h) (h' p hpr)
     ·exact em (he.trans h)
  ·
   have Jg:=hk.shape;have VQ:=Jg.many0;constructor
   ·exact Jg.rest
   ·simp only [KV.addC,a1h];omega
   ·simp only [KV.addC,a1h,a1b,a1s];omega
   ·exact Jg.globs
   ·intro h0;have TU:0<v.cls.length:=by omega
    simp only [KV.addC,a3j TU];exact Jg.up0 TU
   ·intro i hi In;simp only [KV.addC,a1h,a1b,a1s] at hi;by_cases b9:i<v.cls.length
    ·obtain ⟨j',Sa,h5,h6⟩:=Jg.ups i b9 In;refine ⟨j',by simp only [KV.addC,a1h];omega,h5,?_⟩;simp only [KV.addC,a3j b9,a3j Sa];exact h6
    ·have RA:i=v.cls.length:=by omega
     subst RA;refine ⟨j,by simp only [KV.addC,a1h];omega,hj,?_⟩;simp only [KV.addC,a3j hj];rw [List.getElem_append_right (a0U _)];simp
   ·intro i hi h14;have b9:i<v.cls.length:=by omega
    simp only [KV.addC,a3j b9];exact Jg.kern i b9 h14
   ·intro x hx;simp only [KV.addC,a0T,a0A] at hx;rcases hx with hx | rfl
    ·exact Jg.lay x hx
    ·simp
 ·rw [a0b (by simpa using he)];exact ⟨h2.mono fun k hk=>hk.1,rfl,⟨m,h3,SE⟩,fun _=>⟨h1,h2⟩,fun h=>absurd h he⟩
structure DefR (s:SP) (v:KV) (t:TB) (j:Nat) (name:ByteArray) (own:List ByteArray) (R:(Int × Int) × SP × TB):Prop where
 wft:WFT R.2.2
 most:R.2.2.most=t.most
 pre:∃ l,R.2.2.texts=t.texts++l
 stack:∃ m,R.2.1.stack=s.stack++m∧m.length<=3
 bad:R.1.2≠0->KS R.2.1 v∧co s.h R.2.1.h (Reaches s.h s.roots)
 good:R.1.2=0->∃ c n ns l d,∃ hj:j<v.cls.length,R.1.1=c∧KS R.2.1 (v.addC ⟨c,n,(v.cls[j]).oop,ns,l,18,18,[],[],0⟩ d)∧R.2.2.texts[n]?=some name∧ns.map (fun n=>R.2.2.texts[n]?)=own.map some
 keep:co s.h R.2.1.h (fun k=>Reaches s.h s.roots k∧k≠19)
theorem Ch {s:SP}{v:KV}{t:TB} (hk:KS s v) (s8:s.stack.length<60000){n:Nat}{ns:List Nat}{j:Nat} (hj:j<v.cls.length) (an:v.cls.length<256) (Tu:WFT t) (hn:n<t.texts.length) (S1:∀ n∈ns,n<t.texts.length)
  {name:ByteArray}{own:List ByteArray} (e1:t.texts[n]?=some name) (e2:ns.map (fun n=>t.texts[n]?)=own.map some) :
  DefR s v t j name own (lx s t v.clsW (fw n) (v.cls[j]).oop (ns.map fw)):=by
 have Do:∀ w∈ns.map fw,dL w:=fun w hw=>by
  obtain ⟨x,hx,rfl⟩:=a1n.1 hw;exact lH Tu (S1 x hx)
 obtain ⟨a1,a2,⟨m1,a3,a3'⟩,a4⟩:=iD hk (by omega) Do;unfold lx;by_cases he:(s.array (ns.map fw)).1.2=0
 ·rw [a0a (by simpa using he)];obtain ⟨l,el,l1,l2,S0,Uo,WS⟩:=a4 he;rw [el];generalize (s.array (ns.map fw)).2=s1 at *;have J9:s1.stack.length<64000:=by rw [a3,a1h];omega
  have s6:=kO hk hj;have Tv:v.clsW.length=v.cls.length:=by simp [KV.clsW]
  obtain ⟨b1,b2,b3,b4⟩:=lY a1 (by omega) (cls:=12) (by decide) (ws:=cW (fw n) (v.cls[j]).oop (4*l) v.clsW.length) (gJ (lH Tu hn) (dN s6.1 s6.2) (dN l1 l2) (by omega));have VY:∀ k,Reaches s.h s.roots k->Reaches s1.h s1.roots k:=fun k JL=>Reaches.mono hk.wf.h a2 (pq hk a1 a3) JL;unfold jo;by_cases hf:(s1.make 12 (cW (fw n) (v.cls[j]).oop (4*l) v.clsW.length)).1.2=0
  ·rw [a0a (by simpa using hf)];obtain ⟨c,ec,est,c1,c2,WR,hcn⟩:=b4 hf;rw [ec];generalize (s1.make 12 (cW (fw n) (v.cls[j]).oop (4*l) v.clsW.length)).2=s2 at *;have Vj:∀ k,Reaches s1.h s1.roots k->Reaches s2.h s2.roots k:=fun k JL=>Reaches.mono a1.wf.h b2 (pq a1 b1 est) JL;have Zu:Reaches s2.h s2.roots c:=Reaches.of_root c1 c2 WR.there (by rw [b1.roots,est];simp);have a0M:ns=[]∧l=18∨∀ p∈v.roles,p.1≠l:=by
    rcases WS with h | h
    ·have a0N:ns=[]:=by simpa using h
     subst a0N;left;refine ⟨rfl,?_⟩
     have:(s.array (([]:List Nat).map fw)).1.1=72:=by simp [SP.array]
     omega
    ·exact .inr (hk.fresh h)
   obtain ⟨d1,d2,⟨m,d3,d3'⟩,d4,d5⟩:=By (t:=t) b1 (by rw [est,a1h];simp;omega) (c:=c) (l:=l) (n:=n) (ns:=ns) hj an c1 c2 Zu (Vj l Uo) (by rw [Tv] at WR;exact WR) (S0.keep b2 Uo) (a1.fresh hcn) a0M (fun e=>hcn (e ▸ Uo));generalize fI s2 t v.clsW (4*c)=R at *;refine ⟨by rw [d2];exact Tu,by rw [d2],⟨[],by rw [d2];simp⟩,⟨m1++[4*c]++m,by rw [d3,est,a3];simp,by simp;omega⟩,fun h=>?_,fun h=>?_,((a2.trans (b2.mono VY)).mono fun k JL=>JL.1).trans (d1.mono fun k JL=>⟨Vj k (VY k JL.1),JL.2⟩)⟩
   ·exact ⟨(d4 h).1,(a2.trans (b2.mono VY)).trans ((d4 h).2.mono fun k JL=>Vj k (VY k JL))⟩
   ·obtain ⟨e3,d,e4⟩:=d5 h;rw [d2];exact ⟨c,n,ns,l,d,hj,e3,e4,e1,e2⟩
  ·rw [a0b (by simpa using hf)];exact ⟨Tu,rfl,⟨[],by simp⟩,⟨m1,by rw [(b3 hf).1,a3],by omega⟩,fun _=>⟨b1,a2.trans (b2.mono VY)⟩,fun h=>absurd h hf,(a2.trans (b2.mono VY)).mono fun k JL=>JL.1⟩
 ·rw [a0b (by simpa using he)];exact ⟨Tu,rfl,⟨[],by simp⟩,⟨m1,a3,by omega⟩,fun _=>⟨a1,a2⟩,fun h=>absurd h he,a2.mono fun k JL=>JL.1⟩
theorem yR {s:SP}{v:KV}{t:TB} (hk:KS s v) (s8:s.stack.length<60000){j:Nat} (hj:j<v.cls.length) (an:v.cls.length<256) (Tu:WFT t) (name:ByteArray) (own:List ByteArray) :
  DefR s v t j name own (gF s t v.clsW name (v.cls[j]).oop own):=by
 unfold gF;have p1:=uy t name;have w1:=iq Tu name;by_cases h1:(t.add name).1.2=0
 ·rw [a0a (by simpa using h1)];obtain ⟨n,e1,e2,_⟩:=kH name h1;generalize (t.add name).2=t1 at *;have p2:=kk t1 [] own;have w2:=xp w1 [] own;have pre:∃ l,(t1.addAll [] own).2.texts=t.texts++l:=by
   obtain ⟨l,e⟩:=p1.2;obtain ⟨l',e'⟩:=p2.2;exact ⟨l++l',by rw [e',e];simp⟩
  by_cases h2:(t1.addAll [] own).1.2=0
  ·rw [a0a (by simpa using h2)];obtain ⟨ns,e3,e4⟩:=oz [] own h2;rw [e3,e1];generalize (t1.addAll [] own).2=t2 at *;have e5:t2.texts[n]?=some name:=by
    obtain ⟨l',e'⟩:=p2.2;rw [e',a2x (ge e2).2,e2]
   have S1:∀ n∈ns,n<t2.texts.length:=fun n hn=>by
    have:t2.texts[n]?∈own.map some:=by rw [←e4];exact a1n.2 ⟨n,hn,rfl⟩
    obtain ⟨s,_,hs⟩:=a1n.1 this;exact (ge hs.symm).2
   have:=Ch hk s8 hj an w2 (ge e5).2 S1 e5 e4;have RI:∃ l,(lx s t2 v.clsW (fw n) (v.cls[j]).oop (ns.map fw)).2.2.texts=t.texts++l:=by
    obtain ⟨l,e⟩:=pre;obtain ⟨l',e'⟩:=this.pre;exact ⟨l++l',e'.trans (by rw [e];simp)⟩
   exact { this with most:=this.most.trans (p2.1.trans p1.1),pre:=RI }
  ·rw [a0b (by simpa using h2)];exact ⟨w2,p2.1.trans p1.1,pre,⟨[],by simp,by simp⟩,fun _=>⟨hk,co.refl _ _⟩,fun h=>absurd h h2,co.refl _ _⟩
 ·rw [a0b (by simpa using h1)];exact ⟨w1,p1.1,p1.2,⟨[],by simp,by simp⟩,fun _=>⟨hk,co.refl _ _⟩,fun h=>absurd h h1,co.refl _ _⟩
structure KAll (s:SP) (t:TB) (v:KV):Prop where
 ks:KS s v
 names:KNames v t
 stack:s.stack=[]
structure KAllW (s:SP) (t:TB) (v:KV):Prop where
 ks:KS s v
 names:KNames v t
 top:s.stack.length<=65536
theorem KAll.w {s:SP}{t:TB}{v:KV} (h:KAll s t v):KAllW s t v:=⟨h.ks,h.names,by rw [h.stack];decide⟩
theorem Ce {s:SP}{m:List Int} (h:s.stack=m):(s.drop ((s.stack.length:Int)-0)).2={ s with stack:=[] }:=by
 unfold SP.drop;rw [a0a (by omega)];simp
theorem KS.nostack {s:SP}{v:KV} (h:KS s v):KS { s with stack:=[] } v:=⟨{ h.wf with many:=by simp,words:=by simp },h.gc,h.op,h.king,h.view,h.sep,h.shape⟩
theorem KS.marks {s:SP}{v:KV} (h:KS s v) (k:Int):KS { s with h:=(s.h.marks k).2 } v :=
 ⟨{ h.wf with h:=BW h.wf.h k },Cl h.gc k,h.op,h.king,h.view.keep (lk k) fun _ _=>trivial,h.sep,h.shape⟩
theorem yf {s:SP}{v:KV}{t:TB} (h:KAll s t v){j:Nat} (hj:j<v.cls.length) (an:v.cls.length<256){name:ByteArray}{own:List ByteArray} (hf:∀ c∈v.cls,tx t c.name≠name) :
  ((cU s t v.clsW name (v.cls[j]).oop own).1.2≠0->(cU s t v.clsW name (v.cls[j]).oop own).1.1=0∧KAll (cU s t v.clsW name (v.cls[j]).oop own).2.1 (cU s t v.clsW name (v.cls[j]).oop own).2.2 v∧(cU s t v.clsW name (v.cls[j]).oop own).2.2=t ∧
   co s.h (cU s t v.clsW name (v.cls[j]).oop own).2.1.h (Reaches s.h s.roots)) ∧
  ((cU s t v.clsW name (v.cls[j]).oop own).1.2=0->∃ n ns l d,KAll (cU s t v.clsW name (v.cls[j]).oop own).2.1 (cU s t v.clsW name (v.cls[j]).oop own).2.2 (v.addC ⟨(cU s t v.clsW name (v.cls[j]).oop own).1.1,n,(v.cls[j]).oop,ns,l,18,18,[],[],0⟩ d) ∧
   (∃ m,(cU s t v.clsW name (v.cls[j]).oop own).2.2.texts=t.texts++m)∧tx (cU s t v.clsW name (v.cls[j]).oop own).2.2 n=name∧ns.map (tx (cU s t v.clsW name (v.cls[j]).oop own).2.2)=own):=by
 obtain ⟨hk,hn,s8⟩:=h;have D:=yR hk (by rw [s8];simp) hj an hn.wf name own;unfold cU;generalize gF s t v.clsW name (v.cls[j]).oop own=R at D ⊢;obtain ⟨m,hm,OC⟩:=D.stack;have hd:=Ce (s:=R.2.1) (m:=R.2.1.stack) rfl;simp only [s8,a1s];by_cases he:R.1.2=0
 ·refine ⟨fun h=>absurd he h,fun _=>?_⟩;obtain ⟨c,n,ns,l,d,_,e1,e2,e3,e4⟩:=D.good he;unfold pA;rw [a0b he,a0b he];simp only [Int.natCast_zero,hd];have hg:=hn.grow D.wft D.pre;have t1:=ge e3;have t2:ns.map (tx R.2.2)=own:=by
   have h2:∀ (ns:List Nat) (own:List ByteArray),ns.map (fun n=>R.2.2.texts[n]?)=own.map some->ns.map (tx R.2.2)=own:=by
    intro ns
    induction ns with
    | nil=>intro own h;simp only [a26] at h;simpa using h.symm
    | cons a ns ih =>
     intro own h;cases own with
     | nil=>simp at h
     | cons b own =>
      simp only [a2k,List.cons.injEq] at h;rw [a2k,(ge h.1).1,ih own h.2]
   exact h2 ns own e4
  have t3:∀ x∈ns,x<R.2.2.texts.length:=fun x hx=>by
   have:R.2.2.texts[x]?∈own.map some:=by rw [←e4];exact a1n.2 ⟨x,hx,rfl⟩
   obtain ⟨_,_,hs⟩:=a1n.1 this;exact (ge hs.symm).2
  refine ⟨n,ns,l,d,⟨by rw [e1];exact e2.nostack,?_,rfl⟩,D.pre,t1.1,t2⟩;refine ⟨D.wft,fun x hx=>?_,fun x hx=>?_,hg.glob,?_⟩
  ·simp only [KV.addC,a0T,a0A] at hx;rcases hx with hx | rfl
   ·exact hg.name x hx
   ·exact t1.2
  ·simp only [KV.addC,a0T,a0A] at hx;rcases hx with hx | rfl
   ·exact hg.own x hx
   ·exact t3
  ·simp only [KV.addC,a2m,a2k,a26];rw [a23];refine ⟨hg.nodup,by simp,fun a ha b hb Tl=>?_⟩;simp only [a0A] at hb;subst hb;subst Tl;obtain ⟨x,hx,RV⟩:=a1n.1 ha
   have:=hf x hx;rw [←Nx D.pre (hn.name x hx),RV] at this;exact this t1.1
 ·refine ⟨fun _=>?_,fun h=>absurd h he⟩;obtain ⟨b1,b2⟩:=D.bad he;unfold pA;rw [a0a he,a0a he];simp only [Int.natCast_zero,hd];have hb:=Cf D.most D.pre;rw [hb];by_cases Uq:R.1.2=24
  ·rw [a0b Uq];exact ⟨trivial,⟨b1.nostack,hn,rfl⟩,rfl,b2⟩
  ·rw [a0a Uq];exact ⟨trivial,⟨b1.nostack.marks _,hn,rfl⟩,rfl,b2.trans ((lk _).mono fun _ _=>trivial)⟩
theorem KAll.marks {s:SP}{t:TB}{v:KV} (h:KAll s t v) (k:Int):KAll { s with h:=(s.h.marks k).2 } t v:=⟨h.ks.marks k,h.names,h.stack⟩
theorem KAll.collect {s:SP}{t:TB}{v:KV} (h:KAll s t v):KAll s.collect.2 t v:=by
 have hr:=mZ s;exact ⟨⟨rG h.ks.wf,rf h.ks.gc,hr.2.2.trans h.ks.op,hr.1.trans h.ks.king,h.ks.view.keep (mm h.ks.wf.h) h.ks.reach,h.ks.sep,h.ks.shape⟩,h.names,hr.2.1.trans h.stack⟩
end Kw
namespace Kw
open Go
def d7 (w:Int):Int:=if aU w=3 then w / 4 else 0
def cG (w:Int):Int:=if aU w=1 then w / 2 else 0
def yl (t:TB) (w:Int):ByteArray:=if aU w=2 then tx t (w / 4).toNat else ⟨#[]⟩
def kslot (r:RH) (o i:Int):Int:=(r.at o i).1
def kM (r:RH) (o i:Int):Int:=d7 (kslot r o i)
def tW (r:RH) (o i:Int):Int:=cG (kslot r o i)
def mf (r:RH) (t:TB) (o i:Int):ByteArray:=yl t (kslot r o i)
def ksize (r:RH) (o:Int):Int:=(r.size o).1
theorem iH {o:Int} (h0:1<=o) (h1:o<=65536):d7 (4*o)=o:=by
 unfold d7
 have:=bE (4*o);rw [a0b (by omega)];omega
theorem Cn {n:Int} (h0:-1073741824<=n) (h1:n<=1073741823):cG (2*n+1)=n:=by
 unfold cG
 have:=bE (2*n+1);rw [a0b (by omega)];omega
theorem oO {t:TB} (hw:WFT t){n:Nat} (h:n<t.texts.length):yl t (fw n)=tx t n:=by
 unfold yl fw;have h1:=hw.m1;have h2:=hw.len
 have:=bE (4*(n:Int)+2);rw [a0b (by omega)]
 congr 1;omega
theorem iK.kslot {r:RH}{o:Int}{ws:List Int} (h:iK r o ws){i:Nat} (hi:i<ws.length):kslot r o i=ws[i]:=by
 unfold Kw.kslot;rw [h.at (by omega) (by omega)];simp
theorem iK.ksize {r:RH}{o:Int}{ws:List Int} (h:iK r o ws):ksize r o=ws.length:=by unfold Kw.ksize;rw [h.size]
theorem kX {r:RH} (o:Int):0<=ksize r o:=by
 unfold ksize RH.size;cases aT r.objs o with
 | none=>exact a1F 0
 | some x=>exact Int.natCast_nonneg _
theorem tF {r:RH} (hw:WFH r) (o:Int):ksize r o<=8192:=by
 unfold ksize RH.size;cases ho:aT r.objs o with
 | none=>exact Int.le_of_lt (by decide)
 | some x=>have:=(hw.objs.good x (aR ho).1).many;simp only;omega
def kwords (r:RH) (o:Int):List Int:=(List.range (ksize r o).toNat).map fun i:Nat=>kslot r o i
theorem iK.kwords {r:RH}{o:Int}{ws:List Int} (h:iK r o ws):kwords r o=ws:=by
 unfold Kw.kwords;rw [h.ksize,a0j];apply a2V (by simp);intro i h1 h2;simp only [a3e,a3F];exact h.kslot h2
section
variable {s:SP}{v:KV}{t:TB}
theorem KS.root0 (h:KS s v):kM s.h 19 0=v.clsA:=by
 have hb:=h.view.all.bnd h.wf.h;have hr:=h.view.root;unfold kM;rw [show (0:Int)=((0:Nat):Int) from rfl,hr.kslot (by simp [KV.rootW])];exact iH hb.1 hb.2.1
theorem KS.root1 (h:KS s v):kM s.h 19 1=v.globA:=by
 have hb:=h.view.globs.bnd h.wf.h;have hr:=h.view.root;unfold kM;rw [show (1:Int)=((1:Nat):Int) from rfl,hr.kslot (by simp [KV.rootW])];exact iH hb.1 hb.2.1
theorem KS.size0 (h:KS s v):ksize s.h v.clsA=v.cls.length:=by rw [h.view.all.ksize];simp [KV.clsW]
theorem KS.size1 (h:KS s v):ksize s.h v.globA=2*v.glob.length:=by rw [h.view.globs.ksize,oe];simp
theorem KS.clsAt (h:KS s v){i:Nat} (hi:i<v.cls.length):kslot s.h v.clsA i=4*(v.cls[i]).oop∧kM s.h v.clsA i=(v.cls[i]).oop:=by
 have hb:=(h.view.cls hi).bnd h.wf.h;have e:kslot s.h v.clsA i=4*(v.cls[i]).oop:=by rw [h.view.all.kslot (by simpa [KV.clsW] using hi)];simp [KV.clsW]
 exact ⟨e,by unfold kM;rw [e];exact iH hb.1 hb.2.1⟩
theorem KS.globAt (h:KS s v){i:Nat} (hi:i<v.glob.length):kslot s.h v.globA (2*i:Nat)=fw v.glob[i].1∧kslot s.h v.globA (2*i+1:Nat)=v.glob[i].2:=by
 have hg:=sn hi;have hl:=oe v.glob;refine ⟨?_,?_⟩
 ·rw [h.view.globs.kslot (by omega)]
  have:=hg.1;rw [a0Q (by omega)] at this;simpa using this
 ·rw [h.view.globs.kslot (by omega)]
  have:=hg.2;rw [a0Q (by omega)] at this;simpa using this
theorem KS.c0 (h:KS s v){i:Nat} (hi:i<v.cls.length):kslot s.h (v.cls[i]).oop 0=fw (v.cls[i]).name:=(h.view.cls hi).kslot (i:=0) (by simp [CV.slots])
theorem KS.c1 (h:KS s v){i:Nat} (hi:i<v.cls.length):kslot s.h (v.cls[i]).oop 1=4*(v.cls[i]).up:=(h.view.cls hi).kslot (i:=1) (by simp [CV.slots])
theorem KS.c2 (h:KS s v){i:Nat} (hi:i<v.cls.length):kslot s.h (v.cls[i]).oop 2=4*(v.cls[i]).ownA:=(h.view.cls hi).kslot (i:=2) (by simp [CV.slots])
theorem KS.c3 (h:KS s v){i:Nat} (hi:i<v.cls.length):kslot s.h (v.cls[i]).oop 3=4*(v.cls[i]).selA:=(h.view.cls hi).kslot (i:=3) (by simp [CV.slots])
theorem KS.c4 (h:KS s v){i:Nat} (hi:i<v.cls.length):kslot s.h (v.cls[i]).oop 4=4*(v.cls[i]).metA:=(h.view.cls hi).kslot (i:=4) (by simp [CV.slots])
theorem KS.c5 (h:KS s v){i:Nat} (hi:i<v.cls.length):kslot s.h (v.cls[i]).oop 5=2*(v.cls[i]).lay+1:=(h.view.cls hi).kslot (i:=5) (by simp [CV.slots])
theorem KS.c6 (h:KS s v){i:Nat} (hi:i<v.cls.length):kslot s.h (v.cls[i]).oop 6=2*((i:Int)+1)+1:=(h.view.cls hi).kslot (i:=6) (by simp [CV.slots])
theorem KS.upB (h:KS s v){i:Nat} (hi:i<v.cls.length):1<=(v.cls[i]).up∧(v.cls[i]).up<=65536:=by
 by_cases h0:i=0
 ·subst h0;rw [(h.shape.up0 hi).1];decide
 ·obtain ⟨j,hj,_,e⟩:=h.shape.ups i hi (by omega);rw [←e]
  have:=(h.view.cls hj).bnd h.wf.h;exact ⟨this.1,this.2.1⟩
theorem KS.up (h:KS s v){i:Nat} (hi:i<v.cls.length):kM s.h (v.cls[i]).oop 1=(v.cls[i]).up:=by
 unfold kM;rw [h.c1 hi];exact iH (h.upB hi).1 (h.upB hi).2
theorem KS.up1 (h:KS s v){i:Nat} (hi:i<v.cls.length):(v.cls[i]).up=1↔i=0:=by
 constructor
 ·intro e;by_cases h0:i=0
  ·exact h0
  ·obtain ⟨j,hj,_,e'⟩:=h.shape.ups i hi (by omega);exact absurd (e'.trans e) (h.view.ne1 hj)
 ·rintro rfl;exact (h.shape.up0 hi).1
theorem KS.ownO (h:KS s v){i:Nat} (hi:i<v.cls.length):kM s.h (v.cls[i]).oop 2=(v.cls[i]).ownA:=by
 have hb:=(h.view.own hi).bnd h.wf.h;unfold kM;rw [h.c2 hi];exact iH hb.1 hb.2.1
theorem KS.num (h:KS s v){i:Nat} (hi:i<v.cls.length):tW s.h (v.cls[i]).oop 6=(i:Int)+1:=by
 have:=h.shape.many1;unfold tW;rw [h.c6 hi];exact Cn (by omega) (by omega)
theorem KAllW.name (h:KAllW s t v){i:Nat} (hi:i<v.cls.length):mf s.h t (v.cls[i]).oop 0=tx t (v.cls[i]).name:=by
 unfold mf;rw [h.ks.c0 hi];exact oO h.names.wf (h.names.name _ (a04 hi))
theorem KAllW.gname (h:KAllW s t v){i:Nat} (hi:i<v.glob.length):mf s.h t v.globA (2*i:Nat)=tx t v.glob[i].1:=by
 unfold mf;rw [(h.ks.globAt hi).1];exact oO h.names.wf (h.names.glob _ (a04 hi))
theorem KAllW.ownT (h:KAllW s t v){i:Nat} (hi:i<v.cls.length){j:Nat} (hj:j<(v.cls[i]).own.length):mf s.h t (v.cls[i]).ownA j=tx t (v.cls[i]).own[j]:=by
 unfold mf;rw [(h.ks.view.own hi).kslot (i:=j) (by simpa using hj)];simp only [a3e];exact oO h.names.wf (h.names.own _ (a04 hi) _ (a04 hj))
theorem KS.ownL (h:KS s v){i:Nat} (hi:i<v.cls.length):ksize s.h (v.cls[i]).ownA=(v.cls[i]).own.length:=by rw [(h.view.own hi).ksize];simp
end
def eR (v:KV) (o:Int):Option Nat:=v.cls.findIdx? fun c=>decide (c.oop=o)
theorem dS {v:KV}{o:Int}{i:Nat} (h:eR v o=some i):∃ hi:i<v.cls.length,(v.cls[i]).oop=o:=by
 unfold eR at h;rw [a3c] at h;obtain ⟨hi,h1,_⟩:=h;exact ⟨hi,by simpa using h1⟩
theorem uX {v:KV}{o:Int} (h:eR v o=none):∀ i (hi:i<v.cls.length),(v.cls[i]).oop≠o:=by
 unfold eR at h;rw [a3r] at h;intro i hi;simpa using h _ (a04 hi)
theorem KS.idx {s:SP}{v:KV} (h:KS s v){i:Nat} (hi:i<v.cls.length):eR v (v.cls[i]).oop=some i:=by
 cases hx:eR v (v.cls[i]).oop with
 | none=>exact absurd rfl (uX hx i hi)
 | some j =>
  obtain ⟨hj,e⟩:=dS hx;rw [h.view.inj hj hi e]
def fy (v:KV) (t:TB) (name:ByteArray):Int × Int:=match v.cls.findIdx? (fun c=>decide (tx t c.name=name)) with
 | some i=>((v.cls.getD i ⟨0,0,0,[],0,0,0,[],[],0⟩).oop,0)
 | none=>(0,130)
def dG (v:KV) (i:Nat):Int:=match v.cls[i]? with
 | some c=>if c.up=1 then 0 else c.up
 | none=>0
def upIdx (v:KV) (i:Nat):Option Nat:=eR v (dG v i)
def ch (v:KV) (i:Nat):List Nat:=match v.cls[i]? with
 | none=>[]
 | some c=>match upIdx v i with
  | some j=>if j<i then ch v j++c.own else c.own
  | none=>c.own
termination_by i
theorem KS.upI {s:SP}{v:KV} (h:KS s v){i:Nat} (hi:i<v.cls.length):(i=0∧dG v i=0∧upIdx v i=none)∨(∃ j,∃ hj:j<v.cls.length,j<i∧dG v i=(v.cls[j]).oop∧(v.cls[i]).up=(v.cls[j]).oop∧upIdx v i=some j):=by
 have e:dG v i=if (v.cls[i]).up=1 then 0 else (v.cls[i]).up:=by unfold dG;rw [a0Q hi]
 by_cases h0:i=0
 ·left;have hu:(v.cls[i]).up=1:=(h.up1 hi).2 h0;rw [a0b hu] at e;refine ⟨h0,e,?_⟩;unfold Kw.upIdx;rw [e];cases hx:eR v 0 with
  | none=>rfl
  | some j =>
   obtain ⟨hj,e'⟩:=dS hx
   have:=((h.view.cls hj).bnd h.wf.h).1;omega
 ·right;obtain ⟨j,hj,an,e'⟩:=h.shape.ups i hi (by omega);have hu:(v.cls[i]).up≠1:=fun hx=>h0 ((h.up1 hi).1 hx);rw [a0a hu] at e;refine ⟨j,hj,an,by rw [e,e'],e'.symm,?_⟩;unfold Kw.upIdx;rw [e,←e'];exact h.idx hj
theorem KS.fields0 {s:SP}{v:KV} (h:KS s v) (h0:0<v.cls.length):ch v 0=(v.cls[0]).own:=by
 rw [ch,a0Q h0];rcases h.upI h0 with ⟨_,_,e⟩ | ⟨j,_,an,_⟩
 ·simp only [e]
 ·omega
theorem KS.fieldsS {s:SP}{v:KV} (h:KS s v){i j:Nat} (hi:i<v.cls.length) (hj:j<i) (e:Kw.upIdx v i=some j):ch v i=ch v j++(v.cls[i]).own:=by
 rw [ch,a0Q hi];simp only [e,a0b hj]
structure CI where
 name:ByteArray
 sup:ByteArray
 own:List ByteArray
 lay:Int
def cZ (v:KV) (t:TB) (i:Nat):CI:=match v.cls[i]? with
 | some c=>⟨tx t c.name,match upIdx v i with
  | some j=>match v.cls[j]? with
   | some d=>tx t d.name
   | none=>⟨#[]⟩
  | none=>⟨#[]⟩,c.own.map (tx t),c.lay⟩
 | none=>⟨⟨#[]⟩,⟨#[]⟩,[],0⟩
def dU (v:KV) (t:TB):List ByteArray:=v.glob.map fun p=>tx t p.1
end Kw
namespace Kw
open Go
def mQ (r:RH) (w:Int):Int × Int :=
 if aU w=1 then (8,0) else if aU w=2 then (9,0) else if aU w=3 then
  match r.clsAt (w / 4) with
  | (c,e)=>if e=0 then (d7 c,0) else (0,e)
 else (0,10)
theorem kr {s:SP}{v:KV} (h:KS s v):∀ i:Nat,i<v.cls.length->(ch v i).length<=8192*(i+1):=by
 intro i
 induction i using Nat.strongRecOn with
 | ind i ih =>
  intro hi;have hb:(v.cls[i]).own.length<=8192:=by have:=((h.view.own hi).bnd h.wf.h).2.2.1;simpa using this
  rcases h.upI hi with ⟨h0,_,_⟩ | ⟨j,hj,an,_,_,e⟩
  ·subst h0;rw [h.fields0 hi];omega
  ·rw [h.fieldsS hi an e,a1h]
   have:=ih j an hj;omega
end Kw
namespace Go.Proofs.YtgjfejoohojokaaGreatDoor
open Kw
theorem rc {H:au}{x v:Value}{t:TypeId}{fr:Nat × Nat}:aQ (H.push (.cells #[x] t fr)) ⟨H.size,0,none⟩ v=H.push (.cells #[v] t fr):=by
 rw [aM];rfl
theorem Fr.late {H H2:au} (h:Fr [] H H2){b o:Nat}{v:Value} (hb:H.size<=b):Fr [] H (aQ H2 ⟨b,o,none⟩ v) :=
 ⟨a0O h.1 (Fr.set (F:=[b]) (H:=H2) (a:=⟨b,o,none⟩) (v:=v) (by simp)).1,fun c hc _=>by rw [cP (by simp only;omega)];exact h.2 c hc (by simp)⟩
def PK (H:au) (b:Nat) (F:aS) (s:SP) (t:TB):Prop:=∃ sb tb F1 F2,F=b :: (F1++F2)∧b∉F1∧b∉F2∧bU F1 F2∧b≠bl∧bl∉F2 ∧
 bI H b #[QW sb,QW tb]∧ja H sb F1 s∧pY H tb F2 t
theorem PK.lt {H:au}{b:Nat}{F:aS}{s:SP}{t:TB} (h:PK H b F s t):∀ x∈F,x<H.size:=by
 obtain ⟨sb,tb,F1,F2,rfl,h1,h2,h3,k1,k2,hB,hS,hT⟩:=h;intro x hx;rcases a0E.1 hx with rfl | hx
 ·exact hB.lt
 ·rcases a0T.1 hx with hx | hx
  ·exact hS.lt x hx
  ·exact hT.lt x hx
theorem PK.bmem {H:au}{b:Nat}{F:aS}{s:SP}{t:TB} (h:PK H b F s t):b∈F:=by obtain ⟨_,_,_,_,rfl,_⟩:=h;simp
theorem PK.kinds {H:au}{b:Nat}{F:aS}{s:SP}{t:TB} (h:PK H b F s t):eM H:=by obtain ⟨_,_,_,_,_,_,_,_,_,_,_,hS,_⟩:=h;exact hS.kinds
theorem PK.gk {H:au}{b:Nat}{F:aS}{s:SP}{t:TB} (h:PK H b F s t):bl∉F:=by
 obtain ⟨sb,tb,F1,F2,rfl,h1,h2,h3,k1,k2,hB,hS,hT⟩:=h;simp only [a0E,a0T,a21];exact ⟨fun e=>k1 e.symm,hS.gk,k2⟩
theorem PK.fr {H H':au}{b:Nat}{F G:aS}{s:SP}{t:TB} (h:PK H b F s t) (hf:Fr G H H') (hd:bU F G) (hg:bl∉G):PK H' b F s t:=by
 obtain ⟨sb,tb,F1,F2,rfl,h1,h2,h3,k1,k2,hB,hS,hT⟩:=h;exact ⟨sb,tb,F1,F2,rfl,h1,h2,h3,k1,k2,hB.fr hf (hd b (by simp)),hS.fr hf (hd.mono (fun x hx=>by simp [hx]) fun _ h=>h) hg,hT.fr hf (hd.mono (fun x hx=>by simp [hx]) fun _ h=>h)⟩
theorem PK.nil {H H':au}{b:Nat}{F:aS}{s:SP}{t:TB} (h:PK H b F s t) (hf:Fr [] H H'):PK H' b F s t:=h.fr hf (bU.nil_right _) (by simp)
theorem PK.wfs {H:au}{b:Nat}{F:aS}{s:SP}{t:TB} (h:PK H b F s t):WFS s:=by obtain ⟨_,_,_,_,_,_,_,_,_,_,_,hS,_⟩:=h;exact hS.wf
theorem PK.wft {H:au}{b:Nat}{F:aS}{s:SP}{t:TB} (h:PK H b F s t):WFT t:=by obtain ⟨_,_,_,_,_,_,_,_,_,_,_,_,hT⟩:=h;exact hT.wf
theorem PK.sp {H:au}{b:Nat}{F:aS}{s:SP}{t:TB} (h:PK H b F s t):∃ sb F1,aq H ⟨b,0,none⟩=some (QW sb)∧ja H sb F1 s∧(∀ x∈F1,x∈F)∧b∉F1 ∧
  (∀ H' F1' s',ja H' sb F1' s'->Up F1 H F1' H'->∃ F',PK H' b F' s' t∧Up F H F' H')∧(∀ H' s',ja H' sb F1 s'->Fr F1 H H'->PK H' b F s' t):=by
 have an:=h.lt;have Tp:=h.kinds.lt;obtain ⟨sb,tb,F1,F2,rfl,h1,h2,h3,k1,k2,hB,hS,hT⟩:=h;refine ⟨sb,F1,hB.cell 0,hS,fun x hx=>by simp [hx],h1,fun H' F1' s' S2 hu=>⟨b :: (F1'++F2),⟨sb,tb,F1',F2,rfl,fun hx=>?_,h2,fun x hx At=>?_,k1,k2,hB.fr hu.1 h1,S2,hT.fr hu.1 h3.symm⟩,hu.1.mono fun x hx=>by simp [hx],fun x hx=>?_⟩,fun H' s' S2 hf=>⟨sb,tb,F1,F2,rfl,h1,h2,h3,k1,k2,hB.fr hf h1,S2,hT.fr hf h3.symm⟩⟩
 ·rcases hu.2 b hx with h4 | h4
  ·exact h1 h4
  ·have:=an b (by simp);omega
 ·rcases hu.2 x hx with h4 | h4
  ·exact h3 x h4 At
  ·have:=an x (by simp [At]);omega
 ·rcases a0E.1 hx with rfl | hx
  ·exact .inl (by simp)
  ·rcases a0T.1 hx with hx | hx
   ·exact (hu.2 x hx).imp (fun h4=>by simp [h4]) id
   ·exact .inl (by simp [hx])
theorem PK.tb {H:au}{b:Nat}{F:aS}{s:SP}{t:TB} (h:PK H b F s t):∃ tb F2,aq H ⟨b,1,none⟩=some (QW tb)∧pY H tb F2 t∧(∀ x∈F2,x∈F)∧b∉F2 ∧
  (∀ H' F2' t',pY H' tb F2' t'->Up F2 H F2' H'->∃ F',PK H' b F' s t'∧Up F H F' H')∧(∀ H' t',pY H' tb F2 t'->Fr F2 H H'->PK H' b F s t'):=by
 have an:=h.lt;have Tp:=h.kinds.lt;obtain ⟨sb,tb,F1,F2,rfl,h1,h2,h3,k1,k2,hB,hS,hT⟩:=h;have hgS:=hS.gk;refine ⟨tb,F2,hB.cell 1,hT,fun x hx=>by simp [hx],h2,fun H' F2' t' VZ hu=>⟨b :: (F1++F2'),⟨sb,tb,F1,F2',rfl,h1,fun hx=>?_,fun x hx At=>?_,k1,fun hx=>?_,hB.fr hu.1 h2,hS.fr hu.1 h3 k2,VZ⟩,hu.1.mono fun x hx=>by simp [hx],fun x hx=>?_⟩,fun H' t' VZ hf=>⟨sb,tb,F1,F2,rfl,h1,h2,h3,k1,k2,hB.fr hf h2,hS.fr hf h3 k2,VZ⟩⟩
 ·rcases hu.2 b hx with h4 | h4
  ·exact h2 h4
  ·have:=an b (by simp);omega
 ·rcases hu.2 x At with h4 | h4
  ·exact h3 x hx h4
  ·have:=an x (by simp [hx]);omega
 ·rcases hu.2 _ hx with h4 | h4
  ·exact k2 h4
  ·omega
 ·rcases a0E.1 hx with rfl | hx
  ·exact .inl (by simp)
  ·rcases a0T.1 hx with hx | hx
   ·exact .inl (by simp [hx])
   ·exact (hu.2 x hx).imp (fun h4=>by simp [h4]) id
abbrev rd (b:Nat):Value:=.agg #[QW b]
section
variable {H:au}{b:Nat}{F:aS}{s:SP}{t:TB}{Q:QT}
theorem lJ (hK:PK H b F s t) (h:Q (.bool true) H):ag PP 77 #[QW b] Q H:=by
 obtain ⟨sb,F1,hc,_⟩:=hK.sp;apply M0;dsimp only [aP,ah,aF,aE,cD];exact ⟨_,rfl,_,hc,h⟩
theorem tI (hK:PK H b F s t){o i:Int} (h:∀ H',Fr [] H H'->Q (ac (kslot s.h o i)) H'):ag PP 275 #[rd b,ac o,ac i] Q H:=by
 apply GK;dsimp only [aL,du,ak,aF,ac,aE,am,aJ,ax];have hf:Fr [] H (H.push (.cells #[QW b] 203)):=Fr.push _ _ _;obtain ⟨sb,F1,hc,hS,_⟩:=(hK.nil hf).sp;refine ⟨_,(bI.new _ _ _).cell 0,_,rfl,_,hc,eQ hS fun hb F2 hR _ _=>⟨_,rfl,uR hR ⟨_,_,rfl,h _ hf⟩⟩⟩
theorem sJ (hK:PK H b F s t){o i:Int} (h:∀ H',Fr [] H H'->Q (ac (kM s.h o i)) H'):ag PP 272 #[rd b,ac o,ac i] Q H:=by
 apply Kf;dsimp only [aL,aC,ak,aF,aZ,ac,am,aJ,ax];have hf:Fr [] H (H.push (.cells #[QW b] 203)):=Fr.push _ _ _;have s5:=hK.nil hf;refine ⟨_,(bI.new _ _ _).cell 0,tI s5 fun H' s7=>⟨_,rfl,kJ (s5.nil s7).kinds ?_⟩⟩
 have:=h H' (hf.trans s7);unfold kM d7 at this;unfold mr;split
 ·rename_i hk;rw [a0b hk] at this;exact ⟨_,_,rfl,this⟩
 ·rename_i hk;rw [a0a hk] at this;exact ⟨_,_,rfl,this⟩
theorem BD (hK:PK H b F s t){o i:Int} (h:∀ H',Fr [] H H'->Q (ac (tW s.h o i)) H'):ag PP 152 #[rd b,ac o,ac i] Q H:=by
 apply Gq;dsimp only [aL,aC,ak,aF,aZ,ac,am,aJ,ax];have hf:Fr [] H (H.push (.cells #[QW b] 203)):=Fr.push _ _ _;have s5:=hK.nil hf;refine ⟨_,(bI.new _ _ _).cell 0,tI s5 fun H' s7=>⟨_,rfl,qt (s5.nil s7).kinds ?_⟩⟩
 have:=h H' (hf.trans s7);unfold tW cG at this;unfold mr;split
 ·rename_i hk;rw [a0b hk] at this;exact ⟨_,_,rfl,this⟩
 ·rename_i hk;rw [a0a hk] at this;exact ⟨_,_,rfl,this⟩
theorem xD (hK:PK H b F s t){o i:Int} (h:∀ H',Fr [] H H'->Q (.string (mf s.h t o i)) H'):ag PP 273 #[rd b,ac o,ac i] Q H:=by
 apply Eb;dsimp only [aL,aC,ah,ak,eb,aF,aZ,ac,aE,am,aJ,aO,ax];have hf:Fr [] H (H.push (.cells #[QW b] 203)):=Fr.push _ _ _;have s5:=hK.nil hf;refine ⟨_,(bI.new _ _ _).cell 0,tI s5 fun H' s7=>⟨_,rfl,tX (s5.nil s7).kinds ?_⟩⟩;have Sf:=(bI.new H #[QW b] 203).fr s7 (by simp)
 have:=h H' (hf.trans s7);unfold mf yl at this;unfold mr;split
 ·rename_i hk;rw [a0b hk] at this;refine ⟨_,_,rfl,?_⟩;simp only [show ((0:Int) != 0)=false from rfl,a0f];obtain ⟨tb,F2,hc,hT,_⟩:=(s5.nil s7).tb;refine ⟨_,Sf.cell 0,_,rfl,_,hc,wq hT ?_⟩;unfold pd;by_cases an:0<=kslot s.h o i / 4∧kslot s.h o i / 4<t.texts.length
  ·rw [dif_pos an];refine ⟨_,_,rfl,?_⟩;have e:t.texts[(kslot s.h o i / 4).toNat]'(by omega)=tx t (kslot s.h o i / 4).toNat:=by
    unfold tx;rw [a1f,a0Q (by omega)];rfl
   rw [e];exact this
  ·rw [dif_neg an];refine ⟨_,_,rfl,?_⟩;have JL:=bE (kslot s.h o i);have e:tx t (kslot s.h o i / 4).toNat=⟨#[]⟩:=by
    unfold tx;rw [a1f,a2I (by omega)];rfl
   rw [e] at this;exact this
 ·rename_i hk;rw [a0a hk] at this;exact ⟨_,_,rfl,this⟩
theorem mC (hK:PK H b F s t){o:Int} (h:∀ H',Fr [] H H'->Q (ac (ksize s.h o)) H'):ag PP 271 #[rd b,ac o] Q H:=by
 apply FV;dsimp only [aL,du,bW,aF,ac,aE,am,aJ,ax];have hf:Fr [] H (H.push (.cells #[QW b] 203)):=Fr.push _ _ _;obtain ⟨sb,F1,hc,hS,_⟩:=(hK.nil hf).sp;refine ⟨_,(bI.new _ _ _).cell 0,_,rfl,_,hc,eQ hS fun hb F2 hR _ _=>⟨_,rfl,pN hR ⟨_,_,_,rfl,h _ hf⟩⟩⟩
theorem oG (hK:PK H b F s t){i:Int} (h:∀ H',Fr [] H H'->Q (ac (kM s.h 19 i)) H'):ag PP 161 #[rd b,ac i] Q H:=by
 apply Ic;dsimp only [aL,aC,aF,aZ,ac,am,aJ,ax];have hf:Fr [] H (H.push (.cells #[QW b] 203)):=Fr.push _ _ _;exact ⟨_,(bI.new _ _ _).cell 0,sJ (hK.nil hf) fun H' s7=>⟨_,rfl,h _ (hf.trans s7)⟩⟩
theorem zp (hK:PK H b F s t){o:Int} (h:∀ H',Fr [] H H'->Q (ac (if kM s.h o 1=1 then 0 else kM s.h o 1)) H'):ag PP 276 #[rd b,ac o] Q H:=by
 apply GZ;dsimp only [aL,aC,ah,aF,aZ,ac,am,aJ,ax];have hf:Fr [] H (H.push (.cells #[QW b] 203)):=Fr.push _ _ _;refine ⟨_,(bI.new _ _ _).cell 0,sJ (hK.nil hf) fun H' s7=>⟨_,rfl,?_⟩⟩
 have:=h _ (hf.trans s7);rw [bn,ae];refine aD (fun h1=>?_) fun h1=>?_
 ·rw [a0a h1] at this;exact this
 ·rw [a0b (a0v h1)] at this;exact this
def kC (r:RH) (t:TB) (o:Int):List ByteArray:=(List.range (ksize r o).toNat).map fun i:Nat=>mf r t o i
theorem Di (hK:PK H b F s t){o:Int} (h:∀ a l c G H',bZ 1 H' a l c (bC (kC s.h t o)) G->Fr [] H H'->(∀ x∈G,H.size<=x)->Q (.slice a l c) H'):ag PP 277 #[rd b,ac o] Q H:=by
 have i7:bd PP 61=some (1,16,some (.string (⟨#[]⟩:ByteArray))):=by kernel_rfl
 have Ox:=kX (r:=s.h) o;have Sb:=tF hK.wfs.h o;apply KW;dsimp only [aL,aC,eI,ah,aX,aF,aZ,ac,cL,av,bm,am,aJ,bM,aO,ax,aI];have hf:Fr [] H (H.push (.cells #[QW b] 203)):=Fr.push _ _ _;refine ⟨_,(bI.new _ _ _).cell 0,mC (hK.nil hf) fun H0 w5=>⟨_,rfl,?_⟩⟩;have R2:=(bI.new H #[QW b] 203).fr w5 (by simp);refine ⟨fun w H'=>∃(i:Nat) (a:Option Addr) (l' c:Nat) (G:aS),w=[.slice a l' c,ac i]∧(i:Int)<=ksize s.h o∧bZ 1 H' a l' c (bC ((kC s.h t o).take i)) G∧Fr [] H0 H'∧(∀ x∈G,H0.size<=x),fun w _=>match w with
  | [_,.int _ i]=>(ksize s.h o-i).toNat
  | _=>0,⟨0,none,0,0,[],rfl,Ox,by simpa [bC] using bZ.nil 1 H0,Fr.refl _ _,by simp⟩,?_⟩
 rintro w H1 ⟨i,a1,l1,c1,G,rfl,hi,ho,bw,hG⟩ _;have hlen:(kC s.h t o).length=(ksize s.h o).toNat:=by simp [kC]
 have J9:l1=i:=by have:=ho.len;simp only [bC,a1p,a1q] at this;omega
 have Jx:Fr [] H H1:=(hf.trans w5).trans bw;refine ⟨_,_,_,_,rfl,?_⟩;rw [ae];refine aD (fun an=>?_) fun an=>?_
 ·have lj:(kC s.h t o).take (i+1)=(kC s.h t o).take i++[mf s.h t o i]:=by
   rw [a1i,a0Q (by omega)];simp [kC]
  have e:IntKind.wrap .i64 ((i:Int)+1)=((i+1:Nat):Int):=by rw [ao (by omega) (by omega)];omega
  refine ⟨_,(R2.fr bw (by simp)).cell 0,xD (hK.nil Jx) fun H2 fa=>⟨_,rfl,?_⟩⟩;refine bK i7 rfl (by kernel_rfl) (ho.fr fa (by simp)) rfl (by simp [dJ]) (by omega) (by decide) (by decide) fun a' c' G2 H3 g1 g2 g3=>⟨_,_,_,rfl,?_⟩;have o3:=Up.fresh (bw.trans fa) g2 hG;rw [e];refine ⟨⟨i+1,a',l1+1,c',G2,rfl,by omega,?_,o3.1,o3.2⟩,by simp;omega⟩;rw [lj,dB];exact g1
 ·rw [a0Y (by omega)] at ho;exact h _ _ _ _ H1 ho Jx fun x hx=>a0O (hf.trans w5).1 (hG x hx)
end
section
variable {H:au}{b:Nat}{F:aS}{s:SP}{t:TB}{v:KV}{Q:QT}
theorem Dn (hK:PK H b F s t) (hv:KAllW s t v){o:Int} (h:∀ H',Fr [] H H'->Q (.bool (eR v o).isSome) H'):ag PP 361 #[rd b,ac o] Q H:=by
 have CO:=hv.ks.shape.many1;apply Dc;dsimp only [aL,aP,aC,ah,bP,aF,aZ,ac,am,aJ,ax,aI];have hf:Fr [] H (H.push (.cells #[QW b] 203)):=Fr.push _ _ _;have hB:=bI.new H #[QW b] 203;refine ⟨_,hB.cell 0,BD (hK.nil hf) fun H1 bw=>⟨_,rfl,_,(hB.fr bw (by simp)).cell 0,?_⟩⟩;have Jx:=hf.trans bw;refine oG (hK.nil Jx) fun H2 fa=>⟨_,rfl,?_⟩;rw [hv.ks.root0];have D3:=Jx.trans fa;have Da:=(hB.fr bw (by simp)).fr fa (by simp);cases hp:eR v o with
 | some i =>
  rw [hp] at h;obtain ⟨hi,he⟩:=dS hp;have hb:=(kO hv.ks hi).1;have hn:tW s.h o 6=(i:Int)+1:=by rw [←he];exact hv.ks.num hi
  rw [hn,ae,a0b (by omega),ae,a0b (by omega)];refine ⟨_,Da.cell 0,mC (hK.nil D3) fun H3 l7=>⟨_,rfl,?_⟩⟩;rw [hv.ks.size0,ae,a0b (by omega)];refine ⟨_,(Da.fr l7 (by simp)).cell 0,sJ (hK.nil (D3.trans l7)) fun H4 uH=>⟨_,rfl,?_⟩⟩;have e:IntKind.wrap .i64 ((i:Int)+1-1)=(i:Nat):=by rw [ao (by omega) (by omega)];omega
  rw [e,(hv.ks.clsAt hi).2,he]
  have:=h H4 ((D3.trans l7).trans uH);simpa using this
 | none =>
  rw [hp] at h;rw [ae];refine aD (fun h1=>?_) fun h1=>h _ D3;rw [ae];refine aD (fun h2=>?_) fun h2=>h _ D3;refine ⟨_,Da.cell 0,mC (hK.nil D3) fun H3 l7=>⟨_,rfl,?_⟩⟩;rw [hv.ks.size0,ae];refine aD (fun h3=>?_) fun h3=>h _ (D3.trans l7);refine ⟨_,(Da.fr l7 (by simp)).cell 0,sJ (hK.nil (D3.trans l7)) fun H4 uH=>⟨_,rfl,?_⟩⟩;have hi:(tW s.h o 6-1).toNat<v.cls.length:=by omega
  have e:IntKind.wrap .i64 (tW s.h o 6-1)=((tW s.h o 6-1).toNat:Nat):=by rw [ao (by omega) (by omega)];omega
  have ic:=uX hp _ hi;rw [e,(hv.ks.clsAt hi).2]
  have:=h H4 ((D3.trans l7).trans uH);rw [bq,a09 ic];exact this
theorem xh (hK:PK H b F s t) (hv:KAllW s t v){o:Int} (h1:∀ i,eR v o=some i->∀ H',Fr [] H H'->Q (.tuple #[rd b,ac 0]) H') (h2:eR v o=none->∀ H',Fr [] H H'->Q (.tuple #[.agg #[.pointer none],ac 130]) H'):ag PP 311 #[QW b,ac o] Q H:=by
 apply Ih;dsimp only [aL,bk,ah,aF,aZ,ac,am,aJ,ax,bj,bJ];have hf:Fr [] H (H.push (.cells #[.pointer none] 203)):=Fr.push _ _ _;have hB:=bI.new H #[.pointer none] 203;have s5:=hK.nil hf;generalize (H.push (.cells #[.pointer none] 203))=H1 at hf hB s5 ⊢;refine lJ s5 ⟨_,rfl,?_⟩;simp only [a0p,a0f];rw [rc];have bw:Fr [] H1 (H1.push (.cells #[QW b] 203)):=Fr.push _ _ _;have u7:=bI.new H1 #[QW b] 203;refine ⟨aY.2 (by simp),_,u7.cell 0,Dn (s5.nil bw) hv fun H2 fa=>⟨_,rfl,?_⟩⟩;have Da:=(hB.fr bw (by simp)).fr fa (by simp);have D3:=(hf.trans bw).trans fa;have Jt:∀ x,Fr [] H (aQ H2 ⟨H.size,0,none⟩ x):=fun x=>Fr.late D3 (a0U _);cases hp:eR v o with
 | none =>
  simp only [a3m,a0C,a0P];exact ⟨Da.wr (by simp),_,(Da.set 0 _).cell 0,h2 hp _ (Jt _)⟩
 | some i =>
  simp only [a3G,a0p,a0f];exact ⟨_,(u7.fr fa (by simp)).cell 0,Da.wr (by simp),_,(Da.set 0 _).cell 0,h1 i hp _ (Jt _)⟩
theorem vf (hK:PK H b F s t) (hv:KAllW s t v){o:Int} (h:∀ H',Fr [] H H'->Q (match eR v o with | some i=>.tuple #[ac ((i:Int)+1),ac 0] | none=>.tuple #[ac 0,ac 130]) H'):ag PP 307 #[QW b,ac o] Q H:=by
 apply EL;dsimp only [aL,aA,aC,ah,iZ,aF,aZ,ac,am,aJ,bj];refine xh hK hv (fun i hp H1 hf=>?_) fun hp H1 hf=>?_
 ·refine ⟨_,_,rfl,aY.2 (by simp),?_⟩;rw [hp] at h;simp only [show ((0:Int) != 0)=false from rfl,a0f];rw [rc];have bw:Fr [] H1 (H1.push (.cells #[QW b] 203)):=Fr.push _ _ _;obtain ⟨hi,he⟩:=dS hp;refine ⟨_,(bI.new H1 _ _).cell 0,BD (hK.nil (hf.trans bw)) fun H2 fa=>⟨_,rfl,?_⟩⟩;have hn:tW s.h o 6=(i:Int)+1:=by rw [←he];exact hv.ks.num hi
  rw [hn];exact h _ ((hf.trans bw).trans fa)
 ·refine ⟨_,_,rfl,aY.2 (by simp),?_⟩;rw [hp] at h;simp only [show ((130:Int) != 0)=true from rfl,a0P];rw [rc];exact h _ hf.more
theorem BN (hK:PK H b F s t) (hv:KAllW s t v){o:Int} (h:∀ H',Fr [] H H'->Q (match eR v o with | some i=>.tuple #[ac (dG v i),ac 0] | none=>.tuple #[ac 0,ac 130]) H'):ag PP 221 #[QW b,ac o] Q H:=by
 apply Dr;dsimp only [aL,aA,aC,ah,iZ,aF,aZ,ac,am,aJ,bj];refine xh hK hv (fun i hp H1 hf=>?_) fun hp H1 hf=>?_
 ·refine ⟨_,_,rfl,aY.2 (by simp),?_⟩;rw [hp] at h;simp only [show ((0:Int) != 0)=false from rfl,a0f];rw [rc];have bw:Fr [] H1 (H1.push (.cells #[QW b] 203)):=Fr.push _ _ _;obtain ⟨hi,he⟩:=dS hp;refine ⟨_,(bI.new H1 _ _).cell 0,zp (hK.nil (hf.trans bw)) fun H2 fa=>⟨_,rfl,?_⟩⟩;have hn:kM s.h o 1=(v.cls[i]).up:=by rw [←he];exact hv.ks.up hi
  have:=h _ ((hf.trans bw).trans fa);simp only [dG,a0Q hi] at this;rw [hn];exact this
 ·refine ⟨_,_,rfl,aY.2 (by simp),?_⟩;rw [hp] at h;simp only [show ((130:Int) != 0)=true from rfl,a0P];rw [rc];exact h _ hf.more
theorem vP (hK:PK H b F s t) (hv:KS s v) (h:∀ H',Fr [] H H'->Q (ac (v.cls.length:Int)) H'):ag PP 156 #[QW b] Q H:=by
 apply El;dsimp only [aL,bk,aC,ah,aF,aZ,ac,am,aJ,ax,bj];refine lJ hK ⟨_,rfl,?_⟩;simp only [a0p,a0f];rw [rc];have bw:Fr [] H (H.push (.cells #[QW b] 203)):=Fr.push _ _ _;have hB:=bI.new H #[QW b] 203;refine ⟨aY.2 (by simp),_,hB.cell 0,_,hB.cell 0,oG (hK.nil bw) fun H2 fa=>⟨_,rfl,⟨⟨(hB.fr fa (by simp)).cell 0,trivial⟩,trivial⟩,?_⟩⟩;rw [hv.root0];refine mC (hK.nil (bw.trans fa)) fun H3 l7=>⟨_,rfl,trivial,?_⟩;rw [hv.size0];exact h _ ((bw.trans fa).trans l7)
theorem GS (hK:PK H b F s t) (hv:KAllW s t v) (h:∀ H',Fr [] H H'->Q (ac (v.cls.length:Int)) H'):ag PP 156 #[QW b] Q H:=vP hK hv.ks h
theorem y9 (hK:PK H b F s t) (hv:KAllW s t v){name:ByteArray} (h:∀ H',Fr [] H H'->Q (.tuple #[ac (fy v t name).1,ac (fy v t name).2]) H'):ag PP 151 #[QW b,.string name] Q H:=by
 have CO:=hv.ks.shape.many1;apply FP;dsimp only [aL,aA,bk,aC,eI,ah,aX,aF,aZ,ac,bX,bm,am,aJ,ax,bj,aI];refine lJ hK ⟨_,rfl,?_⟩;simp only [a0p,a0f];rw [rc];have bw:Fr [] H (H.push (.cells #[QW b] 203)):=Fr.push _ _ _;have hB:=bI.new H #[QW b] 203;refine ⟨aY.2 (by simp),_,hB.cell 0,oG (hK.nil bw) fun H2 fa=>⟨_,rfl,?_⟩⟩;rw [hv.ks.root0];have D3:=bw.trans fa;have Da:=hB.fr fa (by simp);refine ⟨_,Da.cell 0,mC (hK.nil D3) fun H3 l7=>⟨_,rfl,?_⟩⟩;rw [hv.ks.size0];have J3:=D3.trans l7;have O9:=Da.fr l7 (by simp);refine ⟨fun w H'=>∃ i:Nat,w=[ac i]∧i<=v.cls.length∧Fr [] H3 H'∧∀ j (hj:j<v.cls.length),j<i->tx t (v.cls[j]).name≠name,fun w _=>match w with
  | [.int _ i]=>(v.cls.length-i).toNat
  | _=>0,⟨0,rfl,a07 _,Fr.refl _ _,fun j _ hj=>by omega⟩,?_⟩
 rintro w H4 ⟨i,rfl,hi,uH,Db⟩ _;have Sm:=J3.trans uH;have Ts:=O9.fr uH (by simp);refine ⟨_,rfl,?_⟩;rw [ae];refine aD (fun an=>?_) fun an=>?_
 ·have b9:i<v.cls.length:=by omega
  refine ⟨_,Ts.cell 0,sJ (hK.nil Sm) fun H5 JA=>⟨_,rfl,_,(Ts.fr JA (by simp)).cell 0,?_⟩⟩;rw [(hv.ks.clsAt b9).2];refine xD (hK.nil (Sm.trans JA)) fun H6 Jo=>⟨_,rfl,?_⟩;rw [hv.name b9,cV,ae];refine aD (fun he=>?_) fun he=>?_
  ·have Vk:fy v t name=((v.cls[i]).oop,0):=by
    unfold fy
    have:v.cls.findIdx? (fun c=>decide (tx t c.name=name))=some i:=by
     rw [a3c];exact ⟨b9,by simpa using he,fun j hj=>by simpa using Db j (by omega) hj⟩
    rw [this];simp [b9]
   rw [Vk] at h;exact h _ ((Sm.trans JA).trans Jo)
  ·have e:IntKind.wrap .i64 ((i:Int)+1)=((i+1:Nat):Int):=by rw [ao (by omega) (by omega)];omega
   rw [e];refine ⟨⟨i+1,rfl,by omega,(uH.trans JA).trans Jo,fun j hj JW=>?_⟩,by simp;omega⟩;rcases a2t j i with h1 | h1
   ·exact Db j hj h1
   ·have:j=i:=by omega
    subst this;exact he
 ·have Vk:fy v t name=(0,130):=by
   unfold fy
   have:v.cls.findIdx? (fun c=>decide (tx t c.name=name))=none:=by
    rw [a3r];intro c hc;obtain ⟨j,hj,rfl⟩:=hv.ks.view.idx hc;simpa using Db j hj (by omega)
   rw [this]
  rw [Vk] at h;exact h _ Sm
end
section
variable {H:au}{b:Nat}{F:aS}{s:SP}{t:TB}{v:KV}{Q:QT}
theorem tv (hK:PK H b F s t){o:Int} (h:∀ a l c G H',bZ 1 H' a l c (az (kwords s.h o)) G->Fr [] H H'->(∀ x∈G,H.size<=x)->Q (.slice a l c) H'):ag PP 160 #[rd b,ac o] Q H:=by
 have i7:bd PP 30=some (1,8,some (ac 0)):=by kernel_rfl
 have Ox:=kX (r:=s.h) o;have Sb:=tF hK.wfs.h o;apply ES;dsimp only [aL,aC,ah,aX,aF,aZ,ac,cL,av,bm,am,aJ,bM,ax,aI];have hf:Fr [] H (H.push (.cells #[QW b] 203)):=Fr.push _ _ _;refine ⟨_,(bI.new _ _ _).cell 0,mC (hK.nil hf) fun H0 w5=>⟨_,rfl,?_⟩⟩;have R2:=(bI.new H #[QW b] 203).fr w5 (by simp);refine ⟨fun w H'=>∃(i:Nat) (a:Option Addr) (l' c:Nat) (G:aS),w=[.slice a l' c,ac i]∧(i:Int)<=ksize s.h o∧bZ 1 H' a l' c (az ((kwords s.h o).take i)) G∧Fr [] H0 H'∧(∀ x∈G,H0.size<=x),fun w _=>match w with
  | [_,.int _ i]=>(ksize s.h o-i).toNat
  | _=>0,⟨0,none,0,0,[],rfl,Ox,by simpa [az] using bZ.nil 1 H0,Fr.refl _ _,by simp⟩,?_⟩
 rintro w H1 ⟨i,a1,l1,c1,G,rfl,hi,ho,bw,hG⟩ _;have hlen:(kwords s.h o).length=(ksize s.h o).toNat:=by simp [kwords]
 have J9:l1=i:=by have:=ho.len;simp only [az,a1p,a1q] at this;omega
 have Jx:Fr [] H H1:=(hf.trans w5).trans bw;refine ⟨_,_,_,_,rfl,?_⟩;rw [ae];refine aD (fun an=>?_) fun an=>?_
 ·have lj:(kwords s.h o).take (i+1)=(kwords s.h o).take i++[kslot s.h o i]:=by
   rw [a1i,a0Q (by omega)];simp [kwords]
  have e:IntKind.wrap .i64 ((i:Int)+1)=((i+1:Nat):Int):=by rw [ao (by omega) (by omega)];omega
  refine ⟨_,(R2.fr bw (by simp)).cell 0,tI (hK.nil Jx) fun H2 fa=>⟨_,rfl,?_⟩⟩;refine bK i7 rfl (by kernel_rfl) (ho.fr fa (by simp)) rfl (by simp [dJ]) (by omega) (by decide) (by decide) fun a' c' G2 H3 g1 g2 g3=>⟨_,_,_,rfl,?_⟩;have o3:=Up.fresh (bw.trans fa) g2 hG;rw [e];refine ⟨⟨i+1,a',l1+1,c',G2,rfl,by omega,?_,o3.1,o3.2⟩,by simp;omega⟩;rw [lj,bR];exact g1
 ·rw [a0Y (by omega)] at ho;exact h _ _ _ _ H1 ho Jx fun x hx=>a0O (hf.trans w5).1 (hG x hx)
theorem AY (hK:PK H b F s t) (hv:KAllW s t v) (h:∀ a l c G H',bZ 1 H' a l c (bC (dU v t)) G->Fr [] H H'->(∀ x∈G,H.size<=x)->Q (.slice a l c) H'):ag PP 270 #[QW b] Q H:=by
 have i7:bd PP 61=some (1,16,some (.string (⟨#[]⟩:ByteArray))):=by kernel_rfl
 have hg:=hv.ks.shape.globs;apply FF;dsimp only [aL,bk,aC,eI,ah,aX,aF,aZ,ac,cL,av,bm,am,aJ,bM,aO,ax,bj,aI];refine lJ hK ⟨_,rfl,?_⟩;simp only [a0p,a0f];rw [rc];have bw:Fr [] H (H.push (.cells #[QW b] 203)):=Fr.push _ _ _;have hB:=bI.new H #[QW b] 203;refine ⟨aY.2 (by simp),_,hB.cell 0,oG (hK.nil bw) fun H2 fa=>⟨_,rfl,?_⟩⟩;rw [hv.ks.root1];have D3:=bw.trans fa;have Da:=hB.fr fa (by simp);refine ⟨_,Da.cell 0,mC (hK.nil D3) fun H0 w5=>⟨_,rfl,?_⟩⟩;rw [hv.ks.size1];have VS:=D3.trans w5;have R2:=Da.fr w5 (by simp);have ed:IntKind.wrap .i64 (Int.tdiv (2*(v.glob.length:Int)) 2)=v.glob.length:=by
  rw [show Int.tdiv (2*(v.glob.length:Int)) 2=v.glob.length by rw [a2y (by omega)];omega];exact ao (by omega) (by omega)
 have hlen:(dU v t).length=v.glob.length:=by simp [dU]
 refine ⟨fun w H'=>∃(i:Nat) (a:Option Addr) (l' c:Nat) (G:aS),w=[.slice a l' c,ac i]∧i<=v.glob.length∧bZ 1 H' a l' c (bC ((dU v t).take i)) G∧Fr [] H0 H'∧(∀ x∈G,H0.size<=x),fun w _=>match w with
  | [_,.int _ i]=>(v.glob.length-i).toNat
  | _=>0,⟨0,none,0,0,[],rfl,a07 _,by simpa [bC] using bZ.nil 1 H0,Fr.refl _ _,by simp⟩,?_⟩
 rintro w H1 ⟨i,a1,l1,c1,G,rfl,hi,ho,l7,hG⟩ _;have J9:l1=i:=by have:=ho.len;simp only [bC,a1p,a1q] at this;omega
 have Jx:Fr [] H H1:=VS.trans l7;refine ⟨_,_,_,_,rfl,?_⟩;rw [ed,ae];refine aD (fun an=>?_) fun an=>?_
 ·have b9:i<v.glob.length:=by omega
  have lj:(dU v t).take (i+1)=(dU v t).take i++[tx t v.glob[i].1]:=by
   rw [a1i,a0Q (by omega)];simp [dU]
  have e:IntKind.wrap .i64 ((i:Int)+1)=((i+1:Nat):Int):=by rw [ao (by omega) (by omega)];omega
  have e2:IntKind.wrap .i64 (2*(i:Int))=((2*i:Nat):Int):=by rw [ao (by omega) (by omega)];omega
  rw [e2];refine ⟨_,(R2.fr l7 (by simp)).cell 0,xD (hK.nil Jx) fun H2 uH=>⟨_,rfl,?_⟩⟩;rw [hv.gname b9];refine bK i7 rfl (by kernel_rfl) (ho.fr uH (by simp)) rfl (by simp [dJ]) (by omega) (by decide) (by decide) fun a' c' G2 H3 g1 g2 g3=>⟨_,_,_,rfl,?_⟩;have o3:=Up.fresh (l7.trans uH) g2 hG;rw [e];refine ⟨⟨i+1,a',l1+1,c',G2,rfl,by omega,?_,o3.1,o3.2⟩,by simp;omega⟩;rw [lj,dB];exact g1
 ·rw [a0Y (by omega)] at ho;exact h _ _ _ _ H1 ho Jx fun x hx=>a0O VS.1 (hG x hx)
theorem Qu (hK:PK H b F s t) (hv:KAllW s t v){w:Int} (h:Q (.tuple #[ac (mQ s.h w).1,ac (mQ s.h w).2]) H):ag PP 220 #[QW b,ac w] Q H:=by
 apply Ix;dsimp only [aA,bk,aC,du,ah,ak,aF,ac,aE,am];unfold mQ at h;refine lJ hK ⟨_,rfl,?_⟩;simp only [a0p,a0f];refine lm hK.kinds ⟨_,rfl,?_⟩;rw [bq,bq,bq,ae];refine aD (fun h1=>?_) fun h1=>?_
 ·rw [a0b h1] at h;exact h
 rw [a0a h1] at h;rw [ae];refine aD (fun h2=>?_) fun h2=>?_
 ·rw [a0b h2] at h;exact h
 rw [a0a h2] at h;rw [ae];refine aD (fun h3=>?_) fun h3=>?_
 ·rw [a0b h3] at h;refine kJ hK.kinds ?_;unfold mr;rw [a0b h3];obtain ⟨sb,F1,hc,hS,_⟩:=hK.sp;refine ⟨_,_,rfl,_,rfl,_,hc,eQ hS fun hb F2 hR _ _=>⟨_,rfl,kU hR ?_⟩⟩;unfold RH.clsAt at h ⊢;cases ho:aT s.h.objs (w / 4) with
  | none=>rw [ho] at h;exact ⟨_,_,rfl,h⟩
  | some x =>
   rw [ho] at h;refine ⟨_,_,rfl,?_⟩;have hc:=hv.ks.gc x (aR ho).1;simp only [show ((0:Int) != 0)=false from rfl,a0f];refine kJ hK.kinds ?_;unfold mr;rw [a0b hc];refine ⟨_,_,rfl,?_⟩;simp only [d7,a0b hc] at h;exact h
 ·rw [a0a h3] at h;exact h
end
section
variable {H:au}{b:Nat}{F:aS}{s:SP}{t:TB}{v:KV}{Q:QT}
theorem xN (hv:KAllW s t v){i:Nat} (hi:i<v.cls.length):kC s.h t (v.cls[i]).ownA=(v.cls[i]).own.map (tx t):=by
 unfold kC;rw [hv.ks.ownL hi,a0j];apply a2V (by simp);intro j h1 h2;simp only [a3e,a3F];exact hv.ownT hi (by simpa using h2)
theorem vS (hv:KAllW s t v):∀ (i:Nat){H:au}{Q:QT} (hK:PK H b F s t) (hi:i<v.cls.length) (h:∀ a l c G H',bZ 1 H' a l c (bC ((ch v i).map (tx t))) G->Fr [] H H'->(∀ x∈G,H.size<=x)->Q (.slice a l c) H'),ag PP 153 #[rd b,ac (v.cls[i]).oop] Q H:=by
 intro i
 induction i using Nat.strongRecOn with
 | ind i ih =>
  intro H Q hK hi h;have i7:bd PP 61=some (1,16,some (.string (⟨#[]⟩:ByteArray))):=by kernel_rfl
  have CO:=hv.ks.shape.many1;have hb:=kO hv.ks hi;have Jz:=kr hv.ks i hi;apply zk;dsimp only [aL,aC,cq,ah,aF,aZ,ac,av,am,aJ,bM,ax];rw [bq,ae,a0a (by omega)];have hf:Fr [] H (H.push (.cells #[QW b] 203)):=Fr.push _ _ _;have hB:=bI.new H #[QW b] 203;refine ⟨_,hB.cell 0,_,hB.cell 0,_,hB.cell 0,_,hB.cell 0,zp (hK.nil hf) fun H1 bw=>⟨_,rfl,?_⟩⟩;have u7:=hB.fr bw (by simp);have Jx:=hf.trans bw;refine ⟨⟨⟨u7.cell 0,trivial⟩,⟨u7.cell 0,trivial⟩,⟨u7.cell 0,trivial⟩,trivial⟩,?_⟩;have es:(if kM s.h (v.cls[i]).oop 1=1 then 0 else kM s.h (v.cls[i]).oop 1)=dG v i:=by
   rw [hv.ks.up hi];unfold dG;rw [a0Q hi]
  rw [es];have fin:∀ (l:List Nat) (hl:ch v i=l++(v.cls[i]).own) (a:Option Addr) (n c:Nat) (G:aS) (H2:au),bZ 1 H2 a n c (bC (l.map (tx t))) G->Fr [] H1 H2->(∀ x∈G,H1.size<=x) ->
    ∃ a10 l10 c10,Value.slice a n c=.slice a10 l10 c10∧((aq H2 ⟨H.size,0,none⟩=some (QW b)∧True)∧((aq H2 ⟨H.size,0,none⟩=some (QW b)∧True)∧True))∧ag PP 272 #[rd b,ac (v.cls[i]).oop,ac 2] (fun v11 H3=>∃ n12:Int,v11=ac n12∧((aq H3 ⟨H.size,0,none⟩=some (QW b)∧True)∧True)∧ag PP 277 #[rd b,ac n12] (fun v13 H4=>∃ a14:Option Addr,∃ l14:Nat,∃ c14:Nat,v13=.slice a14 l14 c14∧True∧cB PP (Builtin.append_ #[61,61] 61 #[.slice a10 l10 c10,.slice a14 l14 c14]) (fun v15 H5=>∃ a16:Option Addr,∃ l16:Nat,∃ c16:Nat,v15=.slice a16 l16 c16∧True∧Q (.slice a16 l16 c16) H5) H4) H3) H2:=by
   intro l hl a n c G H2 ho fa hG;have Da:=u7.fr fa (by simp);refine ⟨_,_,_,rfl,⟨⟨Da.cell 0,trivial⟩,⟨Da.cell 0,trivial⟩,trivial⟩,sJ (hK.nil (Jx.trans fa)) fun H3 l7=>⟨_,rfl,⟨⟨(Da.fr l7 (by simp)).cell 0,trivial⟩,trivial⟩,?_⟩⟩;rw [hv.ks.ownO hi];refine Di (hK.nil ((Jx.trans fa).trans l7)) fun a3 l3 c3 G3 H4 Ji uH Sn=>⟨_,_,_,rfl,trivial,?_⟩;rw [xN hv hi] at Ji;have hlen:n+l3<=8192*(i+1):=by
    have h1:=ho.len;have h2:=Ji.len;rw [hl,a1h] at Jz;simp only [bC,a1p] at h1 h2;omega
   refine dz i7 rfl (by kernel_rfl) (ho.fr (l7.trans uH) (by simp)) Ji.rd sD (by omega) (by decide) (by decide) fun a' c' G4 H5 g1 g2 g3=>⟨_,_,_,rfl,trivial,?_⟩;have o3:=Up.fresh ((fa.trans l7).trans uH) g2 hG;refine h _ _ _ G4 H5 ?_ (Jx.trans o3.1) fun x hx=>a0O Jx.1 (o3.2 x hx);rw [hl,a2m,dB];exact g1
  rcases hv.ks.upI hi with ⟨h0,e0,_⟩ | ⟨j,hj,an,e0,_,e⟩
  ·rw [e0];show ag PP 153 #[rd b,ac 0] _ H1;apply zk;dsimp only [aL,aC,cq,ah,aF,aZ,ac,av,am,aJ,bM,ax];simp only [show ((0:Int) == 0)=true from rfl,a0P];subst h0;exact fin [] (by rw [hv.ks.fields0 hi];rfl) none 0 0 [] _ (by simpa [bC] using bZ.nil 1 _) (Fr.push _ _ _) (by simp)
  ·rw [e0];exact ih j an (hK.nil Jx) hj fun a n c G H2 ho fa hG=>fin (ch v j) (hv.ks.fieldsS hi an e) a n c G H2 ho fa hG
theorem AS (hK:PK H b F s t) (hv:KAllW s t v){o:Int} (h1:∀ i,eR v o=some i->∀ a l c G H',bZ 1 H' a l c (bC ((ch v i).map (tx t))) G->Fr [] H H'->(∀ x∈G,H.size<=x)->Q (.tuple #[.slice a l c,ac 0]) H')
  (h2:eR v o=none->∀ H',Fr [] H H'->Q (.tuple #[.slice none 0 0,ac 130]) H'):ag PP 308 #[QW b,ac o] Q H:=by
 apply HQ;dsimp only [aL,cq,ah,iZ,aF,aZ,ac,av,am,aJ,bj,bJ];refine xh hK hv (fun i hp H1 hf=>?_) fun hp H1 hf=>?_
 ·refine ⟨_,_,rfl,aY.2 (by simp),?_⟩;simp only [show ((0:Int) != 0)=false from rfl,a0f];rw [rc];have bw:Fr [] H1 (H1.push (.cells #[QW b] 203)):=Fr.push _ _ _;obtain ⟨hi,he⟩:=dS hp;refine ⟨_,(bI.new H1 _ _).cell 0,?_⟩;rw [←he];refine vS hv i (hK.nil (hf.trans bw)) hi fun a l c G H2 ho fa hG=>⟨_,_,_,rfl,h1 i hp _ _ _ G H2 ho ((hf.trans bw).trans fa) fun x hx=>a0O (hf.trans bw).1 (hG x hx)⟩
 ·refine ⟨_,_,rfl,aY.2 (by simp),?_⟩;simp only [show ((130:Int) != 0)=true from rfl,a0P];rw [rc];exact h2 hp _ hf.more
end
end Go.Proofs.YtgjfejoohojokaaGreatDoor
namespace Kw
open Go
def gB (s:ByteArray) (i:Nat):Nat:=(s[i]?.getD 0).toNat
theorem KD {s:ByteArray}{i:Nat}{u:UInt8} (h:s[i]?=some u):gB s i=u.toNat:=by unfold gB;rw [h];rfl
def dV (n:Nat):Prop:=(97<=n∧n<=122)∨(65<=n∧n<=90)∨(48<=n∧n<=57)
instance (n:Nat):Decidable (dV n):=inferInstanceAs (Decidable (_∨_∨_))
def jJ (lo hi:Nat) (s:ByteArray):Prop:=1<=s.size∧s.size<=32∧lo<=gB s 0∧gB s 0<=hi∧∀ i,i<s.size->dV (gB s i)
noncomputable instance (lo hi:Nat) (s:ByteArray):Decidable (jJ lo hi s):=Classical.propDecidable _
def Bc (s:ByteArray):Prop:=s=⟨#[115,101,108,102]⟩∨s=⟨#[115,117,112,101,114]⟩∨s=⟨#[110,105,108]⟩∨s=⟨#[116,114,117,101]⟩∨s=⟨#[102,97,108,115,101]⟩
instance (s:ByteArray):Decidable (Bc s):=inferInstanceAs (Decidable (_∨_))
def iV (s:ByteArray):Prop:=¬ Bc s∧jJ 97 122 s
noncomputable instance (s:ByteArray):Decidable (iV s):=Classical.propDecidable _
noncomputable instance memBA (s:ByteArray) (l:List ByteArray):Decidable (s∈l):=Classical.propDecidable _
noncomputable def qS (inh pre:List ByteArray):List ByteArray->Int
 | []=>0
 | s :: l=>if ¬ iV s then 133 else if s∈pre then 134 else if s∈inh then 135 else qS inh (pre++[s]) l
def jG (v:KV) (t:TB) (name:ByteArray):Prop:=(fy v t name).2=0∨name∈dU v t
noncomputable instance (v:KV) (t:TB) (name:ByteArray):Decidable (jG v t name):=Classical.propDecidable _
noncomputable def lD (v:KV) (t:TB) (name sup:ByteArray) (own:List ByteArray):Int × Int :=
 if ¬ jJ 65 90 name then (0,133)
 else if jG v t name then (0,131)
 else if (fy v t sup).2≠0 then (0,(fy v t sup).2)
 else match eR v (fy v t sup).1 with
  | none=>(0,130)
  | some j=>if 1<=j∧j<14 then (0,132)
   else if qS ((ch v j).map (tx t)) [] own≠0 then (0,qS ((ch v j).map (tx t)) [] own)
   else if 32<(ch v j).length+own.length then (0,137)
   else if 256<=v.cls.length then (0,138)
   else ((fy v t sup).1,0)
theorem iz (v:KV) (t:TB) (name:ByteArray):(fy v t name=(0,130)∧∀ c∈v.cls,tx t c.name≠name)∨∃ i,∃ hi:i<v.cls.length,fy v t name=((v.cls[i]).oop,0)∧tx t (v.cls[i]).name=name:=by
 unfold fy;cases hx:v.cls.findIdx? (fun c=>decide (tx t c.name=name)) with
 | none =>
  left;rw [a3r] at hx;exact ⟨rfl,fun c hc=>by simpa using hx c hc⟩
 | some i =>
  right;rw [a3c] at hx;obtain ⟨hi,h1,_⟩:=hx;exact ⟨i,hi,by simp [hi],by simpa using h1⟩
noncomputable def cY (s:SP) (v:KV) (t:TB) (name sup:ByteArray) (own:List ByteArray):(Int × Int) × SP × TB :=
 if (lD v t name sup own).2≠0 then ((0,(lD v t name sup own).2),s,t) else cU s t v.clsW name (lD v t name sup own).1 own
theorem tU {s:SP}{v:KV}{t:TB} (hv:KAllW s t v){name sup:ByteArray}{own:List ByteArray} (h:(lD v t name sup own).2=0) :
  ∃ j,∃ hj:j<v.cls.length,(lD v t name sup own).1=(v.cls[j]).oop∧v.cls.length<256∧(∀ c∈v.cls,tx t c.name≠name)∧fy v t sup=((v.cls[j]).oop,0)∧eR v (v.cls[j]).oop=some j:=by
 unfold lD at h ⊢;split at h
 ·cases h
 rename_i h1;split at h
 ·cases h
 rename_i h2;split at h
 ·rename_i h3;exact absurd h h3
 rename_i h3;rw [a0a h1,a0a h2,a0a h3];rcases iz v t sup with ⟨e,_⟩ | ⟨j,hj,e,_⟩
 ·rw [e] at h3;simp at h3
 rw [e] at h ⊢;have hp:=hv.ks.idx hj;simp only [hp] at h ⊢;split at h
 ·cases h
 rename_i h4;split at h
 ·rename_i h5;exact absurd h h5
 rename_i h5;split at h
 ·cases h
 rename_i h6;split at h
 ·cases h
 rename_i h7;rw [a0a h4,a0a h5,a0a h6,a0a h7];refine ⟨j,hj,rfl,by omega,?_,rfl,hp⟩;rcases iz v t name with ⟨_,h8⟩ | ⟨i,hi,e',_⟩
 ·exact h8
 ·exact absurd (.inl (by rw [e'])) h2
theorem vK {v:KV}{t:TB}{name sup:ByteArray}{own:List ByteArray} (h:(lD v t name sup own).2=0):own.length<=32:=by
 unfold lD at h;split at h
 ·cases h
 split at h
 ·cases h
 split at h
 ·rename_i h3;exact absurd h h3
 split at h
 ·cases h
 split at h
 ·cases h
 split at h
 ·rename_i h5;exact absurd h h5
 split at h
 ·cases h
 ·omega
end Kw
namespace Go.Proofs.YtgjfejoohojokaaGreatDoor
open Kw
theorem rk {s:ByteArray}{i:Nat} (h:i<s.size):s[i]?=some s[i]∧(s[i]).toNat=gB s i:=by
 have:s[i]?=some s[i]:=by simp [h]
 exact ⟨this,by rw [KD this]⟩
section
variable {H:au}{b:Nat}{F:aS}{s:SP}{t:TB}{v:KV}{Q:QT}
theorem yr {x:ByteArray}{lo up:Nat} (h:∀ H',Fr [] H H'->Q (.bool (decide (jJ lo up x))) H'):ag PP 149 #[.string x,.int .u8 lo,.int .u8 up] Q H:=by
 apply K8;dsimp only [aP,ah,bP,aX,bc,ac,bf,bX,bm,bM,aO,ax,jb,aI];have no:¬ jJ lo up x->∀ H',Fr [] H H'->Q (.bool false) H':=fun hn H' hf=>by have:=h H' hf;rw [a09 hn] at this;exact this
 rw [cV,ae];refine aD (fun h1=>no (fun hn=>?_) _ (Fr.refl _ _)) fun h1=>?_
 ·have:=hn.1;rw [h1] at this;exact absurd this (by decide)
 have In:0<x.size:=by
  rcases a4i x.size with h0 | h0
  ·exfalso;apply h1;obtain ⟨d⟩:=x
   have:d=#[]:=Array.eq_empty_of_size_eq_zero h0;rw [this]
  ·exact h0
 rw [ae];refine aD (fun h2=>no (fun hn=>by have:=hn.2.1;omega) _ (Fr.refl _ _)) fun h2=>?_;obtain ⟨g1,g2⟩:=rk In;refine ⟨_,⟨a1F 0,g1⟩,?_⟩;rw [g2,ae];refine aD (fun h3=>no (fun hn=>by have:=hn.2.2.1;omega) _ (Fr.refl _ _)) fun h3=>⟨_,⟨a1F 0,g1⟩,?_⟩;rw [g2,ae];refine aD (fun h4=>no (fun hn=>by have:=hn.2.2.2.1;omega) _ (Fr.refl _ _)) fun h4=>?_;refine zO (e:=5) (by kernel_rfl) (by kernel_rfl) (by kernel_rfl) fun cap H0 w5 aj=>⟨_,_,_,rfl,?_⟩;refine ⟨fun w H'=>H'=H0∧∃ i:Nat,w=[ac i]∧i<=x.size∧∀ j,j<i->dV (gB x j),fun w _=>match w with
  | [.int _ i]=>(x.size-i).toNat
  | _=>0,⟨rfl,0,rfl,a07 _,fun j hj=>by omega⟩,?_⟩
 rintro w H1 ⟨rfl,i,rfl,hi,b8⟩ _;refine ⟨_,rfl,?_⟩;rw [ae];refine aD (fun an=>?_) fun an=>?_
 ·have b9:i<x.size:=by omega
  have e:IntKind.wrap .i64 ((i:Int)+1)=((i+1:Nat):Int):=by rw [ao (by omega) (by omega)];omega
  have hc:=aj i b9;have hgb:((x[i]?.getD 0).toNat:Int)=(gB x i:Int):=rfl;rw [hgb] at hc;refine ⟨⟨by omega,an⟩,_,rfl,_,by rw [a0j,a0y,aB,a0K];exact hc,?_⟩;have go:dV (gB x i)->(True∧∃ i_1:Nat,[Value.int .i64 (IntKind.wrap .i64 ((i:Int)+1))]=[ac i_1]∧i_1<=x.size∧∀ j,j<i_1->dV (gB x j))∧((x.size:Int)-(IntKind.wrap .i64 ((i:Int)+1))).toNat<((x.size:Int)-(i:Int)).toNat:=fun ha=>by
   rw [e];refine ⟨⟨trivial,i+1,rfl,by omega,fun j hj=>?_⟩,by omega⟩;rcases a2t j i with h5 | h5
   ·exact b8 j h5
   ·have:j=i:=by omega
    rw [this];exact ha
  have bad:¬ dV (gB x i)->Q (.bool false) H1:=fun ha=>no (fun hn=>ha (hn.2.2.2.2 i b9)) _ w5;simp only [ae];refine aD (fun c1=>aD (fun c2=>aD (fun c3=>bad (by unfold dV;omega)) fun c3=>aD (fun c4=>bad (by unfold dV;omega)) fun c4=>go (by unfold dV;omega)) fun c2=>aD (fun c3=>aD (fun c4=>bad (by unfold dV;omega)) fun c4=>aD (fun c5=>bad (by unfold dV;omega)) fun c5=>go (by unfold dV;omega)) fun c3=>go (by unfold dV;omega)) fun c1=>aD (fun c2=>aD (fun c3=>aD (fun c4=>bad (by unfold dV;omega)) fun c4=>aD (fun c5=>bad (by unfold dV;omega)) fun c5=>go (by unfold dV;omega)) fun c3=>aD (fun c4=>aD (fun c5=>bad (by unfold dV;omega)) fun c5=>aD (fun c6=>bad (by unfold dV;omega)) fun c6=>go (by unfold dV;omega)) fun c4=>go (by unfold dV;omega)) fun c2=>go (by unfold dV;omega)
 ·have:i=x.size:=by omega
  subst this
  have:=h H1 w5;have WX:jJ lo up x:=⟨In,by omega,by omega,by omega,b8⟩;rw [a00 WX] at this;exact this
theorem E3 {x:ByteArray} (h:∀ H',Fr [] H H'->Q (.bool (decide (iV x))) H'):ag PP 154 #[.string x] Q H:=by
 apply ET;dsimp only [aP,bk,ah,aO,ax];have no:¬ iV x->Q (.bool false) H:=fun hn=>by have:=h H (Fr.refl _ _);rw [a09 hn] at this;exact this
 simp only [cV,ae];refine aD (fun h1=>no fun hn=>hn.1 (.inl h1)) fun h1=>aD (fun h2=>no fun hn=>hn.1 (.inr (.inl h2))) fun h2=>aD (fun h3=>no fun hn=>hn.1 (.inr (.inr (.inl h3)))) fun h3=>aD (fun h4=>no fun hn=>hn.1 (.inr (.inr (.inr (.inl h4))))) fun h4=>aD (fun h5=>no fun hn=>hn.1 (.inr (.inr (.inr (.inr h5))))) fun h5=>?_;refine yr (lo:=97) (up:=122) fun H' hf=>⟨_,rfl,?_⟩
 have:=h H' hf;have e:decide (iV x)=decide (jJ 97 122 x):=by
  rw [decide_eq_decide];unfold iV Bc;constructor
  ·exact fun h=>h.2
  ·exact fun hn=>⟨fun h=>by rcases h with h | h | h | h | h <;> contradiction,hn⟩
 rw [e] at this;exact this
theorem mz {a:Option Addr}{l c:Nat}{xs:List ByteArray}{x:ByteArray} (hk:Rd 1 H a l (bC xs)) (I6:l<=1000000000000000) (h:Q (.bool (decide (x∈xs))) H):ag PP 155 #[.slice a l c,.string x] Q H:=by
 have hl:l=xs.length:=by have:=hk.1;simpa [bC] using this.symm
 apply E2;dsimp only [aP,aC,av,aO];apply Fm;dsimp only [ah,aX,cX,bc,ac,bf,bX,bm,aI];refine ⟨fun w H'=>H'=H∧∃ i:Nat,w=[ac i]∧i<=l∧∀ j (hj:j<xs.length),j<i->xs[j]≠x,fun w _=>match w with
  | [.int _ i]=>(l-i).toNat
  | _=>0,⟨rfl,0,rfl,a07 _,fun j _ hj=>by omega⟩,?_⟩
 rintro w H1 ⟨rfl,i,rfl,hi,b8⟩ _;refine ⟨_,rfl,?_⟩;rw [ae];refine aD (fun an=>?_) fun an=>?_
 ·obtain ⟨p,be,rfl,aj⟩:=hk.str (i:=(i:Int)) (by omega) an;simp only [a0j] at aj be;have e:IntKind.wrap .i64 ((i:Int)+1)=((i+1:Nat):Int):=by rw [ao (by omega) (by omega)];omega
  refine ⟨⟨by omega,an⟩,_,rfl,_,by rw [a0j,a0y];exact aj,?_⟩;rw [cV,ae];refine aD (fun he=>⟨_,rfl,?_⟩) fun he=>?_
  ·rw [a00 (show x∈xs by rw [he];exact a04 _)] at h;rw [a00 (show (i:Int) ≥ 0 by omega)];exact h
  ·rw [e];refine ⟨⟨rfl,i+1,rfl,by omega,fun j hj JW=>?_⟩,by simp;omega⟩;rcases a2t j i with h5 | h5
   ·exact b8 j hj h5
   ·have:j=i:=by omega
    subst this;exact fun e=>he e.symm
 ·refine ⟨_,rfl,?_⟩
  have:x∉xs:=fun hm=>by
   obtain ⟨j,hj,he⟩:=a2O hm;exact b8 j hj (by omega) he
  rw [a09 this] at h;exact h
theorem Gg (hK:PK H b F s t) (hv:KAllW s t v){name:ByteArray} (h:∀ H',Fr [] H H'->Q (.bool (decide (jG v t name))) H'):ag PP 150 #[QW b,.string name] Q H:=by
 have hg:=hv.ks.shape.globs;apply DB;dsimp only [aP,bk,cq,ah,ak,av,am,aO];refine y9 hK hv fun H1 bw=>⟨_,_,rfl,?_⟩;rw [bq,ae];refine aD (fun h1=>?_) fun h1=>?_
 ·have:=h H1 bw;rw [a00 (show jG v t name from .inl h1)] at this;exact this
 ·refine AY (hK.nil bw) hv fun a l c G H2 ho fa hG=>⟨_,_,_,rfl,mz ho.rd ?_ ⟨_,rfl,?_⟩⟩
  ·have:=ho.len;simp only [bC,dU,a1p] at this;omega
  ·have:=h H2 (bw.trans fa);have e:decide (jG v t name)=decide (name∈dU v t):=by
    rw [decide_eq_decide];unfold jG;exact ⟨fun h=>h.resolve_left h1,.inr⟩
   rw [e] at this;exact this
theorem vt (hK:PK H b F s t) (hv:KAllW s t v){name sup:ByteArray}{a:Option Addr}{l c:Nat}{own:List ByteArray} (hk:Rd 1 H a l (bC own)) (hlc:l<=c) (I6:l<=1000000000000000)
  (h:∀ H',Fr [] H H'->Q (.tuple #[ac (lD v t name sup own).1,ac (lD v t name sup own).2]) H'):ag PP 78 #[QW b,.string name,.string sup,.slice a l c] Q H:=by
 have CO:=hv.ks.shape.many1;have hl:l=own.length:=by have:=hk.1;simpa [bC] using this.symm
 apply N6;dsimp only [aL,aA,bk,aC,cq,ah,ak,bP,aX,aF,cX,bc,aZ,ac,bf,mS,bX,av,bm,am,aJ,aO,ax,bj,aI];unfold lD at h;refine yr (lo:=65) (up:=90) fun H1 bw=>⟨_,rfl,?_⟩;rw [←decide_not,ae];refine aD (fun h1=>?_) fun h1=>?_
 ·rw [a0b h1] at h;exact h H1 bw
 rw [a0a h1] at h;refine Gg (hK.nil bw) hv fun H2 fa=>⟨_,rfl,?_⟩;have D3:=bw.trans fa;rw [ae];refine aD (fun h2=>?_) fun h2=>?_
 ·rw [a0b h2] at h;exact h H2 D3
 rw [a0a h2] at h;refine y9 (hK.nil D3) hv fun H3 l7=>⟨_,_,rfl,?_⟩;have J3:=D3.trans l7;rw [bn,ae];refine aD (fun h3=>?_) fun h3=>?_
 ·rw [a0b h3] at h;exact h H3 J3
 rw [a0a h3] at h;rcases iz v t sup with ⟨e,_⟩ | ⟨j,hj,e,_⟩
 ·rw [e] at h3;simp at h3
 have Jz:=kr hv.ks j hj;rw [e] at h ⊢;simp only [hv.ks.idx hj] at h;rw [rc];have uH:Fr [] H3 (H3.push (.cells #[QW b] 203)):=Fr.push _ _ _;have hB:=bI.new H3 #[QW b] 203;have Sm:=J3.trans uH;generalize (H3.push (.cells #[QW b] 203))=H4 at uH hB Sm ⊢;have hW:Wr (H3.push (.cells #[.pointer none] 203)) ⟨H3.size,0,none⟩:=aY.2 (by simp);refine ⟨hW,fun w H'=>w=[]∧Fr [] H4 H'∧¬ (1<=j∧j<14),⟨_,hB.cell 0,BD (hK.nil Sm) fun H5 JA=>⟨_,rfl,?_⟩⟩,?_⟩
 ·rw [hv.ks.num hj,ae];refine aD (fun h4=>?_) fun h4=>⟨rfl,JA,by omega⟩;rw [ae];refine aD (fun h5=>?_) fun h5=>⟨rfl,JA,by omega⟩;rw [a0b (by omega)] at h;exact h H5 (Sm.trans JA)
 rintro w H5 ⟨rfl,JA,h4⟩ _;rw [a0a h4] at h;have hF5:=Sm.trans JA;refine ⟨rfl,_,(hB.fr JA (by simp)).cell 0,vS hv j (hK.nil hF5) hj fun a6 l6 c6 G H6 R4 Jo hG=>⟨_,_,_,rfl,?_⟩⟩;have Tw:=hF5.trans Jo;have SF:l6=(ch v j).length:=by have:=R4.len;simpa [bC] using this.symm
 refine ⟨fun w H'=>∃ i:Nat,w=[ac i]∧i<=l∧Fr [] H6 H'∧qS ((ch v j).map (tx t)) (own.take i) (own.drop i)=qS ((ch v j).map (tx t)) [] own,fun w _=>match w with
  | [.int _ i]=>(l-i).toNat
  | _=>0,⟨0,rfl,a07 _,Fr.refl _ _,by simp⟩,?_⟩
 rintro w H7 ⟨i,rfl,hi,J7,fb⟩ _;have Vl:=Tw.trans J7;refine ⟨_,rfl,?_⟩;rw [ae];refine aD (fun an=>?_) fun an=>?_
 ·have b9:i<own.length:=by omega
  obtain ⟨p,be,rfl,aj⟩:=(hk.fr' Vl (by simp)).str (i:=(i:Int)) (by omega) an;simp only [a0j] at aj be;have e1:IntKind.wrap .i64 ((i:Int)+1)=((i+1:Nat):Int):=by rw [ao (by omega) (by omega)];omega
  have ed:own.drop i=own[i] :: own.drop (i+1):=a1S b9;have et:own.take (i+1)=own.take i++[own[i]]:=by rw [a1i];simp [b9]
  rw [ed] at fb;rw [qS] at fb;refine ⟨⟨by omega,an⟩,_,rfl,_,by rw [a0j,a0y];exact aj,E3 fun H8 Oz=>⟨_,rfl,?_⟩⟩;rw [←decide_not,ae];refine aD (fun h5=>?_) fun h5=>?_
  ·rw [a0b h5] at fb;rw [a0b (by rw [←fb];decide),←fb] at h;exact h H8 (Vl.trans Oz)
  rw [a0a h5] at fb;have hF8:=Vl.trans Oz;refine ⟨⟨by omega,by omega⟩,mz (xs:=own.take i) ?_ (by simp;omega) ⟨_,rfl,?_⟩⟩
  ·have:=hk.fr' hF8 (by simp);refine ⟨by simp [bC];omega,(fun hn=>by cases hn),fun q hq k JL=>?_⟩;rw [a0j] at JL;have h6:=this.2.2 q hq k (by omega);rw [h6];simp only [bC,a2s];rw [a27 (by omega)]
  rw [ae];refine aD (fun h6=>?_) fun h6=>?_
  ·rw [a0b h6] at fb;rw [a0b (by rw [←fb];decide),←fb] at h;exact h H8 hF8
  rw [a0a h6] at fb;refine mz ((R4.fr J7 (by simp)).fr Oz (by simp)).rd (by omega) ⟨_,rfl,?_⟩;rw [ae];refine aD (fun h7=>?_) fun h7=>?_
  ·rw [a0b h7] at fb;rw [a0b (by rw [←fb];decide),←fb] at h;exact h H8 hF8
  rw [a0a h7] at fb;rw [e1];exact ⟨⟨i+1,rfl,by omega,J7.trans Oz,by rw [et];exact fb⟩,by simp;omega⟩
 ·have ui:i=own.length:=by omega
  rw [ui,a3l] at fb;have h0:qS ((ch v j).map (tx t)) [] own=0:=by rw [←fb];rfl
  rw [a0a (by rw [h0];decide)] at h;have ew:IntKind.wrap .i64 ((l6:Int)+(l:Int))=(l6:Int)+l:=ao (by omega) (by omega);rw [ew,ae];refine aD (fun h5=>?_) fun h5=>?_
  ·rw [a0b (by omega)] at h;exact h H7 Vl
  rw [a0a (by omega)] at h;refine GS (hK.nil Vl) hv fun H8 Oz=>⟨_,rfl,?_⟩;rw [ae];refine aD (fun h6=>?_) fun h6=>?_
  ·rw [a0b (by omega)] at h;exact h H8 (Vl.trans Oz)
  rw [a0a (by omega)] at h;exact h H8 (Vl.trans Oz)
end
structure PM (H:au) (mb b:Nat) (F:aS) (s:SP) (t:TB) (cnt mk kp:Int):Prop where
 k:PK H b F s t
 m:bI H mb #[QW b,ac cnt,ac mk,ac kp]
 out:mb∉F
theorem Up.out {F F':aS}{H H':au} (h:Up F H F' H'){x:Nat} (hx:x∉F) (hl:x<H.size):x∉F':=fun hm=>by
 rcases h.2 x hm with h1 | h1
 ·exact hx h1
 ·omega
theorem PM.up {H H':au}{mb b:Nat}{F F':aS}{s s':SP}{t t':TB}{cnt mk kp:Int} (h:PM H mb b F s t cnt mk kp) (hk:PK H' b F' s' t') (hu:Up F H F' H'):PM H' mb b F' s' t' cnt mk kp :=
 ⟨hk,h.m.fr hu.1 h.out,Up.out hu h.out h.m.lt⟩
theorem PM.nil {H H':au}{mb b:Nat}{F:aS}{s:SP}{t:TB}{cnt mk kp:Int} (h:PM H mb b F s t cnt mk kp) (hf:Fr [] H H'):PM H' mb b F s t cnt mk kp:=⟨h.k.nil hf,h.m.fr hf (by simp),h.out⟩
theorem Up.of_nil {F:aS}{H H':au} (h:Fr [] H H'):Up F H F H':=⟨Kw.Fr.of_nil h,fun _ h=>.inl h⟩
theorem yw {r:RH} (k i w j:Int){y:RO} (h:aT (r.put k i w).2.objs j=some y):∃ x,aT r.objs j=some x∧y.fmt=x.fmt:=by
 unfold RH.put at h;split at h
 ·exact ⟨y,h,rfl⟩
 split at h
 ·exact ⟨y,h,rfl⟩
 split at h
 ·exact ⟨y,h,rfl⟩
 ·simp only at h;rw [dH (f:=d8 i w) (fun o=>rfl)] at h;cases hx:aT r.objs j with
  | none=>rw [hx] at h;cases h
  | some x =>
   rw [hx] at h;simp only [a2Q,Option.some.injEq] at h;refine ⟨x,rfl,?_⟩;rw [←h];split <;> rfl
section
variable {H:au}{mb b:Nat}{F:aS}{s:SP}{t:TB}{v:KV}{cnt mk kp:Int}{Q:QT}
theorem sk (hM:PM H mb b F s t cnt mk kp){x:ByteArray} (h:∀ H' F',PM H' mb b F' s (t.add x).2 cnt mk kp->Up F H F' H'->Q (.tuple #[ac (if (t.add x).1.2=0 then 4*(t.add x).1.1+2 else 0),ac (t.add x).1.2]) H'):ag PP 157 #[QW mb,.string x] Q H:=by
 apply GW;dsimp only [aA,ah,ak,aF,ac,aE,am,aO];obtain ⟨tb,F2,hc,hT,ff,Of,s6,_⟩:=hM.k.tb;refine ⟨_,rfl,_,hM.m.cell 0,_,rfl,_,hc,tA hT fun H1 F1 hT1 JT=>⟨_,_,rfl,?_⟩⟩;obtain ⟨F',w8,SG⟩:=s6 H1 F1 _ hT1 JT;have Oo:=hM.up w8 SG;rw [bn,ae];refine aD (fun h1=>?_) fun h1=>?_
 ·have:=h _ _ Oo SG;rw [a0a h1] at this;exact this
 ·have hz:(t.add x).1.2=0:=a0v h1;obtain ⟨n,e1,e2,_⟩:=kH x hz;have hw:=w8.wft;have h2:=(ge e2).2;have h3:=hw.m1;have h4:=hw.len;rw [e1];refine CS ⟨by omega,by omega⟩ ⟨_,_,rfl,?_⟩
  have:=h _ _ Oo SG;rw [a0b hz,e1,hz] at this;exact this
theorem yO (hM:PM H mb b F s t cnt mk kp){cls:Int} (J1:1<=cls∧cls<=65536){a:Option Addr}{l c:Nat}{ws:List Int} (hk:Rd 1 H a l (az ws)) (hd:∀ p,a=some p->p.block∉F) (I6:l<=1000000000)
  (h:∀ H' F',PM H' mb b F' (s.make cls ws).2 t cnt mk kp->Up F H F' H'->Q (.tuple #[ac (s.make cls ws).1.1,ac (s.make cls ws).1.2]) H'):ag PP 159 #[QW mb,ac cls,.slice a l c] Q H:=by
 have hl:l=ws.length:=by have:=hk.1;simpa [az] using this.symm
 apply K7;dsimp only [aL,aA,aC,du,ah,ak,aX,ay,aF,bc,ac,bf,bX,av,bm,aE,am,aJ,aI];unfold SP.make at h;obtain ⟨sb,F1,hc,hS,ff,Of,_,s6⟩:=hM.k.sp;refine ⟨_,rfl,_,hM.m.cell 0,_,rfl,_,hc,eN J1 ⟨_,rfl,⟨⟨hc,trivial⟩,⟨hM.m.cell 0,trivial⟩,trivial⟩,?_⟩⟩;rw [hl];refine jZ hS fun H1 Om bw=>⟨_,_,rfl,trivial,?_⟩;have Vm:=bw.mono ff;have SG:Up F H F H1:=⟨Vm,fun _ h=>.inl h⟩;have Oo:=hM.up (s6 H1 _ Om bw) SG;have hd':=hk.fr' Vm hd;rw [bn,ae];refine aD (fun h1=>?_) fun h1=>?_
 ·rw [a0b h1] at h;exact h _ _ Oo SG
 rw [a0a h1] at h;have hz:(s.alloc (4*cls) ws.length 0).1.2=0:=a0v h1;obtain ⟨o,e1,o1,o2,_,_,Vf,_⟩:=ox hM.k.wfs hz;rw [a0b hz];rw [e1] at h ⊢;have e2:4*o / 4=o:=by omega
 rw [e2] at h;generalize (s.alloc (4*cls) ws.length 0).2=s1 at *;have TE:aU (4*o)=3:=by have:=bE (4*o);omega
 refine kJ Oo.k.kinds ?_;unfold mr;rw [a0b TE];simp only [e2];refine ⟨_,_,rfl,?_⟩;refine ⟨fun w H'=>∃(i:Nat) (r:RH),w=[ac i]∧i<=ws.length∧PM H' mb b F { s1 with h:=r } t cnt mk kp∧Fr F H1 H'∧r.lay o i (ws.drop i)=s1.h.lay o 0 ws∧∀ x,aT r.objs o=some x->x.fmt=0,fun w _=>match w with
  | [.int _ i]=>(ws.length-i).toNat
  | _=>0,⟨0,s1.h,rfl,a07 _,Oo,Fr.refl _ _,rfl,fun x hx=>by obtain ⟨y,h2,h3,_⟩:=Vf;rw [h2] at hx;cases hx;exact h3⟩,?_⟩
 rintro w H4 ⟨i,r,rfl,hi,Rq,uH,D4,S3⟩ _;refine ⟨_,rfl,?_⟩;rw [ae];refine aD (fun an=>?_) fun an=>?_
 ·obtain ⟨p,rfl,aj,be⟩:=(hd'.fr' uH hd).int (i:=(i:Int)) (by omega) (by omega);rw [a0j] at aj be;have hx:ws.getD i 0=ws[i]:=by simp [be]
  rw [hx] at aj;have ed:ws.drop i=ws[i] :: ws.drop (i+1):=a1S be;have e:IntKind.wrap .i64 ((i:Int)+1)=((i+1:Nat):Int):=by rw [ao (by omega) (by omega)];omega
  obtain ⟨sb4,F4,Rr,Tq,O0,_,_,O1⟩:=Rq.k.sp;refine ⟨⟨by omega,an⟩,_,rfl,_,by rw [a0j,a0y];exact aj,_,rfl,_,Rq.m.cell 0,_,rfl,_,Rr,eQ Tq fun hb F5 hR Oi RJ=>⟨_,rfl,rz hR S3 fun H6 SA Jo=>⟨_,rfl,?_⟩⟩⟩;have WY:=RJ H6 _ SA Jo;have SH:=O1 H6 _ WY (Jo.mono Oi);have WZ:Fr F H4 H6:=(Jo.mono Oi).mono O0;have hM6:=Rq.up SH ⟨WZ,fun _ h=>.inl h⟩;rw [e];refine ⟨⟨i+1,(r.put o i ws[i]).2,rfl,by omega,hM6,uH.trans WZ,?_,fun x hx=>?_⟩,by simp;omega⟩
  ·rw [←D4,ed];simp only [RH.lay]
   congr 1
   all_goals omega
  ·obtain ⟨y,h2,h3⟩:=yw o i ws[i] o hx;rw [h3];exact S3 y h2
 ·have ui:i=ws.length:=by omega
  subst ui;rw [a3l] at D4;simp only [RH.lay] at D4;rw [D4] at Rq;obtain ⟨sb4,F4,Rr,Tq,O0,_,O1,_⟩:=Rq.k.sp;refine ⟨_,rfl,_,Rq.m.cell 0,_,rfl,_,Rr,?_⟩;have fp:Fr [] H4 (H4.push (.cells #[ac (4*o)] 26)):=Fr.push _ _ _;have Zv:=Rq.nil fp;obtain ⟨sb5,F5,JB,hS5,Oi,_,RJ,_⟩:=Zv.k.sp;have R1:sb5=sb4:=by
   have:aq (H4.push (.cells #[ac (4*o)] 26)) ⟨b,0,none⟩=aq H4 ⟨b,0,none⟩:=eD (Rq.k.lt b Rq.k.bmem);rw [this,Rr] at JB;simpa using JB.symm
  subst R1;refine rj hS5 (ws:=[4*o]) ?_ (by omega) fun H7 F7 W2 S4=>⟨_,rfl,?_⟩
  ·refine ⟨rfl,(fun h=>by cases h),fun p hp k hk=>?_⟩;cases hp
   have:k=0:=by omega
   subst this;rw [aB];exact (bI.new H4 _ _).cell 0
  ·obtain ⟨F',RL,W3⟩:=RJ H7 F7 _ W2 S4;have hM7:=Zv.up RL W3;exact h H7 F' hM7 ((SG.trans ⟨uH,fun _ h=>.inl h⟩).trans ((Up.of_nil fp).trans W3))
theorem vO (hM:PM H mb b F s t cnt mk kp){a:Option Addr}{l c:Nat}{ws:List Int} (hk:Rd 1 H a l (az ws)) (hd:∀ p,a=some p->p.block∉F) (I6:l<=1000000000)
  (h:∀ H' F',PM H' mb b F' (s.array ws).2 t cnt mk kp->Up F H F' H'->Q (.tuple #[ac (s.array ws).1.1,ac (s.array ws).1.2]) H'):ag PP 158 #[QW mb,.slice a l c] Q H:=by
 have hl:l=ws.length:=by have:=hk.1;simpa [az] using this.symm
 apply Hq;dsimp only [aA,aC,ah,ak,ac,av,am];unfold SP.array at h;rw [bq,ae];refine aD (fun h0=>?_) fun h0=>?_
 ·have:ws=[]:=a1o (by omega);rw [a0b this] at h;exact eN (by decide) ⟨_,rfl,h H F hM (Up.refl _ _)⟩
 ·have:ws≠[]:=fun e=>h0 (by rw [hl,e];rfl);rw [a0a this] at h;exact yO hM (by decide) hk hd I6 fun H' F' Oo hu=>⟨_,_,rfl,h H' F' Oo hu⟩
end
def rM (H:au) (a:Option Addr) (F:aS):Prop:=∀ p,a=some p->p.block<H.size∧p.block∉F
theorem rM.up {H H':au}{a:Option Addr}{F F':aS} (h:rM H a F) (hu:Up F H F' H'):rM H' a F':=fun p hp=>⟨a0X (h p hp).1 hu.1.1,Up.out hu (h p hp).2 (h p hp).1⟩
theorem rM.rd {H H':au}{a:Option Addr}{F F':aS}{l:Nat}{ys:List Value} (h:rM H a F) (hu:Up F H F' H') (hk:Rd 1 H a l ys):Rd 1 H' a l ys:=hk.fr' hu.1 fun p hp=>(h p hp).2
def ou (H:au) (a:Option Addr) (l:Nat) (F:aS):Prop:=l=0∨rM H a F
theorem ou.up {H H':au}{a:Option Addr}{l:Nat}{F F':aS} (h:ou H a l F) (hu:Up F H F' H'):ou H' a l F':=h.imp id fun h=>h.up hu
theorem ou.rd {H H':au}{a:Option Addr}{F F':aS}{l:Nat}{ys:List Value} (h:ou H a l F) (hu:Up F H F' H') (hk:Rd 1 H a l ys):Rd 1 H' a l ys:=by
 rcases h with h | h
 ·subst h;exact ⟨hk.1,hk.2.1,fun p _ i hi=>by simp at hi⟩
 ·exact h.rd hu hk
theorem bZ.out {H:au}{a:Option Addr}{l c:Nat}{xs:List Value}{F G:aS} (h:bZ 1 H a l c xs G) (hd:bU G F):rM H a F:=fun p hp=>by
 have an:=h.lt;rcases h.2.2 with ⟨h1,_⟩ | ⟨b',cs,h1,rfl,_⟩
 ·rw [h1] at hp;cases hp
 ·rw [h1] at hp;cases hp;exact ⟨an _ (by simp),hd _ (by simp)⟩
theorem cM {F:aS}{H H':au}{b o:Nat} (hf:Fr F H H') (hb:b∉F) (hl:b<H.size):aq H' ⟨b,o,none⟩=aq H ⟨b,o,none⟩:=by
 unfold aq;rw [hf.2 b hl hb]
theorem jm {H:au}{cs:List Int}{t:TypeId}:Rd 1 (H.push (.cells (az cs).toArray t)) (some ⟨H.size,0,none⟩) cs.length (az cs):=by
 refine ⟨by simp [az],(fun h=>by cases h),fun p hp k hk=>?_⟩;cases hp;rw [aB,a0K,(bI.new H _ _).cell];simp
section
variable {H:au}{mb b:Nat}{F:aS}{s:SP}{t:TB}{v:KV}{cnt mk kp:Int}{Q:QT}
theorem KX (hK:PK H b F s t) (h:∀ H' mb,PM H' mb b F s t t.texts.length s.h.mark s.stack.length->Fr [] H H'->Q (QW mb) H'):ag PP 79 #[QW b] Q H:=by
 apply Mv;dsimp only [aL,aC,cq,du,aF,ac,aE,am,aJ,ax];obtain ⟨tb,F2,w7,hT,_⟩:=hK.tb;obtain ⟨sb,F1,hc,hS,_⟩:=hK.sp;refine ⟨_,rfl,_,w7,_,rfl,_,hc,_,rfl,_,hc,AW hT ⟨_,rfl,⟨⟨hc,trivial⟩,⟨hc,trivial⟩,trivial⟩,eQ hS fun hb F3 hR _ _=>⟨_,rfl,⟨⟨hc,trivial⟩,trivial⟩,ss hR ⟨_,rfl,⟨⟨hc,trivial⟩,trivial⟩,?_⟩⟩⟩⟩;refine rH hS fun a c H1 _ hf=>⟨_,_,_,rfl,trivial,trivial,?_⟩;have fa:=hf.more (o:=.cells #[QW b,ac (t.texts.length:Int),ac s.h.mark,ac (s.stack.length:Int)] 207);refine h _ H1.size ⟨hK.nil fa,bI.new _ _ _,fun hm=>?_⟩ fa
 have:=(hK.nil hf).lt _ hm;omega
theorem Pq (hM:PM H mb b F s t cnt mk kp) (VN:0<=kp∧kp<=1000000){e:Int} (h:∀ H',PK H' b F (pA s t mk cnt kp e).1 (pA s t mk cnt kp e).2->Fr F H H'->Q (ac e) H'):ag PP 81 #[QW mb,ac e] Q H:=by
 have Jp:=hM.k.wfs.many;apply Nn;dsimp only [aC,cq,du,ah,ay,aF,ac,aE,am,aI];unfold pA at h;obtain ⟨sb,F1,hc,hS,ff,TV,_,s6⟩:=hM.k.sp;refine ⟨_,rfl,_,hM.m.cell 0,_,rfl,_,hc,_,rfl,_,hM.m.cell 3,rH hS fun a c H1 _ hf=>⟨_,_,_,rfl,⟨⟨(hM.m.fr hf (by simp)).cell 3,trivial⟩,trivial⟩,?_⟩⟩;have ew:IntKind.wrap .i64 ((s.stack.length:Int)-kp)=(s.stack.length:Int)-kp:=ao (by omega) (by omega);rw [ew];refine qk (hS.nilfr hf) ⟨by omega,by omega⟩ fun H2 J2 fa=>⟨_,rfl,trivial,?_⟩;have yB:Fr F1 H H2:=hf.of_nil.trans fa;have Vm:Fr F H H2:=yB.mono ff;have Ow:=hM.up (s6 H2 _ J2 yB) ⟨Vm,fun _ h=>.inl h⟩;rw [bq,ae];refine aD (fun h1=>?_) fun h1=>?_
 ·rw [a0b h1] at h;exact h H2 Ow.k Vm
 rw [a0a h1] at h;obtain ⟨tb,F3,JO,hT,JJ,Jh,_,Oy⟩:=Ow.k.tb;refine ⟨_,rfl,_,Ow.m.cell 0,_,rfl,_,JO,_,rfl,_,Ow.m.cell 1,B4 hT fun H3 Vn l7=>⟨_,rfl,trivial,?_⟩⟩;have Vo:Fr F H2 H3:=l7.mono JJ;have OL:=Ow.up (Oy H3 _ Vn l7) ⟨Vo,fun _ h=>.inl h⟩;rw [bn,ae];refine aD (fun h2=>?_) fun h2=>?_
 ·rw [a0a h2] at h;obtain ⟨sb4,F4,Rr,Tq,O0,_,_,O1⟩:=OL.k.sp;have R1:sb4=sb:=by
   have D0:=hM.k.lt b hM.k.bmem;have e1:aq H3 ⟨b,0,none⟩=some (QW sb):=by
    rw [cM l7 Jh (a0X D0 yB.1),cM yB TV D0,hc]
   rw [Rr] at e1;simpa using e1
  subst R1;refine ⟨_,rfl,_,OL.m.cell 2,eQ Tq fun hb F5 hR Oi RJ=>⟨_,rfl,⟨⟨OL.m.cell 2,trivial⟩,trivial⟩,Cx hR fun H5 W4 JA=>⟨_,rfl,trivial,?_⟩⟩⟩;have hS5:=RJ H5 _ W4 JA;have Rs:=O1 H5 _ hS5 (JA.mono Oi)
  have:=h H5 ?_ ((Vm.trans Vo).trans ((JA.mono Oi).mono O0))
  ·exact this
  ·have ed:(s.drop ((s.stack.length:Int)-kp)).2.h=s.h:=by unfold SP.drop;split <;> rfl
   simp only [ed] at Rs;exact Rs
 ·have Uq:e=24:=a0v h2;rw [a0b Uq] at h;refine h H3 ?_ (Vm.trans Vo);have ed:(s.drop ((s.stack.length:Int)-kp)).2.h=s.h:=by unfold SP.drop;split <;> rfl
  have I4:=OL.k;generalize (s.drop ((s.stack.length:Int)-kp)).2=s' at *;cases s';simp only at ed;subst ed;exact I4
theorem KS.words {s:SP}{v:KV} (h:KS s v):kwords s.h v.clsA=v.clsW:=h.view.all.kwords
theorem oq {H0:au} (hM:PM H0 mb b F s t cnt mk kp) (hf:Fr [] H0 H){a a2:Option Addr}{l c c2 l2:Nat}{G:aS}{ws xs:List Int}{Q:QT} (ho:bZ 1 H a l c (az ws) G) (hG:∀ x∈G,H0.size<=x) (Do:ws.length<=8192) (h2:Rd 1 H a2 l2 (az xs)) (UR:l2<=8192)
  (h:∀ H' F',PM H' mb b F' (s.array (ws++xs)).2 t cnt mk kp->Up F H0 F' H'->Q (.tuple #[ac (s.array (ws++xs)).1.1,ac (s.array (ws++xs)).1.2]) H') :
  cB PP (Builtin.append_ #[30,30] 30 #[.slice a l c,.slice a2 l2 c2]) (fun v H'=>∃ a3:Option Addr,∃ l3:Nat,∃ c3:Nat,v=.slice a3 l3 c3∧True∧ag PP 158 #[QW mb,.slice a3 l3 c3] Q H') H:=by
 have i7:bd PP 30=some (1,8,some (ac 0)):=by kernel_rfl
 have hl:l=ws.length:=by have:=ho.len;simpa [az] using this.symm
 have an:=hM.k.lt;refine dz i7 rfl (by kernel_rfl) ho h2 fO (by omega) (by decide) (by decide) fun a' c' G' H' g1 g2 g3=>⟨_,_,_,rfl,trivial,?_⟩;obtain ⟨s7,W5⟩:=Up.fresh hf g2 hG;have xB:rM H' a' F:=bZ.out g1 fun x hx hm=>by have:=W5 x hx;have:=an x hm;omega
 rw [←bR] at g1;exact vO (hM.nil s7) g1.rd (fun p hp=>(xB p hp).2) (by omega) fun H2 F' Ow hu=>h H2 F' Ow ((Up.of_nil s7).trans hu)
theorem xa (hM:PM H mb b F s t cnt mk kp) (hk:KS s v){c:Int} (hc:1<=c∧c<=65536) (s8:s.stack.length<65000)
  (h:∀ H' F',PM H' mb b F' (fI s t v.clsW (4*c)).2.1 t cnt mk kp->Up F H F' H'->Q (.tuple #[ac (fI s t v.clsW (4*c)).1.1,ac (fI s t v.clsW (4*c)).1.2]) H') :
  ∃ J37:List Value->au->Prop,(∃ q38,(some ⟨mb,0,none⟩:Option Addr)=some q38∧∃ p39:Option Addr,aq H q38=some (.pointer p39)∧∃ q40,(some ⟨mb,0,none⟩:Option Addr)=some q40∧∃ p41:Option Addr,aq H q40=some (.pointer p41)∧(ag PP 161 #[.agg #[.pointer p41],ac 0] (fun v42 H12=>∃ n43:Int,v42=ac n43∧((aq H12 q38=some (.pointer p39)∧True)∧True)∧(ag PP 160 #[.agg #[.pointer p39],ac n43] (fun v44 H13=>∃ a45:Option Addr,∃ l45:Nat,∃ c45:Nat,v44=.slice a45 l45 c45∧True∧True∧cB PP (Builtin.append_ #[30,30] 30 #[.slice a45 l45 c45,.slice (some (⟨H13.size,0,none⟩:Addr)) 1 1]) (fun v46 H14=>∃ a47:Option Addr,∃ l47:Nat,∃ c47:Nat,v46=.slice a47 l47 c47∧True∧ag PP 158 #[.pointer (some ⟨mb,0,none⟩:Option Addr),.slice a47 l47 c47] (fun v48 H15=>∃ n49:Int,∃ n50:Int,v48=.tuple #[ac n49,ac n50]∧True∧J37 [ac n50,ac n49] H15) H14) (H13.push (.cells #[ac (4*c)] 26))) H12)∧(((aq (H12.push (.cells #[ac (4*c)] 26)) q38=some (.pointer p39)∧True)∧True)∧ag PP 160 #[.agg #[.pointer p39],ac n43] (fun v51 H16=>∃ a52:Option Addr,∃ l52:Nat,∃ c52:Nat,v51=.slice a52 l52 c52∧True∧cB PP (Builtin.append_ #[30,30] 30 #[.slice a52 l52 c52,.slice (some (⟨H12.size,0,none⟩:Addr)) 1 1]) (fun v53 H17=>∃ a54:Option Addr,∃ l54:Nat,∃ c54:Nat,v53=.slice a54 l54 c54∧True∧ag PP 158 #[.pointer (some ⟨mb,0,none⟩:Option Addr),.slice a54 l54 c54] (fun v55 H18=>∃ n56:Int,∃ n57:Int,v55=.tuple #[ac n56,ac n57]∧True∧J37 [ac n57,ac n56] H18) H17) H16) (H12.push (.cells #[ac (4*c)] 26)))) H)∧(((aq (H.push (.cells #[ac (4*c)] 26)) q40=some (.pointer p41)∧True)∧((aq (H.push (.cells #[ac (4*c)] 26)) q38=some (.pointer p39)∧True)∧True))∧ag PP 161 #[.agg #[.pointer p41],ac 0] (fun v58 H19=>∃ n59:Int,v58=ac n59∧((aq H19 q38=some (.pointer p39)∧True)∧True)∧ag PP 160 #[.agg #[.pointer p39],ac n59] (fun v60 H20=>∃ a61:Option Addr,∃ l61:Nat,∃ c61:Nat,v60=.slice a61 l61 c61∧True∧cB PP (Builtin.append_ #[30,30] 30 #[.slice a61 l61 c61,.slice (some (⟨H.size,0,none⟩:Addr)) 1 1]) (fun v62 H21=>∃ a63:Option Addr,∃ l63:Nat,∃ c63:Nat,v62=.slice a63 l63 c63∧True∧ag PP 158 #[.pointer (some ⟨mb,0,none⟩:Option Addr),.slice a63 l63 c63] (fun v64 H22=>∃ n65:Int,∃ n66:Int,v64=.tuple #[ac n65,ac n66]∧True∧J37 [ac n66,ac n65] H22) H21) H20) H19) (H.push (.cells #[ac (4*c)] 26))))∧∀ w67 H23,J37 w67 H23->∀ _g:Nat->Value,∃ n68:Int,∃ n69:Int,w67=[ac n68,ac n69]∧cond (n68 != 0) (Q (.tuple #[ac 0,ac n68]) H23) (∃ q70,(some ⟨mb,0,none⟩:Option Addr)=some q70∧∃ p71:Option Addr,aq H23 q70=some (.pointer p71)∧∃ q72,p71=some q72∧∃ p73:Option Addr,aq H23 q72=some (.pointer p73)∧ag PP 162 #[.pointer p73,ac 0,ac n69] (fun v74 H24=>∃ n75:Int,v74=ac n75∧ag PP 89 #[ac (4*c)] (fun v76 H25=>∃ n77:Int,∃ n78:Int,v76=.tuple #[ac n77,ac n78]∧Q (.tuple #[ac n77,ac n78]) H25) H24) H23):=by
 have CO:=hk.shape.many1;have Tv:v.clsW.length<=8192:=by simp [KV.clsW];omega
 have Do:∀ w∈v.clsW++[4*c],dL w:=fun w hw=>by
  rcases a0T.1 hw with hw | hw
  ·exact ki hk w hw
  ·simp only [a0A] at hw;rw [hw];exact dN hc.1 hc.2
 obtain ⟨h1,h2,⟨m,h3,SE⟩,h4⟩:=iD hk (by omega) Do;refine ⟨fun w H'=>∃ F',w=[ac (s.array (v.clsW++[4*c])).1.2,ac (s.array (v.clsW++[4*c])).1.1]∧PM H' mb b F' (s.array (v.clsW++[4*c])).2 t cnt mk kp∧Up F H F' H',?_,?_⟩
 ·have hB:=hM.m;have mc:∀ {H':au},Fr [] H H'->aq H' ⟨mb,0,none⟩=some (QW b):=fun hf=>(hB.fr hf (by simp)).cell 0;have one:∀ {H':au},Rd 1 (H'.push (.cells #[ac (4*c)] 26)) (some ⟨H'.size,0,none⟩) 1 (az [4*c]):=fun {H'}=>jm (H:=H') (cs:=[4*c]);refine ⟨_,rfl,_,hB.cell 0,_,rfl,_,hB.cell 0,?_,?_⟩
  ·refine oG hM.k fun H12 f12=>⟨_,rfl,⟨⟨mc f12,trivial⟩,trivial⟩,?_,?_⟩
   ·rw [hk.root0];refine tv (hM.k.nil f12) fun a l cc G H13 ho f13 hG=>⟨_,_,_,rfl,trivial,trivial,?_⟩;rw [KS.words hk] at ho;have fp:=(Fr.push [] H13 (.cells #[ac (4*c)] 26));refine oq hM ((f12.trans f13).trans fp) (ho.fr fp (by simp)) (fun x hx=>a0O f12.1 (hG x hx)) Tv one (by decide) fun H' F' Oo hu=>⟨_,_,rfl,trivial,F',rfl,Oo,hu⟩
   ·have fp:=(Fr.push [] H12 (.cells #[ac (4*c)] 26));refine ⟨⟨⟨mc (f12.trans fp),trivial⟩,trivial⟩,?_⟩;rw [hk.root0];refine tv (hM.k.nil (f12.trans fp)) fun a l cc G H13 ho f13 hG=>⟨_,_,_,rfl,trivial,?_⟩;rw [KS.words hk] at ho;refine oq hM ((f12.trans fp).trans f13) ho (fun x hx=>a0O (f12.trans fp).1 (hG x hx)) Tv (one.fr' f13 (by simp)) (by decide) fun H' F' Oo hu=>⟨_,_,rfl,trivial,F',rfl,Oo,hu⟩
  ·have fp:=(Fr.push [] H (.cells #[ac (4*c)] 26));refine ⟨⟨⟨mc fp,trivial⟩,⟨mc fp,trivial⟩,trivial⟩,?_⟩;refine oG (hM.k.nil fp) fun H12 f12=>⟨_,rfl,⟨⟨mc (fp.trans f12),trivial⟩,trivial⟩,?_⟩;rw [hk.root0];refine tv (hM.k.nil (fp.trans f12)) fun a l cc G H13 ho f13 hG=>⟨_,_,_,rfl,trivial,?_⟩;rw [KS.words hk] at ho;refine oq hM ((fp.trans f12).trans f13) ho (fun x hx=>a0O (fp.trans f12).1 (hG x hx)) Tv (one.fr' (f12.trans f13) (by simp)) (by decide) fun H' F' Oo hu=>⟨_,_,rfl,trivial,F',rfl,Oo,hu⟩
 ·rintro w H23 ⟨F',rfl,Oo,hu⟩ _;unfold fI at h;refine ⟨_,_,rfl,?_⟩;rw [bn,ae];refine aD (fun he=>?_) fun he=>?_
  ·rw [a0b he] at h;exact h _ _ Oo hu
  rw [a0a he] at h;obtain ⟨sb,F1,hcs,hS,ff,_,_,s6⟩:=Oo.k.sp;refine ⟨_,rfl,_,Oo.m.cell 0,_,rfl,_,hcs,wD hS (fun o ho=>?_) fun H4 Tq uH=>⟨_,rfl,?_⟩⟩
  ·obtain ⟨x,Oq,At,_⟩:=h1.view.root;rw [h1.king] at ho;rw [Oq] at ho;cases ho;exact At
  have J4:=s6 H4 _ Tq uH;have Oj:Up F' H23 F' H4:=⟨uH.mono ff,fun _ h=>.inl h⟩;have Rq:=Oo.up J4 Oj;refine kJ Rq.k.kinds ?_;unfold mr;rw [a0b (show aU (4*c)=3 by have:=bE (4*c);omega)];exact ⟨_,_,rfl,h _ _ Rq (hu.trans Oj)⟩
theorem xv (hM:PM H mb b F s t cnt mk kp) (hk:KS s v){n up l:Int} (hn:dL n) (s6:1<=up∧up<=65536) (hl:dL l) (s8:s.stack.length<64000){n27 n31:Int} (e27:n27=72) (e31:n31=1)
  {n29:Int} (e29:n29=4*up){n33:Int} (e33:n33=2*((v.cls.length:Int)+1)+1)
  (h:∀ H' F',PM H' mb b F' (jo s t v.clsW n up l).2.1 t cnt mk kp->Up F H F' H'->Q (.tuple #[ac (jo s t v.clsW n up l).1.1,ac (jo s t v.clsW n up l).1.2]) H') :
  ag PP 159 #[.pointer (some ⟨mb,0,none⟩:Option Addr),ac 12,.slice (some (⟨H.size,0,none⟩:Addr)) 7 7] (fun v34 H11=>∃ n35:Int,∃ n36:Int,v34=.tuple #[ac n35,ac n36]∧cond (n36 != 0) (Q (.tuple #[ac 0,ac n36]) H11) (∃ J37:List Value->au->Prop,(∃ q38,(some ⟨mb,0,none⟩:Option Addr)=some q38∧∃ p39:Option Addr,aq H11 q38=some (.pointer p39)∧∃ q40,(some ⟨mb,0,none⟩:Option Addr)=some q40∧∃ p41:Option Addr,aq H11 q40=some (.pointer p41)∧(ag PP 161 #[.agg #[.pointer p41],ac 0] (fun v42 H12=>∃ n43:Int,v42=ac n43∧((aq H12 q38=some (.pointer p39)∧True)∧True)∧(ag PP 160 #[.agg #[.pointer p39],ac n43] (fun v44 H13=>∃ a45:Option Addr,∃ l45:Nat,∃ c45:Nat,v44=.slice a45 l45 c45∧True∧True∧cB PP (Builtin.append_ #[30,30] 30 #[.slice a45 l45 c45,.slice (some (⟨H13.size,0,none⟩:Addr)) 1 1]) (fun v46 H14=>∃ a47:Option Addr,∃ l47:Nat,∃ c47:Nat,v46=.slice a47 l47 c47∧True∧ag PP 158 #[.pointer (some ⟨mb,0,none⟩:Option Addr),.slice a47 l47 c47] (fun v48 H15=>∃ n49:Int,∃ n50:Int,v48=.tuple #[ac n49,ac n50]∧True∧J37 [ac n50,ac n49] H15) H14) (H13.push (.cells #[ac n35] 26))) H12)∧(((aq (H12.push (.cells #[ac n35] 26)) q38=some (.pointer p39)∧True)∧True)∧ag PP 160 #[.agg #[.pointer p39],ac n43] (fun v51 H16=>∃ a52:Option Addr,∃ l52:Nat,∃ c52:Nat,v51=.slice a52 l52 c52∧True∧cB PP (Builtin.append_ #[30,30] 30 #[.slice a52 l52 c52,.slice (some (⟨H12.size,0,none⟩:Addr)) 1 1]) (fun v53 H17=>∃ a54:Option Addr,∃ l54:Nat,∃ c54:Nat,v53=.slice a54 l54 c54∧True∧ag PP 158 #[.pointer (some ⟨mb,0,none⟩:Option Addr),.slice a54 l54 c54] (fun v55 H18=>∃ n56:Int,∃ n57:Int,v55=.tuple #[ac n56,ac n57]∧True∧J37 [ac n57,ac n56] H18) H17) H16) (H12.push (.cells #[ac n35] 26)))) H11)∧(((aq (H11.push (.cells #[ac n35] 26)) q40=some (.pointer p41)∧True)∧((aq (H11.push (.cells #[ac n35] 26)) q38=some (.pointer p39)∧True)∧True))∧ag PP 161 #[.agg #[.pointer p41],ac 0] (fun v58 H19=>∃ n59:Int,v58=ac n59∧((aq H19 q38=some (.pointer p39)∧True)∧True)∧ag PP 160 #[.agg #[.pointer p39],ac n59] (fun v60 H20=>∃ a61:Option Addr,∃ l61:Nat,∃ c61:Nat,v60=.slice a61 l61 c61∧True∧cB PP (Builtin.append_ #[30,30] 30 #[.slice a61 l61 c61,.slice (some (⟨H11.size,0,none⟩:Addr)) 1 1]) (fun v62 H21=>∃ a63:Option Addr,∃ l63:Nat,∃ c63:Nat,v62=.slice a63 l63 c63∧True∧ag PP 158 #[.pointer (some ⟨mb,0,none⟩:Option Addr),.slice a63 l63 c63] (fun v64 H22=>∃ n5:Int,∃ n6:Int,v64=.tuple #[ac n5,ac n6]∧True∧J37 [ac n6,ac n5] H22) H21) H20) H19) (H11.push (.cells #[ac n35] 26))))∧∀ w67 H23,J37 w67 H23->∀ _g:Nat->Value,∃ n8:Int,∃ n9:Int,w67=[ac n8,ac n9]∧cond (n8 != 0) (Q (.tuple #[ac 0,ac n8]) H23) (∃ q70,(some ⟨mb,0,none⟩:Option Addr)=some q70∧∃ p71:Option Addr,aq H23 q70=some (.pointer p71)∧∃ q72,p71=some q72∧∃ p73:Option Addr,aq H23 q72=some (.pointer p73)∧ag PP 162 #[.pointer p73,ac 0,ac n9] (fun v74 H24=>∃ n75:Int,v74=ac n75∧ag PP 89 #[ac n35] (fun v76 H25=>∃ n77:Int,∃ n78:Int,v76=.tuple #[ac n77,ac n78]∧Q (.tuple #[ac n77,ac n78]) H25) H24) H23))) (H.push (.cells #[ac n,ac n29,ac l,ac n27,ac n27,ac n31,ac n33] 26)):=by
 have CO:=hk.shape.many1;have Tv:v.clsW.length=v.cls.length:=by simp [KV.clsW]
 subst e27 e31 e29 e33;have Do:=gJ (n:=n) (up:=up) (l:=l) (k:=v.clsW.length) hn (dN s6.1 s6.2) hl (by omega);obtain ⟨b1,b2,b3,b4⟩:=lY hk (by omega) (cls:=12) (by decide) Do;have fp:=(Fr.push [] H (.cells (az (cW n up l v.clsW.length)).toArray 26));have an:=hM.k.lt;rw [←Tv];unfold jo at h;refine yO (s:=s) (ws:=cW n up l v.clsW.length) (hM.nil fp) (by decide) jm (fun p hp hm=>?_) (by decide) fun H' F' Oo hu=>⟨_,_,rfl,?_⟩
 ·cases hp;exact absurd (an _ hm) (a2B _)
 rw [bn,ae];have SG:=(Up.of_nil fp).trans hu;refine aD (fun he=>?_) fun he=>?_
 ·rw [a0b he] at h
  have:=h _ _ Oo SG;have hz:=(b3 he).2;exact this
 rw [a0a he] at h;have hz:(s.make 12 (cW n up l v.clsW.length)).1.2=0:=a0v he;obtain ⟨c,ec,est,c1,c2,_⟩:=b4 hz;rw [ec] at h ⊢;exact xa Oo b1 ⟨c1,c2⟩ (by rw [est,a1h];simp;omega) fun H2 F2 Ow Jd=>h H2 F2 Ow (SG.trans Jd)
theorem HR (s:SP) (t:TB) (cw:List Int) (n up l:Int):(jo s t cw n up l).2.2=t:=by
 unfold jo;split
 ·rfl
 ·unfold fI;split <;> rfl
theorem Ar (hM:PM H mb b F s t cnt mk kp) (hk:KS s v){name:ByteArray}{up:Int} (s6:1<=up∧up<=65536) (s8:s.stack.length<60000){a:Option Addr}{l c:Nat}{own:List ByteArray} (hr:Rd 1 H a l (bC own)) (hout:ou H a l F) (I6:l<=100000000)
  (h:∀ H' F',PM H' mb b F' (gF s t v.clsW name up own).2.1 (gF s t v.clsW name up own).2.2 cnt mk kp->Up F H F' H'->Q (.tuple #[ac (gF s t v.clsW name up own).1.1,ac (gF s t v.clsW name up own).1.2]) H') :
  ag PP 80 #[QW mb,.string name,ac up,.slice a l c] Q H:=by
 have i7:bd PP 30=some (1,8,some (ac 0)):=by kernel_rfl
 have CO:=hk.shape.many1;have hl:l=own.length:=by have:=hr.1;simpa [bC] using this.symm
 apply MB;dsimp only [aL,aA,aC,cq,ah,ak,aX,aF,cX,bc,aZ,ac,bf,Lv,cL,av,bm,aE,am,aJ,bM,aO,ax,aI];unfold gF at h;refine sk hM fun H1 F1 Vg JT=>⟨_,_,rfl,?_⟩;rw [bn,ae];refine aD (fun h1=>?_) fun h1=>?_
 ·rw [a0b h1] at h;exact h H1 F1 Vg JT
 rw [a0a h1] at h;have hz1:(t.add name).1.2=0:=a0v h1;rw [a0b hz1];obtain ⟨nn,en,en2,_⟩:=kH name hz1;rw [en] at h ⊢;generalize (t.add name).2=t1 at *;have S5:=hout.up JT;have OP:=hout.rd JT hr;refine ⟨fun w H'=>∃(i:Nat) (t':TB) (acc:List Int) (a':Option Addr) (l' c':Nat) (G F':aS),w=[.slice a' l' c',ac i]∧i<=own.length∧PM H' mb b F' s t' cnt mk kp∧Up F1 H1 F' H'∧t'.addAll acc (own.drop i)=t1.addAll [] own∧bZ 1 H' a' l' c' (az acc) G∧(∀ x∈G,H1.size<=x∧x∉F')∧acc.length=i,fun w _=>match w with
  | [_,.int _ i]=>(own.length-i).toNat
  | _=>0,⟨0,t1,[],none,0,0,[],F1,rfl,a07 _,Vg,Up.refl _ _,rfl,by simpa [az] using bZ.nil 1 H1,by simp,rfl⟩,?_⟩
 rintro w H2 ⟨i,t2,acc,a2,l2,c2,G,F2,rfl,hi,Ow,Jd,D6,ho,hG,Vp⟩ _;have K2:l2=i:=by have:=ho.len;simp only [az,a1p] at this;omega
 have hgm:=Vg.m.lt;have Wk:=Vg.k.kinds.lt;refine ⟨_,_,_,_,rfl,?_⟩;rw [ae];refine aD (fun an=>?_) fun an=>?_
 ·obtain ⟨p,be,rfl,aj⟩:=(S5.rd Jd OP).str (i:=(i:Int)) (by omega) an;simp only [a0j] at aj be;have e1:IntKind.wrap .i64 ((i:Int)+1)=((i+1:Nat):Int):=by rw [ao (by omega) (by omega)];omega
  have ed:own.drop i=own[i] :: own.drop (i+1):=a1S be;rw [ed,TB.addAll] at D6;refine ⟨⟨by omega,an⟩,_,rfl,_,by rw [a0j,a0y];exact aj,sk Ow fun H3 F3 OL J0=>⟨_,_,rfl,?_⟩⟩;rw [bn,ae];refine aD (fun h3=>?_) fun h3=>?_
  ·rw [a0b h3] at D6;rw [a0b (by rw [←D6];exact h3),←D6] at h;exact h H3 F3 OL ((JT.trans Jd).trans J0)
  rw [a0a h3] at D6;have W6:(t2.add own[i]).1.2=0:=a0v h3;rw [a0b W6];have hoG:∀ x∈G,x<H2.size:=ho.lt;have Ji:bZ 1 H3 a2 l2 c2 (az acc) G:=ho.fr J0.1 fun x hx=>(hG x hx).2;refine bK i7 rfl (by kernel_rfl) Ji rfl (by simp [dJ]) (by omega) (by decide) (by decide) fun a' c' G2 H4 g1 g2 g3=>⟨_,_,_,rfl,?_⟩;rw [e1];have Sn:∀ x∈G,H1.size<=x∧x∉F3:=fun x hx=>⟨(hG x hx).1,Up.out J0 (hG x hx).2 (hoG x hx)⟩;have hF3lt:=OL.k.lt;have Rq:PM H4 mb b F3 s (t2.add own[i]).2 cnt mk kp:=⟨OL.k.fr g2.1 (fun x hx hm=>(Sn x hm).2 hx) (fun hm=>by have:=(Sn _ hm).1;omega),OL.m.fr g2.1 (fun hm=>by have:=(Sn _ hm).1;omega),OL.out⟩;have Oj:Up F1 H1 F3 H4:=by
   have Jb:=Jd.trans J0;refine ⟨⟨a0O Jb.1.1 g2.1.1,fun x hx hn=>?_⟩,Jb.2⟩;rw [g2.1.2 x (a0X hx Jb.1.1) (fun hm=>by have:=(Sn x hm).1;omega),Jb.1.2 x hx hn]
  refine ⟨⟨i+1,_,_,a',l2+1,c',G2,F3,rfl,by omega,Rq,Oj,D6,?_,fun x hx=>?_,by simp [Vp]⟩,by simp;omega⟩
  ·rw [bR];exact g1
  ·rcases g2.2 x hx with h5 | h5
   ·exact Sn x h5
   ·exact ⟨a0O (Jd.trans J0).1.1 h5,fun hm=>by have:=hF3lt x hm;omega⟩
 ·have ui:i=own.length:=by omega
  rw [ui,a3l,TB.addAll] at D6;rw [a0a (by rw [←D6];simp),←D6] at h;simp only at h;unfold lx at h;have a0R:=JT.trans Jd;have b8:=oz (t:=t1) [] own (by rw [←D6]);rw [←D6] at b8;simp only at b8;obtain ⟨ns,ens,ens2⟩:=b8;rw [a35] at ens;have S6:=Ow.k.wft;have S1:∀ n∈ns,n<t2.texts.length:=fun n hn=>by
   have:t2.texts[n]?∈own.map some:=by rw [←ens2];exact a1n.2 ⟨n,hn,rfl⟩
   obtain ⟨s,_,hs⟩:=a1n.1 this;exact (ge hs.symm).2
  have Ub:nn<t2.texts.length:=by
   have h5:=(ge en2).2;have h6:=(kk t1 [] own).2;rw [←D6] at h6;obtain ⟨m,e⟩:=h6;rw [e,a1h];omega
  have Do:∀ w∈acc,dL w:=fun w hw=>by
   rw [ens] at hw;obtain ⟨x,hx,rfl⟩:=a1n.1 hw;exact lH S6 (S1 x hx)
  obtain ⟨a1,a2',⟨m1,a3,a3'⟩,a4⟩:=iD hk (by omega) Do;refine vO Ow ho.rd (fun p hp=>?_) (by omega) fun H3 F3 OL J0=>⟨_,_,rfl,?_⟩
  ·rcases ho.2.2 with ⟨h5,_⟩ | ⟨b',cs,h5,h6,_⟩
   ·rw [h5] at hp;cases hp
   ·rw [h5] at hp;cases hp;exact (hG b' (by rw [h6];simp)).2
  have W7:=a0R.trans J0;rw [bn,ae];refine aD (fun h5=>?_) fun h5=>?_
  ·rw [a0b h5] at h;exact h H3 F3 OL W7
  rw [a0a h5] at h;have hz5:(s.array acc).1.2=0:=a0v h5;obtain ⟨lo,elo,lo1,lo2,_⟩:=a4 hz5;refine ⟨_,rfl,_,OL.m.cell 0,vP OL.k a1 fun H4 f4=>⟨_,rfl,eN (by decide) ⟨_,rfl,eN s6 ⟨_,rfl,lT (by decide) ⟨_,rfl,?_⟩⟩⟩⟩⟩;have ew:IntKind.wrap .i64 ((v.cls.length:Int)+1)=(v.cls.length:Int)+1:=ao (by omega) (by omega);rw [ew];refine lT ⟨by omega,by omega⟩ ⟨_,rfl,?_⟩;have Oj:Up F3 H3 F3 H4:=Up.of_nil f4;refine xv (OL.nil f4) a1 (lH S6 Ub) s6 (by rw [elo];exact dN lo1 lo2) (by rw [a3,a1h];omega) rfl rfl rfl rfl fun H5 F5 Zv TW=>?_;have et:(jo (s.array acc).2 t2 v.clsW (4*(nn:Int)+2) up (s.array acc).1.1).2.2=t2:=HR _ _ _ _ _ _;exact h H5 F5 (by rw [et];exact Zv) ((W7.trans Oj).trans TW)
end
section
variable {H:au}{b:Nat}{F:aS}{s:SP}{t:TB}{v:KV}{Q:QT}
theorem Az (hK:PK H b F s t) (hv:KAllW s t v) (s8:s.stack.length<60000){name sup:ByteArray}{a:Option Addr}{l c:Nat}{own:List ByteArray} (hr:Rd 1 H a l (bC own)) (hout:ou H a l F) (hlc:l<=c) (I6:l<=1000000000000000)
  (h:∀ H' F',PK H' b F' (cY s v t name sup own).2.1 (cY s v t name sup own).2.2->Up F H F' H'->Q (.tuple #[ac (cY s v t name sup own).1.1,ac (cY s v t name sup own).1.2]) H') :
  ag PP 25 #[QW b,.string name,.string sup,.slice a l c] Q H:=by
 apply NL;dsimp only [aA,bk,aC,du,ah,ak,ac,av,am,aO];unfold cY at h;refine lJ hK ⟨_,rfl,?_⟩;simp only [a0p,a0f];refine vt hK hv hr hlc (by omega) fun H1 bw=>⟨_,_,rfl,?_⟩;rw [bn,ae];refine aD (fun h1=>?_) fun h1=>?_
 ·rw [a0b h1] at h;exact h H1 F (hK.nil bw) (Up.of_nil bw)
 rw [a0a h1] at h;obtain ⟨j,hj,ej,an,Db,_,_⟩:=tU hv (a0v h1);rw [ej] at h ⊢;have hb:=kO hv.ks hj;refine KX (hK.nil bw) fun H2 mb Ow fa=>⟨_,rfl,?_⟩;have yB:=bw.trans fa;have Jd:Up F H F H2:=Up.of_nil yB;have a0S:=vK (a0v h1);refine Ar Ow hv.ks hb s8 (hout.rd Jd hr) (hout.up Jd) (by have:=hr.1;simp only [bC,a1p] at this;omega) fun H3 F3 OL J0=>⟨_,_,rfl,?_⟩;refine Pq OL ⟨by omega,by omega⟩ fun H4 J4 uH=>⟨_,rfl,?_⟩;have Oj:Up F H F3 H4:=(Jd.trans J0).trans ⟨uH,fun _ h=>.inl h⟩
 have:=h H4 F3 J4 Oj;unfold cU at this;rw [bn,ae];refine aD (fun h2=>?_) fun h2=>?_
 ·rw [a0a h2] at this;exact this
 ·have hz:=a0v h2;rw [a0b hz] at this;have e0:(gF s t v.clsW name (v.cls[j]).oop own).1.2=0:=hz;rw [e0] at this;exact this
theorem dX (hK:PK H b F s t) (h:∀ sb F1,aq H ⟨b,0,none⟩=some (QW sb)->ja H sb F1 s->(∀ x∈F1,x∈F)->(∀ H' F1' s',ja H' sb F1' s'->Up F1 H F1' H'->∃ F',PK H' b F' s' t∧Up F H F' H')->(∀ H' s',ja H' sb F1 s'->Fr F1 H H'->PK H' b F s' t)->Q (QW sb) H):ag PP 7 #[QW b] Q H:=by
 obtain ⟨sb,F1,hc,hS,ff,_,s6,JK⟩:=hK.sp;apply PU;dsimp only [ah,aF,aE,cD,am];exact ⟨_,rfl,_,hc,h sb F1 hc hS ff s6 JK⟩
theorem qi (hK:PK H b F s t) (h:∀ tb F1,aq H ⟨b,1,none⟩=some (QW tb)->pY H tb F1 t->Q (QW tb) H):ag PP 33 #[QW b] Q H:=by
 obtain ⟨tb,F1,hc,hT,_⟩:=hK.tb;apply Bu;dsimp only [ah,aF,aE,cD,am];exact ⟨_,rfl,_,hc,h tb F1 hc hT⟩
end
end Go.Proofs.YtgjfejoohojokaaGreatDoor
namespace Kw
open Go
theorem Pv (s j:Nat):(255*2 ^ s).testBit j=(decide (s<=j) && decide (j-s<8)):=by
 rw [←Nat.shiftLeft_eq,Nat.testBit_shiftLeft]
 have:(255:Nat)=2 ^ 8-1:=rfl;rw [this,Nat.testBit_two_pow_sub_one]
theorem Q0 (w s j:Nat):(w*2 ^ s).testBit j=(decide (s<=j) && w.testBit (j-s)):=by
 rw [←Nat.shiftLeft_eq,Nat.testBit_shiftLeft]
theorem yN {w s:Nat} (hw:w<256) (hs:s<=24):fu .i64 (w:Int) (s:Int)=((w*2 ^ s:Nat):Int):=by
 have h1:2 ^ s<=2 ^ 24:=a2K (by decide) hs;have h2:w*2 ^ s<=255*2 ^ 24:=a4d (by omega) h1;have h3:((w:Int)*((2 ^ s:Nat):Int))=((w*2 ^ s:Nat):Int):=by rw [a4D]
 rw [mX _ _ (by omega) (by rw [h3];constructor <;> omega),h3]
theorem lL (n:Nat):BitVec.ofInt 64 (n:Int)=BitVec.ofNat 64 n:=by simp
def iQ (n w s:Nat):Nat:=(BitVec.ofNat 64 n &&& ~~~(BitVec.ofNat 64 (255*2 ^ s)) ||| BitVec.ofNat 64 (w*2 ^ s)).toNat
theorem oJ {n w s:Nat} (hn:n<4294967296) (hw:w<256) (hs:s<=24) (i:Nat):(iQ n w s).testBit i=((n.testBit i && !(decide (s<=i) && decide (i-s<8))) || (decide (s<=i) && w.testBit (i-s))):=by
 unfold iQ;rw [BitVec.testBit_toNat,BitVec.getLsbD_or,BitVec.getLsbD_and,BitVec.getLsbD_not,a4a,a4a,a4a,Pv,Q0];by_cases h:i<64
 ·simp [h]
 ·have h1:n.testBit i=false:=a3d (a0X hn (by
   have:2 ^ 32<=2 ^ i:=a2K (by decide) (by omega);exact this))
  have h2:w.testBit (i-s)=false:=a3d (a0X hw (by
   have:2 ^ 8<=2 ^ (i-s):=a2K (by decide) (by omega);exact this))
  simp [h,h1,h2]
theorem vR {n w s:Nat} (hn:n<4294967296) (hw:w<256) (hs:s<=24):iQ n w s<4294967296:=by
 have:iQ n w s<2 ^ 32:=by
  refine Nat.lt_pow_two_of_testBit _ fun i hi=>?_;rw [oJ hn hw hs];have h1:n.testBit i=false:=a3d (a0X hn (by
   have:2 ^ 32<=2 ^ i:=a2K (by decide) (by omega);exact this))
  have h2:w.testBit (i-s)=false:=a3d (a0X hw (by
   have:2 ^ 8<=2 ^ (i-s):=a2K (by decide) (by omega);exact this))
  simp [h1,h2]
 exact this
theorem xV {n w s:Nat} (hn:n<4294967296) (hw:w<256) (hs:s<=24):iQ n w s / 2 ^ s % 256=w:=by
 have:iQ n w s / 2 ^ s % 2 ^ 8=w:=by
  refine Nat.eq_of_testBit_eq fun i=>?_;rw [a3J,a3K,oJ hn hw hs];by_cases h:i<8
  ·have h1:s<=i+s:=by omega
   have h2:i+s-s=i:=by omega
   simp [h,h1,h2]
  ·have h2:w.testBit i=false:=a3d (a0X hw (by
    have:2 ^ 8<=2 ^ i:=a2K (by decide) (by omega);exact this))
   simp [h,h2]
 exact this
theorem wj {n w s s':Nat} (hn:n<4294967296) (hw:w<256) (hs:s<=24) (hd:s'+8<=s∨s+8<=s'):iQ n w s / 2 ^ s' % 256=n / 2 ^ s' % 256:=by
 have:iQ n w s / 2 ^ s' % 2 ^ 8=n / 2 ^ s' % 2 ^ 8:=by
  refine Nat.eq_of_testBit_eq fun i=>?_;rw [a3J,a3K,oJ hn hw hs,a3J,a3K];by_cases h:i<8
  ·rcases hd with hd | hd
   ·have h1:¬ s<=i+s':=by omega
    simp [h,h1]
   ·have h1:¬ (i+s'-s<8):=by omega
    have h2:w.testBit (i+s'-s)=false:=a3d (a0X hw (by
     have:2 ^ 8<=2 ^ (i+s'-s):=a2K (by decide) (by omega);exact this))
    simp [h,h1,h2]
  ·simp [h]
 exact this
theorem C2 {n w s:Nat} (hn:n<4294967296) (hw:w<256) (hs:s<=24):wJ .i64 (nj .i64 (n:Int) (fu .i64 255 (s:Int))) (fu .i64 (w:Int) (s:Int))=(iQ n w s:Int):=by
 have e255:fu .i64 255 (s:Int)=((255*2 ^ s:Nat):Int):=yN (w:=255) (by decide) hs;have e1:nj .i64 (n:Int) (fu .i64 255 (s:Int))=((BitVec.ofNat 64 n &&& ~~~(BitVec.ofNat 64 (255*2 ^ s))).toNat:Int):=by
  unfold nj;rw [e255];show IntKind.wrap .i64 ((BitVec.ofInt 64 (n:Int) &&& ~~~(BitVec.ofInt 64 ((255*2 ^ s:Nat):Int))).toNat:Int)=_;rw [lL,lL];have h1:(BitVec.ofNat 64 n &&& ~~~(BitVec.ofNat 64 (255*2 ^ s))).toNat<=n:=by
   rw [a4s];refine a0O Nat.and_le_left ?_;rw [BitVec.toNat_ofNat];exact Nat.mod_le _ _
  exact kl (by omega) (by omega)
 rw [e1,yN hw hs];unfold wJ;show IntKind.wrap .i64 ((BitVec.ofInt 64 ((BitVec.ofNat 64 n &&& ~~~(BitVec.ofNat 64 (255*2 ^ s))).toNat:Int) ||| BitVec.ofInt 64 ((w*2 ^ s:Nat):Int)).toNat:Int)=_;rw [lL,lL,BitVec.ofNat_toNat,BitVec.setWidth_eq];have h2:=vR hn hw hs;unfold iQ at h2 ⊢;exact kl (by omega) (by omega)
end Kw
namespace Go.Proofs.YtgjfejoohojokaaGreatDoor
open Kw
section
variable {H:au}{hb:Nat}{W T B:Int->Int}{low:Int}{r:RH}{Q:QT}
theorem EC (hw:WFH r) (hs:SimH W T B low r){o:RO}{k i w:Int} (ho:aT r.objs k=some o) (h0:0<=i) (h1:i<o.slots.length) (hf:o.fmt=1) (w0:0<=w) (w1:w<=255) :
  SimH (upd W (o.place+2+i / 4) (iQ (W (o.place+2+i / 4)).toNat w.toNat (i % 4*8).toNat:Nat)) T B low { r with objs:=gX r.objs k (d8 i w) }:=by
 have Ry:=aR ho;have hlen:o.len=2+((o.slots.length:Int)+3) / 4:=by unfold RO.len lenOf;rw [a0b hf]
 obtain ⟨n0,n1⟩:=hs.byr o Ry.1 hf (o.place+2+i / 4) (by omega) (by omega);have hn:(W (o.place+2+i / 4)).toNat<4294967296:=by omega
 have hwn:w.toNat<256:=by omega
 have hsn:(i % 4*8).toNat<=24:=by omega
 have key:∀ o'∈gX r.objs k (d8 i w),∃ a∈r.objs,(a.oop=k∧a=o∧o'=d8 i w o)∨(a.oop≠k∧o'=a∧(a.place+a.len<=o.place∨o.place+o.len<=a.place)):=by
  intro o' xB;simp only [gX,a1n] at xB;obtain ⟨a,ha,rfl⟩:=xB;refine ⟨a,ha,?_⟩;split
  ·rename_i hk
   have:a=o:=by have:=cN hw.objs ha;rw [hk,ho] at this;exact (Option.some.inj this).symm
   exact .inl ⟨hk,this,by rw [this]⟩
  ·rename_i hk;exact .inr ⟨hk,rfl,apart hw.objs ha Ry.1 (by rw [Ry.2];exact hk)⟩
 refine { tab:=fun j g0 g1=>?_,bor:=fun o' xB=>?_,cls:=fun o' xB=>?_,shp:=fun o' xB=>?_,wrd:=fun o' xB s7 j hj=>?_,byt:=fun o' xB s7 j hj=>?_,byr:=fun o' xB s7 j RY JD=>?_,low1:=hs.low1,low2:=hs.low2,low3:=fun j g0 g1=>?_ }
 ·rw [hs.tab j g0 g1];have e:=dH (l:=r.objs) (k:=k) (j:=j) (f:=d8 i w) fun _=>rfl;simp only [e];cases aT r.objs j with
  | none=>rfl
  | some a=>simp only [a2Q];split <;> rfl
 ·obtain ⟨a,ha,⟨hk,rfl,rfl⟩ | ⟨hk,rfl,hd⟩⟩:=key o' xB
  ·exact hs.bor a ha
  ·exact hs.bor _ ha
 ·obtain ⟨a,ha,⟨hk,rfl,rfl⟩ | ⟨hk,rfl,hd⟩⟩:=key o' xB
  ·show upd W _ _ a.place=a.cls;rw [upd,a0a (by omega)];exact hs.cls _ ha
  ·have:=o'.len_pos;rw [upd,a0a (by omega)];exact hs.cls _ ha
 ·obtain ⟨a,ha,⟨hk,rfl,rfl⟩ | ⟨hk,rfl,hd⟩⟩:=key o' xB
  ·show upd W _ _ (a.place+1)=2*(((a.slots.set i.toNat w).length:Nat):Int)+a.fmt;rw [upd,a0a (by omega),a33];exact hs.shp _ ha
  ·have:=o'.len_pos;rw [upd,a0a (by omega)];exact hs.shp _ ha
 ·obtain ⟨a,ha,⟨hk,rfl,rfl⟩ | ⟨hk,rfl,hd⟩⟩:=key o' xB
  ·have:a.fmt=0:=s7;omega
  ·have hl:o'.len=2+(o'.slots.length:Int):=by unfold RO.len lenOf;rw [a0a (by omega)]
   rw [upd,a0a (by omega)];exact hs.wrd _ ha s7 j hj
 ·obtain ⟨a,ha,⟨hk,rfl,rfl⟩ | ⟨hk,rfl,hd⟩⟩:=key o' xB
  ·have Sa:j<a.slots.length:=by simpa [d8] using hj
   show upd W _ _ (a.place+2+(j / 4:Nat)) / ((2 ^ (j % 4*8):Nat):Int) % 256=(a.slots.set i.toNat w).getD j 0;have OK:=hs.byt _ ha hf j Sa;unfold upd;split
   ·rename_i he;have e4:(j / 4:Nat)=i / 4:=by omega
    by_cases JW:i.toNat=j
    ·have es:j % 4*8=(i % 4*8).toNat:=by omega
     rw [es]
     have:=xV hn hwn hsn;have h2:((iQ (W (a.place+2+i / 4)).toNat w.toNat (i % 4*8).toNat:Nat):Int) / ((2 ^ (i % 4*8).toNat:Nat):Int) % 256=(w.toNat:Int):=by
      rw [←a4A];have h3:=congrArg (fun x:Nat=>(x:Int)) this;simp only [Int.natCast_emod] at h3;exact h3
     rw [h2];simp [JW,Sa];omega
    ·have:=wj (s':=j % 4*8) hn hwn hsn (by omega);have h2:((iQ (W (a.place+2+i / 4)).toNat w.toNat (i % 4*8).toNat:Nat):Int) / ((2 ^ (j % 4*8):Nat):Int) % 256=W (a.place+2+i / 4) / ((2 ^ (j % 4*8):Nat):Int) % 256:=by
      rw [←a4A];have h3:=congrArg (fun x:Nat=>(x:Int)) this;simp only [Int.natCast_emod] at h3;rw [a4A (W (a.place+2+i / 4)).toNat,a2E n0] at h3;exact h3
     rw [h2];have e5:a.place+2+((j / 4:Nat):Int)=a.place+2+i / 4:=by omega
     rw [e5] at OK;rw [OK];simp [a3N,JW]
   ·rename_i he;have JW:i.toNat≠j:=by omega
    rw [OK];simp [a3N,JW]
  ·have hl:o'.len=2+((o'.slots.length:Int)+3) / 4:=by unfold RO.len lenOf;rw [a0b s7]
   rw [upd,a0a (by omega)];exact hs.byt _ ha s7 j hj
 ·obtain ⟨a,ha,⟨hk,rfl,rfl⟩ | ⟨hk,rfl,hd⟩⟩:=key o' xB
  ·have K2:(d8 i w a).len=a.len:=lG i w a;have a0V:j<a.place+a.len:=by
    have:(d8 i w a).place=a.place:=rfl;omega
   have a0W:a.place+2<=j:=RY;unfold upd;split
   ·have:=vR hn hwn hsn;omega
   ·exact hs.byr _ ha hf j a0W a0V
  ·rw [upd];split
   ·rename_i he;have hl:o'.len=2+((o'.slots.length:Int)+3) / 4:=by unfold RO.len lenOf;rw [a0b s7]
    omega
   ·exact hs.byr _ ha s7 j RY JD
 ·have:=hs.low3 j g0 g1;have e:=dH (l:=r.objs) (k:=k) (j:=j) (f:=d8 i w) fun _=>rfl;simp only [e];cases hj:aT r.objs j with
  | none=>exact absurd hj this
  | some a=>simp
theorem L5 {F:aS} (hR:d9 H hb F r){k i w:Int} (h:∀ H',d9 H' hb F (r.put k i w).2->Fr F H H'->Q (ac (r.put k i w).1) H'):ag PP 148 #[QW hb,ac k,ac i,ac w] Q H:=by
 cases ho:aT r.objs k with
 | none=>exact rz hR (fun o h=>by rw [ho] at h;cases h) h
 | some o =>
  by_cases w5:o.fmt=0
  ·exact rz hR (fun o' h=>by rw [ho] at h;cases h;exact w5) h
  have w6:=hR;obtain ⟨wb,tb,bb,W,T,B,low,rfl,hR⟩:=hR;have hm:=(aR ho).1;have bw:o.fmt=1:=by have:=(hR.wf.objs.good o hm).fmt;omega
  apply yY;dsimp only [bk,ah,jM,aX,ay,aK,bc,ac,bf,aE,am,bj];refine wP hR ?_;unfold u9;have pe:=kW hR.wf k i w;unfold RH.put at h pe;rw [ho] at h pe ⊢;obtain ⟨h1,h2,h3,h4,h5,h6⟩:=hR.in_ hm;simp only at h pe ⊢;split
  ·rename_i hi;simp only [a0b hi] at h;exact ⟨_,_,_,_,rfl,by simpa using h H w6 (Fr.refl _ _)⟩
  ·rename_i hi;simp only [a0a hi] at h pe;have hs:=(tO hR hm (i:=i) (by omega) (by omega)).1 bw
   first | rw [a0b bw] | skip
   refine ⟨_,_,_,_,rfl,?_⟩;simp only [ae,a0P,a0f,a0l,a0L,bh,aV,bx,bA,bi,bB,bt,aW,bv,bu,bg,bz,a06,a1a,a1d,aB,a0K,a0y,aM,aG,aY,a0p,a0C,bq,bn,a3Q,not_true_eq_false,if_false];refine LH hR.kinds ⟨_,rfl,?_⟩;by_cases JE:fv o.fmt w
   ·simp only [JE,not_true_eq_false,if_false] at h pe;have Oa:fv 1 w:=bw ▸ JE;have Vq:0<=w∧w<=255:=by unfold fv at Oa;rwa [a0b rfl] at Oa
    have Zw:¬ (i % 4*8<0):=by omega
    obtain ⟨n0,n1⟩:=hR.sim.byr o hm bw (o.place+2+i / 4) (by omega) (by omega);have Tv:=hR.word (i:=o.place+2+i / 4) (by omega) (by omega);have ew:wJ .i64 (nj .i64 (W (o.place+2+i / 4)) (fu .i64 255 (i % 4*8))) (fu .i64 w (i % 4*8))=((iQ (W (o.place+2+i / 4)).toNat w.toNat (i % 4*8).toNat:Nat):Int):=by
     have:=C2 (n:=(W (o.place+2+i / 4)).toNat) (w:=w.toNat) (s:=(i % 4*8).toNat) (by omega) (by omega) (by omega);rw [a2E n0,a2E Vq.1,a2E (by omega:0<=i % 4*8)] at this;exact this
    simp only [ae,a0P,a0f,a0l,a0L,bh,aV,bx,bA,bi,bB,bt,aW,bv,bu,bg,bz,a06,a1a,a1d,aB,a0K,a0y,aM,aG,aY,a0p,a0C,bq,bn,Oa,decide_true,hR.c0,Tv,Zw,decide_false,if_false,if_true,not_true_eq_false];refine ⟨by omega,by omega,by omega,by omega,hR.mw.wr (by omega) (by omega),?_⟩;rw [ew];refine h _ ⟨wb,tb,bb,upd W (o.place+2+i / 4) ((iQ (W (o.place+2+i / 4)).toNat w.toNat (i % 4*8).toNat:Nat):Int),T,B,low,rfl,?_⟩ (Fr.set (by simp));have hd:=hR.d;simp only [a2R,a0E,a1l,a2h,a21] at hd;refine { hd:=?_,mw:=hR.mw.set (by omega) _,mt:=hR.mt.set_ne (by simp;omega) _,mb:=hR.mb.set_ne (by simp;omega) _,d:=hR.d,kinds:=hR.kinds.fr (Fr.set (F:=[wb]) (by simp)) (by simp;omega),wf:=pe,sim:=EC hR.wf hR.sim ho (by omega) (by omega) bw Vq.1 Vq.2 }
    have:=hR.hd.set_ne (a:=⟨wb,(o.place+2+i / 4).toNat,none⟩) (by simp;omega) (ac ((iQ (W (o.place+2+i / 4)).toNat w.toNat (i % 4*8).toNat:Nat):Int));simp only [vN,tm (k:=k) (f:=d8 i w) (l:=r.objs) (fun _=>rfl) (lG i w)];exact this
   ·simp only [JE,not_false_eq_true,if_true] at h;have Oa:¬ fv 1 w:=bw ▸ JE;simp only [ae,a0P,a0f,a0l,a0L,bh,aV,bx,bA,bi,bB,bt,aW,bv,bu,bg,bz,a06,a1a,a1d,aB,a0K,a0y,aM,aG,aY,a0p,a0C,bq,bn,Oa,decide_false,if_false,not_false_eq_true,if_true];exact h H w6 (Fr.refl _ _)
end
end Go.Proofs.YtgjfejoohojokaaGreatDoor
namespace Kw
open Go
structure KAllS (s:SP) (t:TB) (v:KV) (st:List Int):Prop where
 ks:KS s v
 names:KNames v t
 stack:s.stack=st
 top:st.length<60000
theorem KAll.s {s:SP}{t:TB}{v:KV} (h:KAll s t v):KAllS s t v []:=⟨h.ks,h.names,h.stack,by simp⟩
theorem KAllS.w {s:SP}{t:TB}{v:KV}{st:List Int} (h:KAllS s t v st):KAllW s t v:=⟨h.ks,h.names,by rw [h.stack];have:=h.top;omega⟩
theorem KAllS.all {s:SP}{t:TB}{v:KV} (h:KAllS s t v []):KAll s t v:=⟨h.ks,h.names,h.stack⟩
theorem KAllS.marks {s:SP}{t:TB}{v:KV}{st:List Int} (h:KAllS s t v st) (k:Int):KAllS { s with h:=(s.h.marks k).2 } t v st:=⟨h.ks.marks k,h.names,h.stack,h.top⟩
theorem KAllS.collect {s:SP}{t:TB}{v:KV}{st:List Int} (h:KAllS s t v st):KAllS s.collect.2 t v st:=by
 have hr:=mZ s;exact ⟨⟨rG h.ks.wf,rf h.ks.gc,hr.2.2.trans h.ks.op,hr.1.trans h.ks.king,h.ks.view.keep (mm h.ks.wf.h) h.ks.reach,h.ks.sep,h.ks.shape⟩,h.names,hr.2.1.trans h.stack,h.top⟩
section
def ba:List (Int × Int):=[(5,0),(6,0),(7,0),(12,7),(12,7),(12,7),(12,7),(12,7),(12,7),(12,7),(12,7),(12,7),(12,7),(12,7),(12,7),(12,7),(12,7),(11,0),(11,8),(11,14)]
def RH.allocAll (r:RH):List (Int × Int)->Int × RH
 | []=>(0,r)
 | (c,n) :: l=>if (r.alloc (4*c) n 0).1.2≠0 then ((r.alloc (4*c) n 0).1.2,(r.alloc (4*c) n 0).2) else RH.allocAll (r.alloc (4*c) n 0).2 l
def yQ (p:List RO × Int) (x:Int × Int):List RO × Int:=(p.1++[⟨cQ p.1,0,bT p.1,p.2,4*x.1,List.replicate x.2.toNat 4⟩],IntKind.wrap .i64 (p.2+1))
def pU (p:List RO × Int):List (Int × Int)->List RO × Int
 | []=>p
 | x :: l=>pU (yQ p x) l
theorem yb {r:RH} (hm:r.mark=0){c n:Int} (h:(r.alloc (4*c) n 0).1.2=0):(r.alloc (4*c) n 0).2={ r with objs:=(yQ (r.objs,r.born) (c,n)).1,born:=(yQ (r.objs,r.born) (c,n)).2 }:=by
 unfold RH.alloc at h ⊢;split at h
 ·cases h
 rename_i g1;split at h
 ·cases h
 rename_i g2;split at h
 ·cases h
 rename_i g3;split at h
 ·cases h
 rename_i g4;rw [a0a g1,a0a g2,a0a g3,a0a g4];simp [yQ,ft,hm]
theorem jI (l:List (Int × Int)):∀ {r:RH},r.mark=0->(r.allocAll l).1=0->(r.allocAll l).2={ r with objs:=(pU (r.objs,r.born) l).1,born:=(pU (r.objs,r.born) l).2 }:=by
 induction l with
 | nil=>intro r _ _;rfl
 | cons x l ih =>
  intro r hm h;obtain ⟨c,n⟩:=x;unfold RH.allocAll at h ⊢;split at h
  ·rename_i hn;exact absurd h hn
  rename_i hn;rw [a0a hn];have e:=yb hm (a0v hn)
  have:=ih (r:=(r.alloc (4*c) n 0).2) (by rw [e];exact hm) h;rw [this,e];rfl
theorem uO (l:List (Int × Int)):∀ {r:RH},WFH r->WFH (r.allocAll l).2:=by
 induction l with
 | nil=>intro r h;exact h
 | cons x l ih =>
  intro r h;obtain ⟨c,n⟩:=x;unfold RH.allocAll;split
  ·exact ke h _ _ _
  ·exact ih (ke h _ _ _)
def cI:List ByteArray:=[⟨#[79,98,106,101,99,116]⟩,⟨#[85,110,100,101,102,105,110,101,100,79,98,106,101,99,116]⟩,⟨#[70,97,108,115,101]⟩,⟨#[84,114,117,101]⟩,⟨#[73,110,116,101,103,101,114]⟩,⟨#[83,121,109,98,111,108]⟩,⟨#[83,116,114,105,110,103]⟩,⟨#[65,114,114,97,121]⟩,⟨#[67,108,97,115,115]⟩,⟨#[77,101,116,104,111,100]⟩,⟨#[66,108,111,99,107]⟩,⟨#[67,111,110,116,101,120,116]⟩,⟨#[80,114,111,99,101,115,115]⟩,⟨#[77,101,115,115,97,103,101]⟩]
def fU (i:Nat):List Int:=[4*(i:Int)+2,if i=0 then 4 else 16,72,72,72,1,2*((i:Int)+1)+1]
def PJ (i:Nat) (r:RH):RH:=((r.lay (4+i) 0 (fU i)).put 20 i (4*(4+i))).2
def kI (r:RH):Nat->RH
 | 0=>r
 | n+1=>PJ n (kI r n)
def sP:List Int:=[80,72,72,72,4,8,12]
def cy (r:RH):RH:=(kI r 14).lay 19 0 sP
def cH:List RO:=(pU ([],0) ba).1
def cC (words oops:Int):RH:=⟨words,oops,0,0,0,[]⟩
def bL (words oops:Int):RH:=cy (((cC words oops).allocAll ba).2)
def kQ (words oops:Int):SP:=⟨bL words oops,19,[],false,0,0,0⟩
def jp:TB:=⟨4096,cI⟩
def jQ:KV:=⟨(List.range 14).map fun i:Nat=>⟨4+i,i,if i=0 then 1 else 4,[],18,18,18,[],[],0⟩,20,[],18,[72,72,4,8,12,4]⟩
def Bg:List (Int × List Int):=[(1,[]),(2,[]),(3,[])]++(List.range 14).map (fun i:Nat=>((4+i:Int),fU i))++[(18,[]),(19,[80,72,72,72,4,8,12,4]),(20,(List.range 14).map fun i:Nat=>4*(4+(i:Int)))]
theorem xj (w o m b t:Int):((cy ⟨w,o,m,b,t,cH⟩).objs.map fun x=>(x.oop,x.slots))=Bg:=by kernel_rfl
theorem sr (w o m b t:Int):((cy ⟨w,o,m,b,t,cH⟩).objs.all fun x=>decide (x.fmt=0) && decide (aU x.cls=3))=true:=by kernel_rfl
theorem Ag:(cH.all fun x=>decide (x.fmt=0))=true:=by kernel_rfl
theorem pn:(cI.all fun s=>decide (dE s))=true:=by kernel_rfl
theorem nH:cI.Nodup:=by decide +kernel
theorem AK {words oops:Int} (h0:0<=words) (h1:words<=1048576) (h2:0<=oops) (h3:oops<=65536):WFH (cC words oops) :=
 ⟨h0,h1,h2,h3,a1F _,by simp [cC],⟨by simp [cC],by simp [cC]⟩⟩
theorem Cp {r:RH} (h:WFH r) (n:Nat):WFH (kI r n):=by
 induction n with
 | zero=>exact h
 | succ n ih=>exact kW (xC ih _ _ _) _ _ _
theorem CQ {r:RH} (h:WFH r):WFH (cy r):=xC (Cp h 14) _ _ _
theorem Bq:WFT jp:=⟨by decide,by decide,by decide,nH,fun s hs=>by simpa using a2N.1 pn s hs⟩
theorem ym {i:Nat} (hi:i<cI.length):TB.add ⟨4096,cI.take i⟩ cI[i]=(((i:Int),0),⟨4096,cI.take (i+1)⟩):=by
 have hg:dE cI[i]:=by simpa using a2N.1 pn _ (a04 hi)
 have hn:dt (cI.take i) cI[i]=none:=ku.2 fun hm=>by
  obtain ⟨j,hj,e⟩:=a2O hm;rw [a3M] at e
  have:=(a4z nH).1 e;simp only [a1q] at hj;omega
 have h14:cI.length=14:=rfl;unfold TB.add;rw [a0a (by simpa using hg)];simp only [hn];rw [a0a (by simp only [a1q];omega)];have e1:(cI.take i).length=i:=by rw [a1q];omega
 rw [e1,a1i,a0Q hi];rfl
theorem zV:(jQ.roles.all fun p=>decide (p∈Bg))=true:=by kernel_rfl
theorem Eg:Pz jQ:=by unfold Pz;decide +kernel
theorem nz {words oops:Int} (h:((cC words oops).allocAll ba).1=0):(bL words oops).objs=(cy ⟨words,oops,0,20,0,cH⟩).objs:=by
 have e:((cC words oops).allocAll ba).2=⟨words,oops,0,20,0,cH⟩:=by
  rw [jI ba (r:=cC words oops) rfl h]
  kernel_rfl
 unfold bL;rw [e]
theorem yH {words oops:Int} (hw:WFH (bL words oops)) (h:((cC words oops).allocAll ba).1=0){p:tS} (hp:p∈Bg):iK (bL words oops) p.1 p.2:=by
 have e:=nz h;rw [←xj words oops 0 20 0,←e] at hp;obtain ⟨x,hx,rfl⟩:=a1n.1 hp;have hf:=sr words oops 0 20 0;rw [←e] at hf
 have:=a2N.1 hf x hx;simp only [a2b,decide_eq_true_eq] at this;exact ⟨x,cN hw.objs hx,this.1,rfl⟩
theorem ib (i:Nat) (hi:i<jQ.cls.length):jQ.cls[i]=⟨4+i,i,if i=0 then 1 else 4,[],18,18,18,[],[],0⟩:=by simp [jQ]
theorem AJ {words oops:Int} (h0:0<=words) (h1:words<=1048576) (h2:0<=oops) (h3:oops<=65536):WFH (bL words oops):=by
 unfold bL;exact CQ (uO _ (AK h0 h1 h2 h3))
attribute [local irreducible] bL
theorem KT {words oops:Int} (h0:0<=words) (h1:words<=1048576) (h2:0<=oops) (h3:oops<=65536) (h:((cC words oops).allocAll ba).1=0):KAll (kQ words oops) jp jQ:=by
 have hw:WFH (bL words oops):=AJ h0 h1 h2 h3;have hl:jQ.cls.length=14:=rfl;refine ⟨⟨⟨hw,(by decide:(0:Int)<=19),(by decide:(19:Int)<=65536),(a07 _:([]:List Int).length<=65536),fun w hw=>by cases hw⟩,?_,rfl,rfl,?_,Eg,?_⟩,⟨Bq,?_,?_,?_,?_⟩,rfl⟩
 ·intro x hx;have hf:=sr words oops 0 20 0;rw [←nz h] at hf
  have:=a2N.1 hf x hx;simp only [a2b,decide_eq_true_eq] at this;exact this.2
 ·intro p hp;exact yH hw h (of_decide_eq_true (a2N.1 zV p hp))
 ·refine ⟨rfl,by rw [hl];decide,by rw [hl];decide,by decide,fun _=>?_,fun i hi In=>?_,fun i hi h14=>?_,fun c hc=>?_⟩
  ·rw [ib];exact ⟨rfl,rfl⟩
  ·refine ⟨0,by decide,In,?_⟩;rw [ib,ib];simp only;rw [a0a (by omega)];rfl
  ·rw [ib]
  ·obtain ⟨i,hi,rfl⟩:=a2O hc;rw [ib];simp
 ·intro c hc;obtain ⟨i,hi,rfl⟩:=a2O hc;rw [ib];show i<14;rw [hl] at hi;exact hi
 ·intro c hc n hn;obtain ⟨i,hi,rfl⟩:=a2O hc;rw [ib] at hn;cases hn
 ·intro p hp;cases hp
 ·have:jQ.cls.map (·.name)=List.range 14:=by kernel_rfl
  rw [this];exact a4v
end
theorem tV (t:TB) (s:ByteArray):(t.add s).2.texts.length<=t.texts.length+1∧(t.add s).2.most=t.most:=by
 unfold TB.add;split
 ·exact ⟨a3v _,rfl⟩
 split
 ·exact ⟨a3v _,rfl⟩
 ·split
  ·exact ⟨a3v _,rfl⟩
  ·exact ⟨by simp,rfl⟩
theorem Ct {l:List ByteArray}{s:ByteArray}{n:Nat} (h:dt l s=some n):n<l.length:=by
 induction l generalizing n with
 | nil=>cases h
 | cons x l ih =>
  unfold dt at h;split at h
  ·cases h;simp
  ·cases hx:dt l s with
   | none=>rw [hx] at h;cases h
   | some m =>
    rw [hx] at h;cases h
    have:=ih hx;simp only [a1b];omega
theorem pi {t:TB} (hw:WFT t){acc:List Int}{l:List ByteArray} (ha:∀ w∈acc,dL w):∀ w∈(t.addAll acc l).1.1,dL w:=by
 induction l generalizing t acc with
 | nil=>exact ha
 | cons s l ih =>
  unfold TB.addAll;split
  ·simp
  ·rename_i h0;refine ih (iq hw s) fun w I5=>?_;rcases a0T.1 I5 with h1 | h1
   ·exact ha w h1
   ·rw [a0A.1 h1];have h2:=hw.m1;have h3:=hw.len
    have:0<=(t.add s).1.1∧(t.add s).1.1<4096:=by
     unfold TB.add at h0 ⊢;by_cases hg:dE s
     ·rw [a0a (fun e=>e hg)] at h0 ⊢;cases hn:dt t.texts s with
      | some n =>
       have an:n<t.texts.length:=Ct hn;simp only;omega
      | none =>
       rw [hn] at h0;simp only at h0 ⊢;by_cases hm:t.most<=(t.texts.length:Int)
       ·rw [a0b hm] at h0;simp at h0
       ·rw [a0a hm];simp only;omega
     ·rw [a0b hg] at h0;simp at h0
    unfold dL
    have:=bE (4*(t.add s).1.1+2);omega
end Kw
namespace Kw
open Go
def cK (r:RH) (w:Int):Int:=if (mQ r w).2≠0 then 0 else (mQ r w).1
def nD (v:KV) (c:Int):Nat->Int->Bool
 | 0,_=>false
 | n+1,o=>if o=0 then false else if o=c then true else match eR v o with
  | some i=>nD v c n (dG v i)
  | none=>false
def iR (v:KV) (c o:Int):Bool:=nD v c (v.cls.length+3) o
def dl (r:RH) (w:Int):Int × Int:=if aU w=3 then ((r.size (w / 4)).1,(r.size (w / 4)).2.1) else (0,0)
def eU (r:RH) (w i:Int):Int:=(r.at (d7 w) i).1
def gd (r:RH) (c w:Int):Bool:=if c=12 then decide ((dl r w).1=7) else if c=14 then decide ((dl r w).1=6) && decide (aU (eU r w 4)=1) else if c=17 then decide ((dl r w).1=2) else true
def tw (x:Bool):Int:=if x then 12 else 8
def jB (v:KV) (o:Int):Nat:=if o=0 then 0 else match eR v o with
 | some i=>i+2
 | none=>1
theorem yo {s:SP}{v:KV} (h:KS s v){o:Int} (ho:o≠0){i:Nat} (hi:eR v o=some i):jB v (dG v i)<jB v o:=by
 obtain ⟨an,_⟩:=dS hi;have e:jB v o=i+2:=by unfold jB;rw [a0a ho,hi]
 rw [e];rcases h.upI an with ⟨_,h1,_⟩ | ⟨j,hj,JW,_,_,h2⟩
 ·unfold jB;rw [a0b h1];omega
 ·unfold jB;split
  ·omega
  ·have h2':eR v (dG v i)=some j:=h2;rw [h2'];simp only;omega
def SP.putW (s:SP) (w i x:Int):Int × SP:=((s.h.put (d7 w) i x).1,{ s with h:=(s.h.put (d7 w) i x).2 })
def iA (n:Int):Int × Int:=if -1073741824<=n∧n<=1073741823 then (2*n+1,0) else (0,1)
theorem lP {n:Int} (h:-1073741824<=n∧n<=1073741823):iA n=(2*n+1,0):=a0b h
def bG (n x:Int):Int × Int:=if aU x≠1 then (0,170) else if x / 2<1∨n<x / 2 then (0,171) else (x / 2-1,0)
def sR (r:RH) (w x:Int):Int × Int:=if (bG (dl r w).1 x).2≠0 then (0,(bG (dl r w).1 x).2) else iA (eU r w (bG (dl r w).1 x).1)
def SP.layE (s:SP) (w:Int):Int->List Int->Int × SP
 | _,[]=>(0,s)
 | i,x :: xs=>if (SP.putW s w i x).1≠0 then SP.putW s w i x else SP.layE (SP.putW s w i x).2 w (i+1) xs
noncomputable def SP.makeP (s:SP) (cls fmt:Int) (xs:List Int):(Int × Int) × SP :=
 if (s.alloc (4*cls) xs.length fmt).1.2≠0 then ((0,(s.alloc (4*cls) xs.length fmt).1.2),(s.alloc (4*cls) xs.length fmt).2)
 else ((if ((s.alloc (4*cls) xs.length fmt).2.layE (s.alloc (4*cls) xs.length fmt).1.1 0 xs).1=0 then (s.alloc (4*cls) xs.length fmt).1.1 else 0,((s.alloc (4*cls) xs.length fmt).2.layE (s.alloc (4*cls) xs.length fmt).1.1 0 xs).1),((s.alloc (4*cls) xs.length fmt).2.layE (s.alloc (4*cls) xs.length fmt).1.1 0 xs).2)
def bN (x:ByteArray):List Int:=x.data.toList.map fun u=>(u.toNat:Int)
theorem ik (x:ByteArray):(bN x).length=x.size:=by unfold bN;simp
theorem iv (x:ByteArray):∀ w∈bN x,0<=w∧w<=255:=by
 intro w hw;obtain ⟨u,_,rfl⟩:=a1n.1 hw
 have:=u.toNat_lt;omega
def mR (r:RH) (k:Int) (xs:List Int):Prop:=∃ o,aT r.objs k=some o∧o.fmt=1∧o.cls=40∧o.slots=xs
def qs (r r':RH) (k:Int):Prop:=∀ j,j≠k->aT r'.objs j=aT r.objs j
theorem qs.trans {r r' r'':RH}{k:Int} (h:qs r r' k) (h':qs r' r'' k):qs r r'' k:=fun j hj=>(h' j hj).trans (h j hj)
theorem sG (r:RH) (k i w:Int):qs r (r.put k i w).2 k:=by
 intro j hj;unfold RH.put;split
 ·rfl
 split
 ·rfl
 split
 ·rfl
 ·show aT (gX r.objs k (d8 i w)) j=_;rw [dH (f:=d8 i w) fun _=>rfl];cases ha:aT r.objs j with
  | none=>rfl
  | some a =>
   simp only [a2Q]
   have:=(aR ha).2;rw [a0a (by omega)]
theorem He {r:RH}{k:Int}{xs:List Int} (h:mR r k xs){i:Nat}{w:Int} (hi:i<xs.length) (h0:0<=w) (h1:w<=255):(r.put k (i:Int) w).1=0∧mR (r.put k (i:Int) w).2 k (xs.set i w):=by
 obtain ⟨o,ho,hf,hc,rfl⟩:=h;have hm:fv o.fmt w:=by rw [hf];unfold fv;rw [a0b rfl];exact ⟨h0,h1⟩
 unfold RH.put;rw [ho];simp only;rw [a0a (by omega),a0a (fun e=>e hm)];refine ⟨rfl,d8 i w o,?_,hf,hc,by simp [d8]⟩;show aT (gX r.objs k (d8 (i:Int) w)) k=_;rw [dH (f:=d8 (i:Int) w) fun _=>rfl,ho]
 have:=(aR ho).2;simp [this]
theorem fo.same1 {r r':RH}{v:KV} (h:fo r v){k:Int} (hs:qs r r' k) (hk:∀ p∈v.roles,p.1≠k):fo r' v:=fun p hp=>by
 obtain ⟨x,h1,h2,h3⟩:=h p hp;exact ⟨x,by rw [hs _ (hk p hp)];exact h1,h2,h3⟩
end Kw
namespace Kw
open Go
end Kw
namespace Go.Proofs.YtgjfejoohojokaaGreatDoor
open Kw
abbrev cv (b:Nat) (r:Int) (a:Option Addr) (l c:Nat):Value:=.agg #[QW b,ac r,.slice a l c]
abbrev cc (b:Nat) (r:Int) (a:Option Addr) (l c:Nat):Array Value:=#[QW b,ac r,.slice a l c]
section
variable {H:au}{b:Nat}{F:aS}{s:SP}{t:TB}{v:KV}{Q:QT}{r:Int}{a:Option Addr}{l c:Nat}
theorem dY {x:Bool} (h:Q (.tuple #[ac (tw x),ac 0]) H):ag PP 286 #[.bool x] Q H:=by
 apply Fc;dsimp only [aA,ah,ak,ac];cases x
 ·rw [a0f];exact pr (by decide) ⟨_,_,rfl,h⟩
 ·rw [a0P];exact pr (by decide) ⟨_,_,rfl,h⟩
theorem pm (hK:PK H b F s t) (hv:KAllW s t v){w:Int} (h:∀ H',Fr [] H H'->Q (ac (cK s.h w)) H'):ag PP 86 #[cv b r a l c,ac w] Q H:=by
 apply L3;dsimp only [aL,ah,ak,aF,ac,av,am,aJ,ax];have f:=Fr.push [] H (.cells (cc b r a l c) 138);have hb:=bI.new H (cc b r a l c) 138;refine ⟨_,hb.cell 0,Qu (hK.nil f) hv ⟨_,_,rfl,?_⟩⟩
 have:=h _ f;unfold cK at this;rw [bn,ae];refine aD (fun h1=>?_) fun h1=>?_
 ·rw [a0b h1] at this;exact this
 ·rw [a0a h1] at this;exact this
theorem yT (hK:PK H b F s t) (hv:KAllW s t v){w k:Int} (h:∀ H',Fr [] H H'->Q (.bool (iR v k (cK s.h w))) H'):ag PP 87 #[cv b r a l c,ac w,ac k] Q H:=by
 apply MM;dsimp only [aL,aN,aP,aC,ah,ak,ay,aK,aF,aZ,ac,bX,av,bm,am,aJ,ax];have f:=Fr.push [] H (.cells (cc b r a l c) 138);have hb:=bI.new H (cc b r a l c) 138;refine ⟨_,hb.cell 0,_,hb.cell 1,_,_,_,hb.cell 2,pm (hK.nil f) hv fun H1 f1=>⟨_,rfl,?_⟩⟩;have f01:=f.trans f1;have cj:=hb.fr f1 (by simp);have RM:jB v (cK s.h w)<v.cls.length+3:=by
  unfold jB;split
  ·omega
  ·split
   ·rename_i i hi
    have:=(dS hi).1;omega
   ·omega
 refine ⟨fun w' H'=>∃(o:Int) (n:Nat),w'=[ac o]∧Fr [] H H'∧bI H' H.size (cc b r a l c)∧jB v o<n∧nD v k n o=iR v k (cK s.h w),fun w' _=>match w' with
  | [.int _ o]=>jB v o
  | _=>0,⟨_,_,rfl,f01,cj,RM,rfl⟩,?_⟩
 rintro w' H2 ⟨o,n,rfl,f2,k8,hn,hk⟩ _;refine ⟨_,rfl,?_⟩;obtain ⟨n,rfl⟩:∃ m,n=m+1:=⟨n-1,by omega⟩;unfold nD at hk;have hq:=h _ f2;rw [←hk] at hq;rw [bn,ae];refine aD (fun h1=>?_) fun h1=>?_
 ·rw [a0a h1] at hq;rw [bq,ae];refine aD (fun h2=>?_) fun h2=>?_
  ·rw [a0b h2] at hq;exact hq
  rw [a0a h2] at hq;rw [a0a h1,a0a h2] at hk;refine ⟨_,k8.cell 0,BN (hK.nil f2) hv fun H3 f3=>?_⟩;cases hp:eR v o with
  | none =>
   rw [hp] at hk;refine ⟨_,_,rfl,?_⟩;have OE:=h _ (f2.trans f3);rw [←hk] at OE;exact OE
  | some i =>
   rw [hp] at hk;refine ⟨_,_,rfl,?_⟩;have hr:=yo hv.ks h1 hp;exact ⟨⟨_,n,rfl,f2.trans f3,k8.fr f3 (by simp),by omega,hk⟩,hr⟩
 ·have UT:=a0v h1;rw [a0b UT] at hq;exact hq
theorem gC (hK:PK H b F s t){w:Int} (h:∀ H',Fr [] H H'->Q (.tuple #[ac (dl s.h w).1,ac (dl s.h w).2]) H'):ag PP 222 #[cv b r a l c,ac w] Q H:=by
 apply Lh;dsimp only [aL,aA,du,ah,bW,ak,aF,ac,av,am,aJ];have f:=Fr.push [] H (.cells (cc b r a l c) 138);have hb:=bI.new H (cc b r a l c) 138;have s5:=hK.nil f;refine kJ s5.kinds ?_;have hq:=h _ f;unfold dl at hq;unfold mr;by_cases hk:aU w=3
 ·rw [a0b hk] at hq ⊢;refine ⟨_,_,rfl,?_⟩;simp only [show ((0:Int) != 0)=false from rfl,a0f];exact ⟨_,hb.cell 0,dX s5 fun sb F1 _ hS _ _ _=>⟨_,rfl,eQ hS fun hb F2 hR _ _=>⟨_,rfl,pN hR ⟨_,_,_,rfl,hq⟩⟩⟩⟩
 ·rw [a0a hk] at hq ⊢;exact ⟨_,_,rfl,hq⟩
theorem nL (hK:PK H b F s t){w i:Int} (h:∀ H',Fr [] H H'->Q (ac (eU s.h w i)) H'):ag PP 223 #[cv b r a l c,ac w,ac i] Q H:=by
 apply Lu;dsimp only [aL,du,ak,aF,ac,av,am,aJ];have f:=Fr.push [] H (.cells (cc b r a l c) 138);have hb:=bI.new H (cc b r a l c) 138;have s5:=hK.nil f;refine kJ s5.kinds ?_;have hq:=h _ f;unfold eU d7 at hq;unfold mr;by_cases hk:aU w=3
 ·rw [a0b hk] at hq ⊢;exact ⟨_,_,rfl,_,hb.cell 0,dX s5 fun sb F1 _ hS _ _ _=>⟨_,rfl,eQ hS fun hb F2 hR _ _=>⟨_,rfl,uR hR ⟨_,_,rfl,hq⟩⟩⟩⟩
 ·rw [a0a hk] at hq ⊢;exact ⟨_,_,rfl,_,hb.cell 0,dX s5 fun sb F1 _ hS _ _ _=>⟨_,rfl,eQ hS fun hb F2 hR _ _=>⟨_,rfl,uR hR ⟨_,_,rfl,hq⟩⟩⟩⟩
theorem CP (hK:PK H b F s t){k:Int} (h:∀ H',Fr [] H H'->Q (.bool (gd s.h k r)) H'):ag PP 88 #[cv b r a l c,ac k] Q H:=by
 apply MP;dsimp only [aL,aN,aP,aC,ah,ak,ay,aK,aF,aZ,ac,av,am,aJ,ax];have f:=Fr.push [] H (.cells (cc b r a l c) 138);have hb:=bI.new H (cc b r a l c) 138;refine ⟨_,hb.cell 0,_,hb.cell 1,_,_,_,hb.cell 2,_,hb.cell 1,gC (hK.nil f) fun H1 f1=>⟨_,_,rfl,?_⟩⟩;have f01:=f.trans f1;have cj:=hb.fr f1 (by simp);have hq:=fun H' f=>h H' f;unfold gd at hq;rw [bq,ae];refine aD (fun h1=>?_) fun h1=>?_
 ·simp only [a0b h1] at hq;rw [bq];exact hq _ f01
 simp only [a0a h1] at hq;rw [bq,ae];refine aD (fun h2=>?_) fun h2=>?_
 ·simp only [a0b h2] at hq;rw [bq,ae];refine aD (fun h3=>?_) fun h3=>?_
  ·simp only [a00 h3,a4m] at hq;refine ⟨_,cj.cell 0,_,cj.cell 1,_,_,_,cj.cell 2,_,cj.cell 1,nL (hK.nil f01) fun H2 f2=>⟨_,rfl,lm (hK.nil (f01.trans f2)).kinds ⟨_,rfl,?_⟩⟩⟩;rw [bq];exact hq _ (f01.trans f2)
  ·simp only [a09 h3,a3I] at hq;exact hq _ f01
 simp only [a0a h2] at hq;rw [bq,ae];refine aD (fun h3=>?_) fun h3=>?_
 ·simp only [a0b h3] at hq;rw [bq];exact hq _ f01
 ·simp only [a0a h3] at hq;exact hq _ f01
theorem xP (hK:PK H b F s t){w i x:Int} (h:∀ H',PK H' b F (SP.putW s w i x).2 t->Fr F H H'->Q (ac (SP.putW s w i x).1) H'):ag PP 305 #[cv b r a l c,ac w,ac i,ac x] Q H:=by
 apply Kh;dsimp only [aL,aC,du,ak,aF,ac,av,am,aJ];have f:=Fr.push [] H (.cells (cc b r a l c) 138);have hb:=bI.new H (cc b r a l c) 138;have s5:=hK.nil f;refine kJ s5.kinds ?_;have go:∀ o:Int,o=d7 w->∃ p10:Option Addr,aq (H.push (.cells (cc b r a l c) 138)) ⟨H.size,0,none⟩=some (.pointer p10)∧ag PP 7 #[.pointer p10] (fun v11 H2=>∃ p12:Option Addr,v11=.pointer p12∧ag PP 44 #[.pointer p12] (fun v13 H3=>∃ p14:Option Addr,v13=.pointer p14∧ag PP 148 #[.pointer p14,ac o,ac i,ac x] (fun v15 H4=>∃ n16:Int,v15=ac n16∧Q (ac n16) H4) H3) H2) (H.push (.cells (cc b r a l c) 138)):=by
  rintro o rfl;refine ⟨_,hb.cell 0,dX s5 fun sb F1 _ hS ff _ s6=>⟨_,rfl,eQ hS fun hb F2 hR Jr JK=>⟨_,rfl,L5 hR fun H' RC s7=>⟨_,rfl,h H' ?_ ?_⟩⟩⟩⟩
  ·exact s6 H' _ (JK H' _ RC s7) (s7.mono Jr)
  ·refine ⟨a0O f.1 s7.1,fun x hx hn=>?_⟩;rw [s7.2 x (a0X hx f.1) (fun hm=>hn (ff _ (Jr _ hm))),f.2 x hx (by simp)]
 unfold mr;by_cases hk:aU w=3
 ·rw [a0b hk];exact ⟨_,_,rfl,go _ (by unfold d7;rw [a0b hk])⟩
 ·rw [a0a hk];exact ⟨_,_,rfl,go _ (by unfold d7;rw [a0a hk])⟩
end
theorem zd (w:Int):mr 1 (· / 2) w=.tuple #[ac (cG w),ac (if aU w=1 then 0 else 10)]:=by
 unfold mr cG;by_cases h:aU w=1
 ·rw [a0b h,a0b h,a0b h]
 ·rw [a0a h,a0a h,a0a h]
section
variable {H:au}{b:Nat}{F:aS}{s:SP}{t:TB}{v:KV}{Q:QT}{r x:Int}{a:Option Addr}{l c:Nat}{ws:List Int}
theorem od {n:Int} (h:Q (.tuple #[ac (iA n).1,ac (iA n).2]) H):ag PP 268 #[ac n] Q H:=by
 unfold iA at h;by_cases hn:-1073741824<=n∧n<=1073741823
 ·rw [a0b hn] at h;exact LK hn h
 ·rw [a0a hn] at h;apply zx;dsimp only [aA,bk,ah,ac];refine E6 ⟨_,rfl,?_⟩;rw [a09 hn];exact h
theorem EQ (hr:Rd 1 H a l (az (x :: ws))):((0:Int)<=0∧0<(l:Int))∧∃ q,a=some q∧∃ n:Int,aq H (q.add (Int.toNat 0*1))=some (ac n)∧n=x:=by
 have hl:=hr.1;simp only [az,a1p,a1b,a0y] at hl;obtain ⟨p,h1,h2,h3⟩:=hr.int (i:=0) (by omega) (by omega);exact ⟨⟨by omega,by omega⟩,p,h1,_,h2,rfl⟩
theorem Rd.nilF {H H':au}{a:Option Addr}{l:Nat}{ys:List Value} (h:Rd 1 H a l ys) (hf:Fr [] H H'):Rd 1 H' a l ys:=h.fr' hf (by simp)
theorem yP (hK:PK H b F s t) (hr:Rd 1 H a l (az (x :: ws))) (gw:aU x≠1->∀ H',Fr [] H H'->Q (.tuple #[ac 0,ac 0,ac 170]) H')
  (h:aU x=1->∀ H',Fr [] H H'->Q (.tuple #[ac (cG r),ac (x / 2),ac 0]) H'):ag PP 296 #[cv b r a l c] Q H:=by
 apply Li;dsimp only [aN,ah,ak,ay,aK,bc,ac,bf,av,am,aJ,ax,bJ];have f:=Fr.push [] H (.cells (cc b r a l c) 138);have hb:=bI.new H (cc b r a l c) 138;refine ⟨_,hb.cell 1,qt (hK.nil f).kinds ?_⟩;rw [zd];obtain ⟨h1,q,h2,n,h3,rfl⟩:=EQ (Rd.nilF hr f);refine ⟨_,_,rfl,_,_,_,hb.cell 2,h1,q,h2,_,h3,qt (hK.nil f).kinds ?_⟩;unfold mr;by_cases hk:aU n=1
 ·rw [a0b hk];exact ⟨_,_,rfl,h hk _ f⟩
 ·rw [a0a hk];exact ⟨_,_,rfl,gw hk _ f⟩
theorem xm (hK:PK H b F s t) (hr:Rd 1 H a l (az (x :: ws))){q g:Nat} (hq:bI H q #[.func (.func g) #[] #[]]) (gw:aU x≠1->∀ H',Fr [] H H'->Q (.tuple #[ac 0,ac 170]) H')
  (h:aU x=1->∀ H',Fr [] H H'->ag PP g #[ac (cG r),ac (x / 2)] (fun v12 H2=>∃ n13:Int,∃ n14:Int,v12=.tuple #[ac n13,ac n14]∧cond (n14 != 0) (Q (.tuple #[ac 0,ac n14]) H2) (ag PP 268 #[ac n13] (fun v15 H3=>∃ n16:Int,∃ n17:Int,v15=.tuple #[ac n16,ac n17]∧Q (.tuple #[ac n16,ac n17]) H3) H2)) H') :
  ag PP 295 #[cv b r a l c,QW q] Q H:=by
 apply Lb;dsimp only [aL,aN,aA,ah,bW,ak,nX,ay,aK,aF,aZ,ac,av,am,aJ,ax];have f:=Fr.push [] H (.cells (cc b r a l c) 138);have hb:=bI.new H (cc b r a l c) 138;refine ⟨_,hb.cell 0,_,hb.cell 1,_,_,_,hb.cell 2,yP (hK.nil f) (Rd.nilF hr f) (fun hk H1 f1=>⟨_,_,_,rfl,gw hk _ (f.trans f1)⟩) fun hk H1 f1=>⟨_,_,_,rfl,?_⟩⟩;exact .inl ⟨g,#[],#[],(hq.fr (f.trans f1) (by simp)).cell 0,h hk _ (f.trans f1)⟩
theorem vG (hK:PK H b F s t) (hr:Rd 1 H a l (az (x :: ws))){q g:Nat} (hq:bI H q #[.func (.func g) #[] #[]]){f2:Int->Int->Bool} (hg:∀ (n m:Int){H:au}{Q:QT},Q (.bool (f2 n m)) H->ag PP g #[ac n,ac m] Q H)
  (gw:aU x≠1->∀ H',Fr [] H H'->Q (.tuple #[ac 0,ac 170]) H') (h:aU x=1->∀ H',Fr [] H H'->Q (.tuple #[ac (tw (f2 (cG r) (x / 2))),ac 0]) H') :
  ag PP 299 #[cv b r a l c,QW q] Q H:=by
 apply E4;dsimp only [aL,aN,aA,aP,bk,ah,bW,ak,nX,ay,aK,aF,aZ,ac,av,am,aJ,ax];have f:=Fr.push [] H (.cells (cc b r a l c) 138);have hb:=bI.new H (cc b r a l c) 138;refine ⟨_,hb.cell 0,_,hb.cell 1,_,_,_,hb.cell 2,yP (hK.nil f) (Rd.nilF hr f) (fun hk H1 f1=>⟨_,_,_,rfl,gw hk _ (f.trans f1)⟩) fun hk H1 f1=>⟨_,_,_,rfl,?_⟩⟩;refine .inl ⟨g,#[],#[],(hq.fr (f.trans f1) (by simp)).cell 0,?_⟩;exact hg _ _ ⟨_,rfl,dY ⟨_,_,rfl,h hk _ (f.trans f1)⟩⟩
theorem ur (hr:Rd 1 H a l (az (x :: ws))) (h:∀ H',Fr [] H H'->Q (.tuple #[ac (tw (decide (r=x))),ac 0]) H'):ag PP 171 #[cv b r a l c] Q H:=by
 apply KE;dsimp only [aN,aA,aP,ak,ay,aK,bc,ac,bf,av,am,aJ,ax];have f:=Fr.push [] H (.cells (cc b r a l c) 138);have hb:=bI.new H (cc b r a l c) 138;obtain ⟨h1,q,h2,n,h3,rfl⟩:=EQ (Rd.nilF hr f);refine ⟨_,hb.cell 1,_,_,_,hb.cell 2,h1,q,h2,_,h3,?_⟩;rw [bq];exact dY ⟨_,_,rfl,trivial,h _ f⟩
theorem vU (hr:Rd 1 H a l (az (x :: ws))) (h:∀ H',Fr [] H H'->Q (.tuple #[ac (tw (decide (r≠x))),ac 0]) H'):ag PP 172 #[cv b r a l c] Q H:=by
 apply EB;dsimp only [aN,aA,aP,ak,ay,aK,bc,ac,bf,av,am,aJ,ax];have f:=Fr.push [] H (.cells (cc b r a l c) 138);have hb:=bI.new H (cc b r a l c) 138;obtain ⟨h1,q,h2,n,h3,rfl⟩:=EQ (Rd.nilF hr f);refine ⟨_,hb.cell 1,_,_,_,hb.cell 2,h1,q,h2,_,h3,?_⟩;rw [bn];exact dY ⟨_,_,rfl,trivial,h _ f⟩
theorem rD (hK:PK H b F s t) (h:∀ H',Fr [] H H'->Q (ac (cG r)) H'):ag PP 300 #[cv b r a l c] Q H:=by
 apply IC;dsimp only [aN,ak,ay,ac,av,am,aJ,ax];have f:=Fr.push [] H (.cells (cc b r a l c) 138);have hb:=bI.new H (cc b r a l c) 138;refine ⟨_,hb.cell 1,qt (hK.nil f).kinds ?_⟩;rw [zd];exact ⟨_,_,rfl,h _ f⟩
theorem Ki (hK:PK H b F s t) (h:∀ H',Fr [] H H'->Q (.tuple #[ac (tw (decide (cG r % 2=0))),ac 0]) H'):ag PP 201 #[cv b r a l c] Q H:=by
 apply I1;dsimp only [aL,aN,aA,aP,aC,ak,ay,aK,aF,aZ,ac,av,am,aJ,ax];have f:=Fr.push [] H (.cells (cc b r a l c) 138);have hb:=bI.new H (cc b r a l c) 138;refine ⟨_,hb.cell 0,_,hb.cell 1,_,_,_,hb.cell 2,rD (hK.nil f) fun H1 f1=>⟨_,rfl,?_⟩⟩;rw [za,bq];exact dY ⟨_,_,rfl,h _ (f.trans f1)⟩
theorem LP (hK:PK H b F s t) (h:∀ H',Fr [] H H'->Q (.tuple #[ac (tw (decide (cG r % 2=1))),ac 0]) H'):ag PP 202 #[cv b r a l c] Q H:=by
 apply Km;dsimp only [aL,aN,aA,aP,aC,ak,ay,aK,aF,aZ,ac,av,am,aJ,ax];have f:=Fr.push [] H (.cells (cc b r a l c) 138);have hb:=bI.new H (cc b r a l c) 138;refine ⟨_,hb.cell 0,_,hb.cell 1,_,_,_,hb.cell 2,rD (hK.nil f) fun H1 f1=>⟨_,rfl,?_⟩⟩;rw [za,bq];exact dY ⟨_,_,rfl,h _ (f.trans f1)⟩
theorem yD (hK:PK H b F s t) (h:∀ H',Fr [] H H'->Q (.tuple #[ac (iA (dl s.h r).1).1,ac (iA (dl s.h r).1).2]) H'):ag PP 207 #[cv b r a l c] Q H:=by
 apply EP;dsimp only [aL,aN,aA,ak,ay,aK,aF,aZ,ac,av,am,aJ,ax];have f:=Fr.push [] H (.cells (cc b r a l c) 138);have hb:=bI.new H (cc b r a l c) 138;exact ⟨_,hb.cell 0,_,hb.cell 1,_,_,_,hb.cell 2,_,hb.cell 1,gC (hK.nil f) fun H1 f1=>⟨_,_,rfl,od ⟨_,_,rfl,h _ (f.trans f1)⟩⟩⟩
theorem ve (hK:PK H b F s t) (h:∀ H',Fr [] H H'->Q (.tuple #[ac (tw (decide ((dl s.h r).1=0))),ac 0]) H'):ag PP 208 #[cv b r a l c] Q H:=by
 apply HZ;dsimp only [aL,aN,aA,aP,ak,ay,aK,aF,aZ,ac,av,am,aJ,ax];have f:=Fr.push [] H (.cells (cc b r a l c) 138);have hb:=bI.new H (cc b r a l c) 138;refine ⟨_,hb.cell 0,_,hb.cell 1,_,_,_,hb.cell 2,_,hb.cell 1,gC (hK.nil f) fun H1 f1=>⟨_,_,rfl,?_⟩⟩;rw [bq];exact dY ⟨_,_,rfl,h _ (f.trans f1)⟩
theorem qG (hK:PK H b F s t) (hr:Rd 1 H a l (az (x :: ws))){n:Int} (h:∀ H',Fr [] H H'->Q (.tuple #[ac (bG n x).1,ac (bG n x).2]) H'):ag PP 304 #[cv b r a l c,ac n] Q H:=by
 apply FZ;dsimp only [aN,aA,ah,ak,bP,aX,ay,aK,bc,ac,bf,av,am,aJ,ax,aI];have f:=Fr.push [] H (.cells (cc b r a l c) 138);have hb:=bI.new H (cc b r a l c) 138;obtain ⟨h1,q,h2,m,h3,rfl⟩:=EQ (Rd.nilF hr f);refine ⟨_,_,_,hb.cell 2,h1,q,h2,_,h3,qt (hK.nil f).kinds ?_⟩;have hq:=h _ f;unfold bG at hq;unfold mr;by_cases hk:aU m=1
 ·rw [a0b hk];rw [a0a (fun e=>e hk)] at hq;refine ⟨_,_,rfl,?_⟩;simp only [show ((0:Int) != 0)=false from rfl,a0f];have hw:=bE m;rw [ae];refine aD (fun h4=>?_) fun h4=>?_
  ·rw [a0b (.inl h4)] at hq;exact hq
  rw [ae];refine aD (fun h5=>?_) fun h5=>?_
  ·rw [a0b (.inr h5)] at hq;exact hq
  ·rw [a0a (by omega)] at hq;rw [ao (by omega) (by omega)];exact hq
 ·rw [a0a hk];rw [a0b hk] at hq;exact ⟨_,_,rfl,hq⟩
theorem zY (hK:PK H b F s t) (hr:Rd 1 H a l (az (x :: ws))) (h:∀ H',Fr [] H H'->Q (.tuple #[ac (sR s.h r x).1,ac (sR s.h r x).2]) H'):ag PP 209 #[cv b r a l c] Q H:=by
 apply Ip;dsimp only [aL,aN,aA,aC,ah,ak,ay,aK,aF,aZ,ac,av,am,aJ,ax];have f:=Fr.push [] H (.cells (cc b r a l c) 138);have hb:=bI.new H (cc b r a l c) 138;refine ⟨_,hb.cell 0,_,hb.cell 1,_,_,_,hb.cell 2,_,hb.cell 1,gC (hK.nil f) fun H1 f1=>⟨_,_,rfl,?_⟩⟩;have f01:=f.trans f1;have cj:=hb.fr f1 (by simp);refine ⟨_,cj.cell 0,_,cj.cell 1,_,_,_,cj.cell 2,qG (hK.nil f01) (Rd.nilF hr f01) fun H2 f2=>⟨_,_,rfl,?_⟩⟩;have f02:=f01.trans f2;have k8:=cj.fr f2 (by simp);have hq:=fun H' f=>h H' f;unfold sR at hq;rw [bn,ae];refine aD (fun h4=>?_) fun h4=>?_
 ·simp only [a0b h4] at hq;exact hq _ f02
 ·simp only [a0a h4] at hq;exact ⟨_,k8.cell 0,_,k8.cell 1,_,_,_,k8.cell 2,_,k8.cell 1,nL (hK.nil f02) fun H3 f3=>⟨_,rfl,od ⟨_,_,rfl,hq _ (f02.trans f3)⟩⟩⟩
end
theorem fZ {P:Prop} [Decidable P] {A B:Prop} (h1:P->A) (h2:¬ P->B):cond (decide P) A B:=by
 rw [ae];exact aD h1 h2
theorem vI {H:au}{a:Option Addr}{l c:Nat}{ys:List Value}{F:aS} (ho:bZ 1 H a l c ys F){i:Nat} (hi:i<l) (v:Value):∃ b,a=some ⟨b,0,none⟩∧Wr H ⟨b,i,none⟩∧Fr F H (aQ H ⟨b,i,none⟩ v)∧bZ 1 (aQ H ⟨b,i,none⟩ v) a l c (ys.set i v) F:=by
 have hlc:=ho.2.1;rcases ho.2.2 with ⟨_,h2,_⟩ | ⟨b,cs,rfl,rfl,hb,zw,lj⟩
 ·omega
 ·refine ⟨b,rfl,hb.wr (by omega),Fr.set (by simp),⟨by rw [a33];exact ho.1,hlc,.inr ⟨b,_,rfl,rfl,hb.set i v,by simpa using zw,?_⟩⟩⟩;rw [←lj];simp [List.take_set]
theorem wo {k:Nat}{H:au}{a:Option Addr}{l m c:Nat}{xs ys:List Value}{F:aS} (h:bZ k H a (l+m) c (xs++ys) F) (hx:xs.length=l*k):bZ k H a l c xs F:=by
 refine ⟨hx,by have:=h.2.1;omega,h.2.2.imp id ?_⟩;rintro ⟨b,cs,h1,h2,h3,h4,h5⟩;refine ⟨b,cs,h1,h2,h3,h4,?_⟩;have h6:(cs.toList.take ((l+m)*k)).take (l*k)=(xs++ys).take (l*k):=by rw [h5]
 rw [a4f,a4E (a3a k (by omega))] at h6;rw [h6,a2J (by omega)];exact a0Y (by omega)
section
variable {H:au}{b:Nat}{F:aS}{s:SP}{t:TB}{v:KV}{Q:QT}{r x:Int}{a:Option Addr}{l c:Nat}{ws:List Int}
theorem zf (hK:PK H b F s t){k fmt:Int} (hk:1<=k∧k<=65536){a6:Option Addr}{l6 c6:Nat}{xs:List Int} (hx:Rd 1 H a6 l6 (az xs)) (ho:∀ p,a6=some p->p.block∉F) (hl:l6<=1000000000)
  (h:∀ H',PK H' b F (s.makeP k fmt xs).2 t->Fr F H H'->Q (.tuple #[ac (s.makeP k fmt xs).1.1,ac (s.makeP k fmt xs).1.2]) H') :
  ag PP 290 #[cv b r a l c,ac k,ac fmt,.slice a6 l6 c6] Q H:=by
 apply Gu;dsimp only [aL,aN,aA,aC,du,ah,ak,aX,ay,aK,aF,bc,aZ,ac,bf,bX,av,bm,am,aJ,aI];have hlen:l6=xs.length:=by have:=hx.1;simpa [az] using this.symm
 have f:=Fr.push [] H (.cells (cc b r a l c) 138);have hb:=bI.new H (cc b r a l c) 138;have s5:=hK.nil f;have Tx:H.size∉F:=fun hm=>by have:=hK.lt _ hm;omega
 have Oq:=Rd.nilF hx f;refine pr hk ⟨_,_,rfl,_,hb.cell 0,dX s5 fun sb F1 _ hS ff _ s6=>⟨_,rfl,jZ hS fun H3 W9 f3=>⟨_,_,rfl,?_⟩⟩⟩;have I4:=s6 H3 _ W9 f3;have f3F:Fr F H H3:=⟨a0O f.1 f3.1,fun y hy hn=>by rw [f3.2 y (a0X hy f.1) (fun hm=>hn (ff y hm)),f.2 y hy (by simp)]⟩;have Ju:=hb.fr f3 (fun hm=>Tx (ff _ hm));have Sg:Rd 1 H3 a6 l6 (az xs):=Oq.fr' f3 fun p hp hm=>ho p hp (ff _ hm);have hq:=h;unfold SP.makeP at hq;rw [←hlen] at hq;generalize s.alloc (4*k) (l6:Int) fmt=A at I4 hq ⊢;rw [bn,ae];refine aD (fun he=>?_) fun he=>?_
 ·simp only [a0b he] at hq;exact hq _ I4 f3F
 have he0:A.1.2=0:=a0v he;simp only [a0a he] at hq;rw [a0b he0];obtain ⟨L,eL⟩:∃ L,L=A.2.layE A.1.1 0 xs:=⟨_,rfl⟩;rw [←eL] at hq;refine ⟨fun w H'=>∃(i:Nat) (si:SP),w=[ac i]∧i<=l6∧PK H' b F si t∧Fr F H H'∧bI H' H.size (cc b r a l c)∧Rd 1 H' a6 l6 (az xs)∧si.layE A.1.1 i (xs.drop i)=L,fun w _=>match w with
  | [.int _ i]=>((l6:Int)-i).toNat
  | _=>0,⟨0,A.2,rfl,a07 _,I4,f3F,Ju,Sg,eL.symm⟩,?_⟩
 rintro w H4 ⟨i,si,rfl,hi,J4,f4,Jq,Ur,hL⟩ _;refine ⟨_,rfl,fZ (fun an=>?_) fun JR=>?_⟩
 ·have ui:i<xs.length:=by omega
  obtain ⟨q,Jf,AT,OE⟩:=Ur.int (i:=(i:Int)) (by omega) (by omega);simp only [a0j] at AT;have e1:IntKind.wrap .i64 ((i:Int)+1)=((i+1:Nat):Int):=by rw [ao (by omega) (by omega)];omega
  have hd:xs.drop i=xs.getD i 0 :: xs.drop (i+1):=by
   rw [a1S ui];simp [ui]
  rw [hd] at hL;unfold SP.layE at hL;refine ⟨⟨by omega,an⟩,q,Jf,_,by rw [a0j,a0y];exact AT,_,Jq.cell 0,_,Jq.cell 1,_,_,_,Jq.cell 2,xP J4 fun H5 Rs f5=>⟨_,rfl,?_⟩⟩;have f5F:=f4.trans f5;rw [bn,ae];refine aD (fun hp=>?_) fun hp=>?_
  ·rw [a0b hp] at hL;rw [←hL] at hq;simp only [a0a hp] at hq;exact hq _ Rs f5F
  ·rw [a0a hp] at hL;rw [e1];exact ⟨⟨i+1,_,rfl,by omega,Rs,f5F,Jq.fr f5 Tx,Ur.fr' f5 ho,hL⟩,by simp;omega⟩
 ·have ui:i=l6:=by omega
  subst ui;rw [List.drop_of_length_le (by omega)] at hL;unfold SP.layE at hL;rw [←hL] at hq;simp only [if_true] at hq;exact hq _ J4 f4
theorem yd (hK:PK H b F s t){y:ByteArray} (hy:y.size<=1000000) (h:∀ H',PK H' b F (s.makeP 10 1 (bN y)).2 t->Fr F H H'->Q (.tuple #[ac (s.makeP 10 1 (bN y)).1.1,ac (s.makeP 10 1 (bN y)).1.2]) H') :
  ag PP 302 #[cv b r a l c,.string y] Q H:=by
 have i7:bd PP 30=some (1,8,some (ac 0)):=by kernel_rfl
 apply Du;dsimp only [aL,aN,aA,ah,ak,aX,ay,aK,aF,bc,aZ,ac,bf,bX,av,bm,am,aJ,bM,ax,bj,jb,aI];have f:=Fr.push [] H (.cells (cc b r a l c) 138);have hb:=bI.new H (cc b r a l c) 138;have hlF:=hK.lt;refine dQ i7 rfl (by omega) (a1F _) (by omega) (by decide) fun e=>⟨_,_,_,rfl,?_⟩;have f2:=f.trans (Fr.push [] _ (.cells (Array.replicate (y.size:Int).toNat (ac 0)) e));have k8:=hb.push (.cells (Array.replicate (y.size:Int).toNat (ac 0)) e);have JN:bZ 1 ((H.push (.cells (cc b r a l c) 138)).push (.cells (Array.replicate (y.size:Int).toNat (ac 0)) e)) (some ⟨(H.push (.cells (cc b r a l c) 138)).size,0,none⟩) (y.size:Int).toNat (y.size:Int).toNat (az (List.replicate y.size 0)) [(H.push (.cells (cc b r a l c) 138)).size]:=by
  refine ⟨by simp [az],a0U _,.inr ⟨_,_,rfl,rfl,bI.new _ _ _,by simp,?_⟩⟩;simp [az]
 have zw:(H.push (.cells (cc b r a l c) 138)).size=H.size+1:=by simp
 rw [zw] at JN ⊢;simp only [a0j] at f2 k8 JN ⊢;generalize ((H.push (.cells (cc b r a l c) 138)).push (.cells (Array.replicate y.size (ac 0)) e))=H2 at f2 k8 JN ⊢;have hnF:H.size+1∉F:=fun hm=>by have:=hlF _ hm;omega
 refine ⟨fun w H'=>∃(i:Nat) (rest:List Int),w=[ac i]∧i<=y.size∧bZ 1 H' (some ⟨H.size+1,0,none⟩) y.size y.size (az ((bN y).take i++rest)) [H.size+1]∧Fr [] H H'∧bI H' H.size (cc b r a l c),fun w _=>match w with
  | [.int _ i]=>((y.size:Int)-i).toNat
  | _=>0,⟨0,_,rfl,a07 _,JN,f2,k8⟩,?_⟩
 rintro w H3 ⟨i,rest,rfl,hi,Ji,f3,Ju⟩ _;have D0:=ik y;have hlen:=Ji.len;simp only [az,a1p,a1h,a1q,a0y,D0] at hlen;refine ⟨_,rfl,fZ (fun an=>?_) fun JR=>?_⟩
 ·have ui:i<y.size:=by omega
  have e1:IntKind.wrap .i64 ((i:Int)+1)=((i+1:Nat):Int):=by rw [ao (by omega) (by omega)];omega
  have hg:y[i]?=some y[i]:=by simp [ui]
  have hu:=(y[i]).toNat_lt;have eu:IntKind.wrap .i64 ((y[i]).toNat:Int)=((y[i]).toNat:Int):=ao (by omega) (by omega);obtain ⟨bb,WF,hw,hf,Jj⟩:=vI Ji ui (ac ((y[i]).toNat:Int));cases WF;rw [e1];refine ⟨y[i],⟨by omega,by rw [a0j];exact hg⟩,⟨by omega,by omega⟩,_,rfl,?_⟩;rw [aB,a0K,a0y,a0j,eu];cases rest with
  | nil=>simp at hlen;omega
  | cons z rest =>
   have s7:Fr [] H (aQ H3 ⟨H.size+1,i,none⟩ (ac ((y[i]).toNat:Int))):=Fr.late f3 (by omega);refine ⟨hw,⟨i+1,rest,rfl,by omega,?_,s7,Ju.fr hf (by simp)⟩,by simp;omega⟩;have Vr:(bN y)[i]?=some ((y[i]).toNat:Int):=by
    unfold bN;rw [a2s,a2C]
    have:y.data[i]?=some y[i]:=by
     have h1:i<y.data.size:=ui;rw [a3g h1];rfl
    rw [this];rfl
   have et:(az ((bN y).take i++z :: rest)).set i (ac ((y[i]).toNat:Int))=az ((bN y).take (i+1)++rest):=by
    have h1:((bN y).take i).length=i:=by rw [a1q,D0];omega
    rw [a1i,Vr];simp only [az,a2m,a2k,Option.toList_some,a18,List.singleton_append,a26];rw [a3W _ _ (by rw [a1p,h1];exact a0U _),a1p,h1,a4b];rfl
   rw [et] at Jj;exact Jj
 ·have hiy:i=y.size:=by omega
  subst hiy;have OA:rest=[]:=a1o (by omega);subst OA;rw [a2S,a0Y (by omega)] at Ji;refine ⟨_,Ju.cell 0,_,Ju.cell 1,_,_,_,Ju.cell 2,zf (hK.nil f3) (by decide) Ji.rd (fun p hp=>by cases hp;exact hnF) (by omega) fun H' w8 f'=>⟨_,_,rfl,h H' w8 ?_⟩⟩;exact ⟨a0O f3.1 f'.1,fun z hz hn=>by rw [f'.2 z (a0X hz f3.1) hn,f3.2 z hz (by simp)]⟩
end
end Go.Proofs.YtgjfejoohojokaaGreatDoor
namespace Kw
open Go
def NS (H:au) (r:Option Nat) (es:List (Key × Value)):Prop :=
 match r with
 | some r=>eH H r es
 | none=>es=[]
section
variable {P:Program}{H:au}
theorem ph {T:TypeId}{d:TypeDesc}{z:Value}{r:Option Nat}{k:Key}{es:List (Key × Value)}{ok:Bool}{Q:Value->au->Prop} (hi:fB P T=some (d,some z)) (hk:k.of d) (ho:∀ p∈es,p.1.of d) (hm:NS H r es)
  (h:Q (if ok then .tuple #[(eC es k).getD z,.bool (eC es k).isSome] else (eC es k).getD z) H):cB P (Instr.lookup T (.map r) k.v ok) Q H:=by
 cases r with
 | some r=>exact mL hi hk ho hm h
 | none =>
  have hm:es=[]:=hm;subst hm;obtain ⟨kt,et,i,hu,J6,RA,hz⟩:=fR hi;unfold Instr.lookup;refine aH (bF hu ?_);refine aH (fg ?_);refine aH (iW J6 hk ?_);refine aH (jA (ents:=#[]) J6 hk rfl ho ?_);exact aH (eA RA hz h)
end
end Kw
namespace Go.Proofs.YtgjfejoohojokaaGreatDoor
open Kw
theorem dh {a b:Int}{A B:Prop} (h1:a=b->A) (h2:a≠b->B):cond (a == b) A B:=by
 rw [bq,ae];exact aD h1 h2
inductive PF
 | fn (f:Nat)
 | clo (f g:Nat)
 | slot (f:Nat) (i:Int)
 | nil
deriving DecidableEq
abbrev PE:=ByteArray × Int × PF
def rJ (H:au) (n r:Nat):PF->Value->Prop
 | .fn f,v=>v=.func (.func f) #[] #[]
 | .clo f g,v=>∃ b,v=.func (.func f) #[] #[QW b]∧bI H b #[.func (.func g) #[] #[]]∧n<=b∧b≠r
 | .slot f i,v=>∃ b,v=.func (.func f) #[] #[QW b]∧bI H b #[ac i]∧n<=b∧b≠r
 | .nil,v=>v=.nilFunc
theorem rJ.fr {H H':au}{n r:Nat}{G:aS}{p:PF}{v:Value} (h:rJ H n r p v) (hf:Fr G H H') (hG:∀ x∈G,x<n∨x=r):rJ H' n r p v:=by
 cases p with
 | fn f=>exact h
 | clo f g =>
  obtain ⟨b,h1,h2,h3,h4⟩:=h;exact ⟨b,h1,h2.fr hf (fun hm=>by rcases hG b hm with h5 | h5 <;> omega),h3,h4⟩
 | slot f i =>
  obtain ⟨b,h1,h2,h3,h4⟩:=h;exact ⟨b,h1,h2.fr hf (fun hm=>by rcases hG b hm with h5 | h5 <;> omega),h3,h4⟩
 | nil=>exact h
def Pu (H:au) (n r:Nat) (p:Key × Value) (e:PE):Prop:=p.1=.str e.1∧∃ v,p.2=.agg #[ac e.2.1,v]∧rJ H n r e.2.2 v
def gv:List PE->ByteArray->Option (Int × PF)
 | [],_=>none
 | e :: es,x=>if x=e.1 then some e.2 else gv es x
inductive Ents (H:au) (n r:Nat):List (Key × Value)->List PE->Prop
 | nil:Ents H n r [] []
 | cons {p e ms es}:Pu H n r p e->Ents H n r ms es->Ents H n r (p :: ms) (e :: es)
theorem Ents.fr {H H':au}{n r:Nat}{G:aS}{ms:List (Key × Value)}{es:List PE} (h:Ents H n r ms es) (hf:Fr G H H') (hG:∀ x∈G,x<n∨x=r):Ents H' n r ms es:=by
 induction h with
 | nil=>exact .nil
 | cons he _ ih =>
  obtain ⟨h1,v,h2,h3⟩:=he;exact .cons ⟨h1,v,h2,h3.fr hf hG⟩ ih
theorem Ents.snoc {H:au}{n r:Nat}{ms:List (Key × Value)}{es:List PE}{p:Key × Value}{e:PE} (h:Ents H n r ms es) (he:Pu H n r p e):Ents H n r (ms++[p]) (es++[e]):=by
 induction h with
 | nil=>exact .cons he .nil
 | cons h1 _ ih=>exact .cons h1 ih
theorem Ents.keys {H:au}{n r:Nat}{ms:List (Key × Value)}{es:List PE} (h:Ents H n r ms es):∀ p∈ms,p.1.of .string:=by
 induction h with
 | nil=>intro p hp;cases hp
 | cons he _ ih =>
  intro p hp;rcases a0E.1 hp with rfl | hp
  ·rw [he.1];trivial
  ·exact ih p hp
theorem Ents.none {H:au}{n r:Nat}{ms:List (Key × Value)}{es:List PE} (h:Ents H n r ms es){x:ByteArray} (hx:gv es x=.none):eC ms (.str x)=.none:=by
 induction h with
 | nil=>rfl
 | cons he _ ih =>
  unfold gv at hx;unfold eC;split at hx
  ·cases hx
  ·rename_i hn;rw [a0a (fun e=>hn (by rw [he.1] at e;cases e;rfl))];exact ih hx
theorem Ents.some {H:au}{n r:Nat}{ms:List (Key × Value)}{es:List PE} (h:Ents H n r ms es){x:ByteArray}{k:Int}{q:PF} (hx:gv es x=.some (k,q)):∃ v,eC ms (.str x)=.some (.agg #[ac k,v])∧rJ H n r q v:=by
 induction h with
 | nil=>cases hx
 | cons he _ ih =>
  unfold gv at hx;unfold eC;obtain ⟨h1,v,h2,h3⟩:=he;split at hx
  ·rename_i hn;have e1:=Option.some.inj hx;rw [a0b (by rw [h1,hn])];rw [e1] at h2 h3;exact ⟨v,by rw [h2],h3⟩
  ·rename_i hn;rw [a0a (fun e=>hn (by rw [h1] at e;cases e;rfl))];exact ih hx
structure MapE (H0 H:au) (r:Nat) (es:List PE):Prop where
 m:∃ ms,eH H r ms∧Ents H H0.size r ms es
 f:Fr [] H0 H
 l:H0.size<=r
theorem MapE.new (H:au):MapE H (H.push (.map #[] 0)) H.size []:=⟨⟨[],eH.new H,.nil⟩,Fr.push _ _ _,a0U _⟩
theorem MapE.fr {H0 H H':au}{r:Nat}{es:List PE} (h:MapE H0 H r es) (hf:Fr [] H H'):MapE H0 H' r es:=by
 obtain ⟨⟨ms,h1,h2⟩,h3,h4⟩:=h;exact ⟨⟨ms,h1.fr hf (by simp),h2.fr hf (by simp)⟩,h3.trans hf,h4⟩
section
variable {H0 H:au}{r:Nat}{es:List PE}{k:ByteArray}{n:Int}{Q:Unit->au->Prop}
theorem ln {p:PF}{v:Value} (hm:MapE H0 H r es) (hv:rJ H H0.size r p v) (hn:gv es k=none) (h:∀ H',MapE H0 H' r (es++[(k,n,p)])->Q () H'):cB PP (Instr.mapUpdate 135 (.map (some r)) (.string k) (.agg #[ac n,v])) Q H:=by
 obtain ⟨⟨ms,h1,h2⟩,h3,h4⟩:=hm;have hi:fB PP 135=some (.string,some (.agg #[ac 0,.nilFunc])):=by kernel_rfl
 refine jF (k:=.str k) hi trivial h2.keys h1 fun H' g f=>h H' ⟨⟨_,g,?_⟩,⟨a0O h3.1 f.1,fun y hy _=>?_⟩,h4⟩
 ·rw [lN (gj.2 (h2.none hn))];have hG:∀ x∈[r],x<H0.size∨x=r:=fun x hx=>.inr (a0A.1 hx);exact (h2.fr f hG).snoc ⟨rfl,v,rfl,hv.fr f hG⟩
 ·rw [f.2 y (a0X hy h3.1) (fun e=>by simp only [a0A] at e;omega),h3.2 y hy (by simp)]
theorem bY {f:Nat} (hm:MapE H0 H r es) (hn:gv es k=none) (h:∀ H',MapE H0 H' r (es++[(k,n,.fn f)])->Q () H'):cB PP (Instr.mapUpdate 135 (.map (some r)) (.string k) (.agg #[ac n,.func (.func f) #[] #[]])) Q H :=
 ln (p:=.fn f) hm rfl hn h
theorem vY (hm:MapE H0 H r es) (hn:gv es k=none) (h:∀ H',MapE H0 H' r (es++[(k,n,.nil)])->Q () H'):cB PP (Instr.mapUpdate 135 (.map (some r)) (.string k) (.agg #[ac n,.nilFunc])) Q H :=
 ln (p:=.nil) hm rfl hn h
theorem MapE.lt (hm:MapE H0 H r es):r<H.size:=by obtain ⟨⟨ms,h1,_⟩,_⟩:=hm;exact h1.lt
theorem fL {f:Nat} (hm:MapE H0 H r es) (hn:gv es k=none) (h:∀ H',MapE H0 H' r (es++[(k,n,.clo 295 f)])->Q () H'):ag PP 182 #[.func (.func f) #[] #[]] (fun v H1=>∃ f8:Nat,∃ g8:Array Value,∃ h8:Array Value,v=.func (.func f8) g8 h8∧cB PP (Instr.mapUpdate 135 (.map (some r)) (.string k) (.agg #[ac n,.func (.func f8) g8 h8])) Q H1) H:=by
 apply Kt;dsimp only [aL,am,aJ]
 have:=hm.lt;exact ⟨_,_,_,rfl,ln (p:=.clo _ f) (hm.fr (Fr.push _ _ _)) ⟨_,rfl,bI.new _ _ _,hm.f.1,by omega⟩ hn h⟩
theorem mU {f:Nat} (hm:MapE H0 H r es) (hn:gv es k=none) (h:∀ H',MapE H0 H' r (es++[(k,n,.clo 299 f)])->Q () H'):ag PP 192 #[.func (.func f) #[] #[]] (fun v H1=>∃ f8:Nat,∃ g8:Array Value,∃ h8:Array Value,v=.func (.func f8) g8 h8∧cB PP (Instr.mapUpdate 135 (.map (some r)) (.string k) (.agg #[ac n,.func (.func f8) g8 h8])) Q H1) H:=by
 apply Eo;dsimp only [aL,am,aJ]
 have:=hm.lt;exact ⟨_,_,_,rfl,ln (p:=.clo _ f) (hm.fr (Fr.push _ _ _)) ⟨_,rfl,bI.new _ _ _,hm.f.1,by omega⟩ hn h⟩
theorem kd {i:Int} (hm:MapE H0 H r es) (hn:gv es k=none) (h:∀ H',MapE H0 H' r (es++[(k,n,.slot 309 i)])->Q () H'):ag PP 218 #[ac i] (fun v H1=>∃ f8:Nat,∃ g8:Array Value,∃ h8:Array Value,v=.func (.func f8) g8 h8∧cB PP (Instr.mapUpdate 135 (.map (some r)) (.string k) (.agg #[ac n,.func (.func f8) g8 h8])) Q H1) H:=by
 apply EI;dsimp only [aL,ac,am,aJ]
 have:=hm.lt;exact ⟨_,_,_,rfl,ln (p:=.slot _ i) (hm.fr (Fr.push _ _ _)) ⟨_,rfl,bI.new _ _ _,hm.f.1,by omega⟩ hn h⟩
end
def yt (H0 H:au) (r:Option Nat) (es:List PE):Prop :=
 match r with
 | some r=>MapE H0 H r es
 | none=>es=[]∧Fr [] H0 H
theorem yt.f {H0 H:au}{r:Option Nat}{es:List PE} (h:yt H0 H r es):Fr [] H0 H:=by
 cases r
 ·exact h.2
 ·exact MapE.f h
theorem zQ {H0 H:au}{r:Option Nat}{es:List PE}{x:ByteArray}{Q:QT} (h:yt H0 H r es) (Db:gv es x=none->Q (.tuple #[.agg #[ac 0,.nilFunc],.bool false]) H)
  (a0Z:∀ k q v rr,gv es x=some (k,q)->rJ H H0.size rr q v->Q (.tuple #[.agg #[ac k,v],.bool true]) H):cB PP (Instr.lookup 135 (.map r) (.string x) true) Q H:=by
 have hi:fB PP 135=some (.string,some (.agg #[ac 0,.nilFunc])):=by kernel_rfl
 cases r with
 | none =>
  obtain ⟨rfl,_⟩:=h;exact ph (k:=.str x) (es:=[]) hi trivial (by simp) rfl (Db rfl)
 | some r =>
  obtain ⟨⟨ms,h1,h2⟩,_,_⟩:=h;refine ph (k:=.str x) (r:=some r) hi trivial h2.keys h1 ?_;cases hg:gv es x with
  | none=>rw [h2.none hg];exact Db hg
  | some kq =>
   obtain ⟨k,q⟩:=kq;obtain ⟨v,h3,h4⟩:=h2.some hg;rw [h3];exact a0Z k q v r hg h4
end Go.Proofs.YtgjfejoohojokaaGreatDoor
namespace Go.Proofs
open Go.Shelf
def Tryz.rep_ren:Go.Shelf.Ren:=⟨fun | 105=>310 | 212=>356 | 99=>357 | 165=>358 | 166=>359 | 170=>360 | 169=>355 | 263=>384 | 264=>385 | 206=>386 | 240=>383 | 241=>387 | 276=>396 | 277=>397 | n=>n,fun | 9=>9 | 3=>3 | 4=>4 | 20=>20 | 0=>0 | 46=>79 | 109=>300 | 5=>5 | 72=>295 | 76=>303 | 51=>286 | 146=>325 | 53=>288 | 148=>327 | 70=>293 | 37=>249 | 75=>297 | 127=>324 | 164=>334 | 80=>299 | n=>n,fun | n=>n⟩
theorem Tryz.rep:Go.Proofs.Lays.n105 Tryz.prog Tryz.rep_ren:={
 mixed:=by kernel_rfl
 f99:=Tryz.func357.trans (congrArg some (by kernel_rfl))
 f105:=Tryz.func310.trans (congrArg some (by kernel_rfl))
 f165:=Tryz.func358.trans (congrArg some (by kernel_rfl))
 f166:=Tryz.func359.trans (congrArg some (by kernel_rfl))
 f169:=Tryz.func355.trans (congrArg some (by kernel_rfl))
 f170:=Tryz.func360.trans (congrArg some (by kernel_rfl))
 f206:=Tryz.func386.trans (congrArg some (by kernel_rfl))
 f212:=Tryz.func356.trans (congrArg some (by kernel_rfl))
 f240:=Tryz.func383.trans (congrArg some (by kernel_rfl))
 f241:=Tryz.func387.trans (congrArg some (by kernel_rfl))
 f263:=Tryz.func384.trans (congrArg some (by kernel_rfl))
 f264:=Tryz.func385.trans (congrArg some (by kernel_rfl))
 f276:=Tryz.func396.trans (congrArg some (by kernel_rfl))
 f277:=Tryz.func397.trans (congrArg some (by kernel_rfl))
 t0:=Tryz.underlying0
 a0:=Tryz.isAgg0
 z0:=Tryz.sizeOf0
 v0:=Tryz.zeroValue0
 t3:=Tryz.underlying3
 a3:=Tryz.isAgg3
 z3:=Tryz.sizeOf3
 v3:=Tryz.zeroValue3
 t4:=Tryz.underlying4
 a4:=Tryz.isAgg4
 z4:=Tryz.sizeOf4
 v4:=Tryz.zeroValue4
 t5:=Tryz.underlying5
 a5:=Tryz.isAgg5
 z5:=Tryz.sizeOf5
 v5:=Tryz.zeroValue5
 t9:=Tryz.underlying9
 a9:=Tryz.isAgg9
 z9:=Tryz.sizeOf9
 v9:=Tryz.zeroValue9
 t20:=Tryz.underlying20
 a20:=Tryz.isAgg20
 z20:=Tryz.sizeOf20
 v20:=Tryz.zeroValue20
 t37:=Tryz.underlying249
 a37:=Tryz.isAgg249
 z37:=Tryz.sizeOf249
 v37:=Tryz.zeroValue249
 t46:=Tryz.underlying79
 a46:=Tryz.isAgg79
 z46:=Tryz.sizeOf79
 v46:=Tryz.zeroValue79
 t51:=Tryz.underlying286
 a51:=Tryz.isAgg286
 z51:=Tryz.sizeOf286
 v51:=Tryz.zeroValue286
 t53:=Tryz.underlying288
 a53:=Tryz.isAgg288
 z53:=Tryz.sizeOf288
 v53:=Tryz.zeroValue288
 t70:=Tryz.underlying293
 a70:=Tryz.isAgg293
 z70:=Tryz.sizeOf293
 v70:=Tryz.zeroValue293
 t72:=Tryz.underlying295
 a72:=Tryz.isAgg295
 z72:=Tryz.sizeOf295
 v72:=Tryz.zeroValue295
 t75:=Tryz.underlying297
 a75:=Tryz.isAgg297
 z75:=Tryz.sizeOf297
 v75:=Tryz.zeroValue297
 t76:=Tryz.underlying303
 a76:=Tryz.isAgg303
 z76:=Tryz.sizeOf303
 v76:=Tryz.zeroValue303
 t109:=Tryz.underlying300
 a109:=Tryz.isAgg300
 z109:=Tryz.sizeOf300
 v109:=Tryz.zeroValue300
 t127:=Tryz.underlying324
 a127:=Tryz.isAgg324
 z127:=Tryz.sizeOf324
 v127:=Tryz.zeroValue324
 t146:=Tryz.underlying325
 a146:=Tryz.isAgg325
 z146:=Tryz.sizeOf325
 v146:=Tryz.zeroValue325
 t148:=Tryz.underlying327
 a148:=Tryz.isAgg327
 z148:=Tryz.sizeOf327
 v148:=Tryz.zeroValue327
 t164:=Tryz.underlying334
 a164:=Tryz.isAgg334
 z164:=Tryz.sizeOf334
 v164:=Tryz.zeroValue334 }
theorem Tryz.repX:Builder.Extra Tryz.prog Tryz.rep_ren:={
 sizeBuilder:=by kernel_rfl
 liesBuilder:=by kernel_rfl
 t5:=Tryz.rep.t5
 a5:=Tryz.rep.a5
 z5:=Tryz.rep.z5
 v5:=Tryz.rep.v5
 infoByte:=by kernel_rfl
 cellsByte:=by kernel_rfl
 sizeByte:=by kernel_rfl
 neB5:=by decide }
def Tryz.itoa_ren:Go.Shelf.Ren:=⟨fun | 171=>353 | 243=>382 | 246=>395 | 283=>399 | 284=>400 | 285=>401 | 286=>402 | 129=>349 | 317=>403 | 318=>404 | 319=>405 | 320=>406 | 337=>407 | 338=>408 | n=>n,fun | 3=>3 | 9=>9 | 2=>2 | 4=>4 | 171=>338 | 0=>0 | 53=>288 | 37=>249 | 5=>5 | 173=>340 | 212=>343 | 51=>286 | 20=>20 | 213=>344 | 46=>79 | 232=>345 | 233=>346 | n=>n,fun | 17=>3 | 18=>4 | 19=>5 | n=>n⟩
theorem Tryz.itoa:Go.Proofs.LaysM.n171 Tryz.prog Tryz.itoa_ren:={
 mixed:=by kernel_rfl
 f129:=Tryz.func349.trans (congrArg some (by kernel_rfl))
 f171:=Tryz.func353.trans (congrArg some (by kernel_rfl))
 f243:=Tryz.func382.trans (congrArg some (by kernel_rfl))
 f246:=Tryz.func395.trans (congrArg some (by kernel_rfl))
 f283:=Tryz.func399.trans (congrArg some (by kernel_rfl))
 f284:=Tryz.func400.trans (congrArg some (by kernel_rfl))
 f285:=Tryz.func401.trans (congrArg some (by kernel_rfl))
 f286:=Tryz.func402.trans (congrArg some (by kernel_rfl))
 f317:=Tryz.func403.trans (congrArg some (by kernel_rfl))
 f318:=Tryz.func404.trans (congrArg some (by kernel_rfl))
 f319:=Tryz.func405.trans (congrArg some (by kernel_rfl))
 f320:=Tryz.func406.trans (congrArg some (by kernel_rfl))
 f337:=Tryz.func407.trans (congrArg some (by kernel_rfl))
 f338:=Tryz.func408.trans (congrArg some (by kernel_rfl))
 t0:=Tryz.underlying0
 a0:=Tryz.isAgg0
 z0:=Tryz.sizeOf0
 v0:=Tryz.zeroValue0
 t2:=Tryz.underlying2
 a2:=Tryz.isAgg2
 z2:=Tryz.sizeOf2
 v2:=Tryz.zeroValue2
 t3:=Tryz.underlying3
 a3:=Tryz.isAgg3
 z3:=Tryz.sizeOf3
 v3:=Tryz.zeroValue3
 t4:=Tryz.underlying4
 a4:=Tryz.isAgg4
 z4:=Tryz.sizeOf4
 v4:=Tryz.zeroValue4
 t5:=Tryz.underlying5
 a5:=Tryz.isAgg5
 z5:=Tryz.sizeOf5
 v5:=Tryz.zeroValue5
 t9:=Tryz.underlying9
 a9:=Tryz.isAgg9
 z9:=Tryz.sizeOf9
 v9:=Tryz.zeroValue9
 t20:=Tryz.underlying20
 a20:=Tryz.isAgg20
 z20:=Tryz.sizeOf20
 v20:=Tryz.zeroValue20
 t37:=Tryz.underlying249
 a37:=Tryz.isAgg249
 z37:=Tryz.sizeOf249
 v37:=Tryz.zeroValue249
 t46:=Tryz.underlying79
 a46:=Tryz.isAgg79
 z46:=Tryz.sizeOf79
 v46:=Tryz.zeroValue79
 t51:=Tryz.underlying286
 a51:=Tryz.isAgg286
 z51:=Tryz.sizeOf286
 v51:=Tryz.zeroValue286
 t53:=Tryz.underlying288
 a53:=Tryz.isAgg288
 z53:=Tryz.sizeOf288
 v53:=Tryz.zeroValue288
 t171:=Tryz.underlying338
 a171:=Tryz.isAgg338
 z171:=Tryz.sizeOf338
 v171:=Tryz.zeroValue338
 t173:=Tryz.underlying340
 a173:=Tryz.isAgg340
 z173:=Tryz.sizeOf340
 v173:=Tryz.zeroValue340
 t212:=Tryz.underlying343
 a212:=Tryz.isAgg343
 z212:=Tryz.sizeOf343
 v212:=Tryz.zeroValue343
 t213:=Tryz.underlying344
 a213:=Tryz.isAgg344
 z213:=Tryz.sizeOf344
 t232:=Tryz.underlying345
 a232:=Tryz.isAgg345
 z232:=Tryz.sizeOf345
 v232:=Tryz.zeroValue345
 t233:=Tryz.underlying346
 a233:=Tryz.isAgg346
 z233:=Tryz.sizeOf346
 v233:=Tryz.zeroValue346
 g17:=by kernel_rfl
 g18:=by kernel_rfl
 g19:=by kernel_rfl
 i0:=by kernel_rfl
 i2:=by kernel_rfl
 i3:=by kernel_rfl
 i4:=by kernel_rfl
 i5:=by kernel_rfl
 i9:=by kernel_rfl
 i20:=by kernel_rfl
 i37:=by kernel_rfl
 i46:=by kernel_rfl
 i51:=by kernel_rfl
 i53:=by kernel_rfl
 i171:=by kernel_rfl
 i173:=by kernel_rfl
 i212:=by kernel_rfl
 i232:=by kernel_rfl
 i233:=by kernel_rfl
 m17:=by kernel_rfl
 m18:=by kernel_rfl
 m19:=by kernel_rfl }
end Go.Proofs
namespace Kw
open Go
def RD {α:Type} (d:Nat):Result α->Prop
 | .ok _ w=>d<=w.drawn
 | .halt _ w=>d<=w.drawn
theorem RD.mono {α:Type}{d d':Nat}{r:Result α} (h:d<=d') (hr:RD d' r):RD d r:=by
 cases r <;> exact a0O h hr
theorem PH {α:Type} (a:Ask α) (w:World):w.drawn<=(w.ask a).2.drawn:=by
 induction a generalizing w with
 | done=>exact a0U _
 | ask what range k ih =>
  unfold World.ask;simp only;split
  ·exact ih _ _
  ·exact a0O (a3v _) (ih _ { w with drawn:=w.drawn+1 })
theorem LD (w:World) (c:Sys):w.drawn<=(w.sys c).2.drawn:=by
 unfold World.sys;have h:=PH (Kernel.perform c w.os) w;split
 ·exact a0U _
 ·rename_i e;rw [e] at h;exact h
theorem vF {p:Program}{w:World}{at_:Addr}{u:TypeId}{k:Addr}{v:Value}{b:Bool}{r:World × List Addr} (h:w.viewStore p at_ u k v b=.ok r):r.1.drawn=w.drawn:=by
 unfold World.viewStore at h;simp only [bind,Except.bind,pure,Except.pure,MonadExcept.throw,throwThe,MonadExceptOf.throw] at h
 repeat' split at h
 all_goals cases h
 all_goals rfl
theorem qJ {p:Program}{w w':World}{a:Addr}{v:Value}{b:Bool}{l:List Addr} (h:w.farStore p a v b=.ok (w',l)):w'.drawn=w.drawn:=by
 unfold World.farStore at h
 repeat' split at h
 ·cases h;rename_i e;exact vF e
 all_goals cases h
theorem sT (w:World) (a:Addr) (v:Value):(w.setCell a v).drawn=w.drawn:=by
 unfold World.setCell;rfl
theorem vH (w:World) (a:Addr) (n:Nat):(w.freeze a n).drawn=w.drawn:=by
 unfold World.freeze;split <;> rfl
theorem CD {α:Type} (p:Program) (s:Sem α) (w:World):RD w.drawn (s.run p w):=by
 induction s generalizing w with
 | pure=>exact a0U _
 | load m a k ih =>
  unfold Sem.run;split
  ·exact ih _ _
  ·split
   ·exact ih _ _
   ·exact a0U _
 | store m a v k ih =>
  have key:RD w.drawn (match w.cell? a with
   | some _ => if w.frozen? a then .halt (.unsupported (.unsafePointer "a write to bytes that a string shares")) w else k.run p (w.setCell a v)
   | none=>match w.farStore p a v (m == .atomic) with
    | .ok (w,_)=>k.run p w
    | .error h=>.halt h w):=by
   split
   ·split
    ·exact a0U _
    ·have:=ih (w.setCell a v);rw [sT] at this;exact this
   ·split
    ·rename_i e;rw [←qJ e];exact ih _
    ·exact a0U _
  cases v <;> first | exact key | exact a0U _
 | new o k ih=>exact ih _ { w with heap:=w.heap.push o }
 | shape r k ih=>exact ih _ _
 | freeze a n k ih=>have:=ih (w.freeze a n);rw [vH] at this;exact this
 | frozen a k ih=>exact ih _ _
 | getObj r k ih =>
  unfold Sem.run;split
  ·exact a0U _
  ·exact ih _ _
  ·exact a0U _
 | setObj r o k ih =>
  unfold Sem.run;split
  ·exact a0U _
  ·exact ih { w with heap:=w.heap.setIfInBounds r o }
  ·exact a0U _
 | choose q k ih =>
  unfold Sem.run;split
  ·exact ih _ _
  ·exact RD.mono (a3v _) (ih _ { w with drawn:=w.drawn+1 })
 | sys c k ih=>exact RD.mono (LD w c) (ih _ _)
 | program k ih=>exact ih _ _
 | mark m k ih=>exact ih _
 | halt h=>exact a0U _
theorem oa {α:Type} (p:Program) (s:Sem α) (w:World) (es:Array Event):RD w.drawn (s.runT p w es).1:=by
 induction s generalizing w es with
 | pure=>exact a0U _
 | load m a k ih =>
  unfold Sem.runT;split
  ·exact ih _ _ _
  ·split
   ·exact ih _ _ _
   ·exact a0U _
 | store m a v k ih =>
  have key:RD w.drawn (match w.cell? a with
   | some _ =>
    if w.frozen? a then (Result.halt (.unsupported (.unsafePointer "a write to bytes that a string shares")) w, es)
    else k.runT p (w.setCell a v) (es.push ⟨.cell a,true,m == Mode.atomic⟩)
   | none=>match w.farStore p a v (m == Mode.atomic) with
    | .ok (w,touched)=>k.runT p w (es++touched.toArray.map fun x=>(⟨.cell x,true,m == Mode.atomic⟩:Event))
    | .error h=>(Result.halt h w,es)).1:=by
   split
   ·split
    ·exact a0U _
    ·have:=ih (w.setCell a v) (es.push ⟨.cell a,true,m == .atomic⟩);rw [sT] at this;exact this
   ·split
    ·rename_i e;rw [←qJ e];exact ih _ _
    ·exact a0U _
  cases v <;> first | exact key | exact a0U _
 | new o k ih=>exact ih _ { w with heap:=w.heap.push o } _
 | shape r k ih=>exact ih _ _ _
 | freeze a n k ih=>have:=ih (w.freeze a n) es;rw [vH] at this;exact this
 | frozen a k ih=>exact ih _ _ _
 | getObj r k ih =>
  unfold Sem.runT;split
  ·exact a0U _
  ·exact ih _ _ _
  ·exact a0U _
 | setObj r o k ih =>
  unfold Sem.runT;split
  ·exact a0U _
  ·exact ih { w with heap:=w.heap.setIfInBounds r o } _
  ·exact a0U _
 | choose q k ih =>
  unfold Sem.runT;split
  ·exact ih _ _ _
  ·exact RD.mono (a3v _) (ih _ { w with drawn:=w.drawn+1 } _)
 | sys c k ih=>exact RD.mono (LD w c) (ih _ _ _)
 | program k ih=>exact ih _ _ _
 | mark m k ih=>exact ih _ _
 | halt h=>exact a0U _
section
variable {α:Type}{p:Program}{s:Sem α}{w w':World}{a:α}{h:Halt}{es es' es2:Array Event}{l:Bool}
theorem eV (e:s.run p w=.ok a w'):w.drawn<=w'.drawn:=by have:=CD p s w;rw [e] at this;exact this
theorem BC (e:s.run p w=.halt h w'):w.drawn<=w'.drawn:=by have:=CD p s w;rw [e] at this;exact this
theorem Ei (e:s.runT p w es=(.ok a w',es')):w.drawn<=w'.drawn:=by have:=oa p s w es;rw [e] at this;exact this
theorem Ac (e:s.runT p w es=(.halt h w',es')):w.drawn<=w'.drawn:=by have:=oa p s w es;rw [e] at this;exact this
theorem lS (e:(s.runT p w es).1=.ok a w'):w.drawn<=w'.drawn:=by have:=oa p s w es;rw [e] at this;exact this
theorem sO (e:(s.runT p w es).1=.halt h w'):w.drawn<=w'.drawn:=by have:=oa p s w es;rw [e] at this;exact this
end
def GD (d:Nat):GStep->Prop
 | .go _ w _=>d<=w.drawn
 | .comm _ _ _ _ w _=>d<=w.drawn
 | .spawn _ _ w _=>d<=w.drawn
 | .count _ w _=>d<=w.drawn
 | .timer _ _ w _=>d<=w.drawn
 | .alone _ _ w _=>d<=w.drawn
 | .newcoro _ _ _ w _=>d<=w.drawn
 | .coroswitch _ _ _ w _=>d<=w.drawn
 | .collect _ w _=>d<=w.drawn
 | .watch _ w _=>d<=w.drawn
 | .ended ..=>True
theorem GD.after {d:Nat}{es:Array Event}{g:GStep} (h:GD d g):GD d (g.after es):=by cases g <;> exact h
theorem GD.ite {d:Nat}{c:Prop} [Decidable c] {a b:GStep} (h1:GD d a) (h2:GD d b):GD d (if c then a else b):=by split <;> assumption
theorem GD.elim {d:Nat}{α:Type}{o:Option α}{a:GStep}{f:α->GStep} (h1:GD d a) (h2:∀ x,GD d (f x)):GD d (o.elim a f):=by cases o <;> first | exact h1 | exact h2 _
theorem Fu {d:Nat}{fr:Frame}{l:List ByteArray}{m:String}{b:Bool}{w:World} (h:d<=w.drawn):GD d (dieOf fr l m b w):=h
theorem gh {d:Nat}{fr:Frame}{m:String}{w:World} (h:d<=w.drawn):GD d (endThrow fr m w):=h
theorem Aq (d:Nat) (w:World) (fd:Nat) (t:ByteArray) (o:Outcome):GD d (endWith w fd t o):=by
 unfold endWith;simp only
 repeat' split
 all_goals trivial
theorem mn {d:Nat}{p:Program}{fr:Frame}{v:Value}{w:World} (h:d<=w.drawn):GD d (endPrinting p fr v w):=by
 unfold endPrinting;simp only;split
 ·exact gh h
 ·trivial
theorem mF {d:Nat}{p:Program}{fr:Frame}{cs:List Frame}{dy:Option Dying}{m:String}{w:World} (h:d<=w.drawn):GD d (endFatal p fr cs dy m w):=by
 unfold endFatal;simp only;split
 ·exact Fu (a0O h (eV (by assumption)))
 ·trivial
 ·trivial
theorem AQ {d:Nat}{p:Program}{fr:Frame}{dy:Dying}{f:Fatal}{w:World} (h:d<=w.drawn):GD d (writeOn p fr dy f w):=by
 unfold writeOn;simp only;split
 ·trivial
 ·split
  ·exact a0O h (Ei (by assumption))
  ·exact a0O h (Ac (by assumption))
  ·trivial
  ·trivial
theorem Qf {d:Nat}{p:Program}{fr:Frame}{dy:Dying}{w:World} (h:d<=w.drawn):GD d (die p fr dy w):=by
 unfold die;simp only
 repeat' first | apply GD.after | split
 all_goals first | exact AQ h | exact h | exact Aq _ _ _ _ _ | exact a0O h (eV (by assumption)) | exact a0O h (lS (by assumption)) | exact mn (a0O h (sO (by assumption))) | trivial
theorem yj {d:Nat}{p:Program}{fr:Frame}{cs:List Frame}{dy:Option Dying}{g:Nat}{w:World} (h:d<=w.drawn):GD d (early p fr cs dy g w):=by
 have nY:∀ w:World,d<=w.drawn->GD d (match w.heap[g]? with
  | some (.pending c elem)=>.go { frame:=fr,callers:=cs,status:=.running,dying:=dy } { w with heap:=w.heap.setIfInBounds g (.cells c elem) }
  | _ => .ended (.stuck "early: the variable does not wait" (fr.pos p)) w) := by
  intro w h;split
  ·exact h
  ·trivial
 unfold early;simp only;split
 ·exact nY _ h
 ·split
  ·trivial
  ·split
   ·exact nY _ h
   ·split
    ·exact nY _ h
    ·split
     ·trivial
     ·exact h
     ·trivial
     ·exact nY _ h
     ·split
      ·exact h
      ·split
       ·exact nY _ h
       ·split
        ·exact nY _ (a0O h (eV (by assumption)))
        ·exact a0O h (eV (by assumption))
        ·trivial
theorem mN {d:Nat}{p:Program}{main:Bool}{fr:Frame}{cs:List Frame}{dy:Option Dying}{v:Value}{w:World} (h:d<=w.drawn):GD d (doReturn p main fr cs dy v w):=by
 unfold doReturn;simp only;split
 ·split <;> exact h
 ·split
  ·exact h
  ·trivial
  ·split
   ·exact h
   ·split
    ·exact h
    ·trivial
theorem qm {d:Nat}{p:Program}{fr:Frame}{cs:List Frame}{dy:Option Dying}{df:Deferred}{w:World} (h:d<=w.drawn):GD d (callDeferred p fr cs dy df w):=by
 unfold callDeferred;simp only;refine GD.ite trivial ?_
 ·apply GD.after;have hr:=oa p (invoke df.target df.args) w #[];generalize (invoke df.target df.args).runT p w #[]=x at hr ⊢;obtain ⟨r,es⟩:=x;simp only at hr ⊢;have Sw:=hr.mono h;clear hr;cases r with
  | ok a w' =>
   have hw:d<=w'.drawn:=Sw;cases a
   all_goals first | exact hw | trivial | dsimp only | skip
   all_goals (repeat' split)
   all_goals first | exact hw | trivial | (cases ‹Result.ok _ _=Result.ok _ _› <;> first | exact hw | trivial)
  | halt ha w' =>
   have hw:d<=w'.drawn:=Sw;cases ha
   all_goals first | exact hw | trivial | exact mF hw | exact gh hw
theorem BL {d:Nat}{p:Program}{main:Bool}{fr:Frame}{cs:List Frame}{dy:Option Dying}{w:World} (h:d<=w.drawn):GD d (unwind p main fr cs dy w):=by
 unfold unwind;simp only;split
 ·apply GD.after;split
  ·exact a0O h (lS (by assumption))
  ·trivial
 ·exact qm h
 ·split
  ·trivial
  ·split
   ·trivial
   ·split
    ·exact h
    ·split
     ·split
      ·exact h
      ·split
       ·exact a0O h (eV (by assumption))
       ·trivial
       ·trivial
     ·split
      ·exact mn h
      ·trivial
  ·split
   ·exact mN h
   ·apply GD.after;split
    ·exact mN (a0O h (lS (by assumption)))
    ·trivial
    ·trivial
theorem pM {d:Nat}{p:Program}{l:Bool}{fr:Frame}{cs:List Frame}{dy:Option Dying}{s:Sem Next}{w:World} (h:d<=w.drawn):GD d (stepG.apply p l fr cs dy s w):=by
 unfold stepG.apply;simp only;apply GD.after;have hr:RD d (if l=true then s.runT p w #[] else (s.run p w,#[])).1:=by
  split
  ·exact (oa p s w #[]).mono h
  ·exact (CD p s w).mono h
 generalize (if l=true then s.runT p w #[] else (s.run p w,#[]))=x at hr ⊢;obtain ⟨r,es⟩:=x;simp only at hr ⊢;cases r with
 | ok a w' =>
  have hw:d<=w'.drawn:=hr;cases a
  all_goals first | exact hw | trivial | dsimp only
  all_goals (repeat' first | apply GD.ite | split)
  all_goals first | exact hw | exact gh hw | trivial
 | halt ha w' =>
  have hw:d<=w'.drawn:=hr;cases ha
  all_goals first | exact hw | trivial | exact mF hw | exact gh hw | dsimp only | skip
  all_goals (repeat' split)
  all_goals first | exact hw | trivial | exact mF hw | exact gh hw | exact yj hw | (cases ‹Result.halt _ _=Result.halt _ _› <;> first | exact hw | trivial | exact yj hw)
theorem B1 {d:Nat}{p:Program}{l:Bool}{fr:Frame}{cs:List Frame}{dy:Option Dying}{w:World} (h:d<=w.drawn):GD d (stepG.oper p l fr cs dy w):=by
 unfold stepG.oper
 repeat' split
 all_goals first | exact pM h | trivial
theorem MF {d:Nat}{p:Program}{main l:Bool}{fr:Frame}{cs:List Frame}{dy:Option Dying}{w:World} (h:d<=w.drawn):GD d (stepG.exec p main l fr cs dy w):=by
 have lv:∀ (c:Prop) [Decidable c] (jump:Option Code),GD d (match fr.roundOf with
   | none => if c then .go { frame := { fr with mode := .returning }, callers := cs, status := .running, dying := dy } w else .ended (.stuck "exit, goto: no such block or label" (fr.pos p)) w
   | some l =>
    GStep.after (seen p fr.fn ((Instr.endRound l jump).runT p w #[]).2) <| match ((Instr.endRound l jump).runT p w #[]).1 with
    | .ok v w=>doReturn p main fr cs dy v w
    | .halt _ w => .ended (.stuck "range over a function: no such loop" (fr.pos p)) w) := by
  intro c _ jump;split
  ·refine GD.ite ?_ trivial;exact h
  ·apply GD.after;split
   ·exact mN (a0O h (lS (by assumption)))
   ·trivial
 unfold stepG.exec;simp only;split
 all_goals first | exact h | exact lv _ _ | trivial | exact pM h | exact B1 h | skip
 ·split <;> first | exact h | trivial
 ·exact GD.elim (lv _ _) fun _=>h
 ·exact GD.elim (lv _ _) fun _=>h
 ·apply GD.after;split
  ·exact pM (a0O h (lS (by assumption)))
  ·trivial
 ·apply GD.after;split
  ·exact a0O h (lS (by assumption))
  ·exact a0O h (sO (by assumption))
  ·trivial
 ·exact GD.elim trivial fun _=>pM h
 ·refine GD.ite h ?_;split
  ·exact a0O h (eV (by assumption))
  ·trivial
 ·exact GD.ite (B1 h) h
theorem HU {d:Nat}{p:Program}{main l:Bool}{g:Goroutine}{w:World} (h:d<=w.drawn):GD d (stepG p main g w l):=by
 unfold stepG;split;split
 ·exact Qf h
 ·exact MF h
 ·exact BL h
def SD (d:Nat):Stepped->Prop
 | .next m=>d<=m.world.drawn
 | .ended ..=>True
theorem Cz {d:Nat}{p:Program}{gs:Array Goroutine}{rest:Rest}{w:World} (h:d<=w.drawn):SD d (look p gs rest w):=by
 unfold look;simp only;split
 ·split
  ·trivial
  ·split
   ·trivial
   ·split
    ·have e:=eV ‹Sem.run _ _ _=Result.ok _ _›;exact a0O h e
    ·trivial
    ·trivial
 ·trivial
theorem wF {r:Rest}{cs:Array CommCase}{w w':World} (h:waitingAt r cs w=some w'):w'.drawn=w.drawn:=by
 unfold waitingAt at h
 repeat' split at h
 all_goals cases h
 all_goals rfl
theorem rY {d:Nat}{p:Program}{rest:Rest}{gs:Array Goroutine}{i:Nat}{g:Goroutine}{cases_:Array CommCase}{b:Bool}{sh:CommShape}{w:World} (h:d<=w.drawn):SD d (communicate p rest gs i g cases_ b sh w).1:=by
 unfold communicate;simp only
 repeat' split
 all_goals first
  | exact h
  | trivial
  | (have e:=eV ‹Sem.run _ _ w=Result.ok _ _›;have e2:=eV ‹Sem.run _ _ _=Result.ok _ _›;exact a0O h (a0O e e2))
  | (have e:=eV ‹Sem.run _ _ w=Result.ok _ _›;have e2:=BC ‹Sem.run _ _ _=Result.halt _ _›;exact a0O h (a0O e e2))
  | (have e:=eV ‹Sem.run _ _ w=Result.ok _ _›;exact a0O h e)
  | (have e:=wF ‹_›;rw [←e] at h;exact h)
theorem uW (m:Machine) (k:Nat) (t:Timer) (a b:Nat):(retime m k t a b).2.world.drawn=m.world.drawn:=by
 unfold retime;simp only;split
 ·unfold drain;split <;> rfl
 ·rfl
theorem Bb {m m':Machine}{a:Addr} (h:timerOp.opened m a=some m'):m'.world.drawn=m.world.drawn:=by
 unfold timerOp.opened at h;split at h
 ·split at h
  ·cases h;rfl
  ·cases h
 ·cases h;rfl
theorem zS {m m':Machine}{op:TimerOp}{v:Value} (h:timerOp m op=.ok (v,m')):m'.world.drawn=m.world.drawn:=by
 have nm:∀ (var:Addr) (f:Nat->Timer->Value × Machine) (d:Nat),(∀ k t,(f k t).2.world.drawn=d)->timerOp.named m var f=.ok (v,m')->m'.world.drawn=d:=by
  intro var f d hf h;unfold timerOp.named at h;split at h
  ·have e:=Except.ok.inj h;have e2:=congrArg (fun x=>x.2.world.drawn) e;simp only at e2;rw [←e2];exact hf _ _
  ·cases h
 unfold timerOp at h;split at h
 ·split at h
  ·cases h;rfl
  ·split at h
   ·split at h
    ·cases h
    ·cases h;rfl
   ·cases h
 ·exact nm _ (fun k t=>retime m k t 0 t.period) _ (fun k t=>uW _ _ _ _ _) h
 ·split at h
  ·rename_i m1 ho;have e:=nm _ _ _ (fun k t=>uW m1 k t _ _) h;exact e.trans (Bb ho)
  ·cases h
 ·cases h;rfl
theorem Gv {d:Nat}{p:Program}{m:Machine}{i:Nat}{l:Bool} (h:d<=m.world.drawn):SD d (Go.runT p m i l).1:=by
 unfold Go.runT;simp only;have hs:=HU (p:=p) (main:=i == 0) (l:=l) (g:=(m.gs.swapAt! i { (default:Goroutine) with status:=.finished }).1) h;generalize stepG p (i == 0) (m.gs.swapAt! i { (default:Goroutine) with status:=.finished }).1 m.world l=s at hs ⊢;cases s with
 | go g w es=>exact hs
 | comm g c b sh w es=>exact rY hs
 | spawn g c w es=>exact hs
 | count g w es =>
  dsimp only;split
  ·trivial
  ·exact hs
 | timer g op w es =>
  dsimp only;split
  ·have e:=zS ‹timerOp _ _=_›;have e2:d<=w.drawn:=hs;show d<=_;rw [←(show _=w.drawn from e)] at e2;exact e2
  ·split
   ·rename_i e;exact (congrArg (GD d) e).mp (gh hs)
   ·trivial
  ·trivial
  ·trivial
 | alone g on w es=>exact hs
 | newcoro g c df w es=>exact hs
 | coroswitch g c ex w es =>
  dsimp only;split
  ·exact hs
  ·split
   ·rename_i e;exact (congrArg (GD d) e).mp (gh hs)
   ·trivial
  ·trivial
 | collect g w es=>exact Cz hs
 | watch g w es=>exact hs
 | ended o w es=>trivial
theorem Fj {d:Nat}{p:Program}{m:Machine}{k:Nat} (h:d<=m.world.drawn):SD d (serve p m k):=by
 unfold serve;split
 ·trivial
 ·exact h
 ·dsimp only;split
  ·trivial
  ·exact h
def MD (d:Nat):Move->Prop
 | .goroutine m _=>d<=m.world.drawn
 | .machine s _=>SD d s
theorem uc {d:Nat}{p:Program}{m:Machine} (h:d<=m.world.drawn):MD d (askOn p m):=by
 have pk:∀ m:Machine,d<=m.world.drawn->∀ rs:List Nat,MD d (match (choose (.sched rs.length)).run p m.world with
   | .halt _ w => .machine (.ended (.stuck "sched" "") w)
   | .ok k world =>
    if rs.length<=1 then .goroutine { m with world } (rs.getD k 0) else
    match (choose (.extern "sched.slice" 65536)).run p world with
    | .halt _ w => .machine (.ended (.stuck "sched.slice" "") w)
    | .ok n world=>.goroutine { m with world,rest:={ m.rest with slice:=if n=0 then none else some (rs.getD k 0,n) } } (rs.getD k 0)):=by
  intro m h rs;split
  ·trivial
  ·rename_i w1 e1;have h1:=a0O h (eV e1);split
   ·exact h1
   ·split
    ·trivial
    ·rename_i w2 e2;exact a0O h1 (eV e2)
 unfold askOn;simp only;split
 ·trivial
 ·rename_i k w1 e1;have h1:=a0O h (eV e1);split
  ·exact Fj h1
  ·split
   ·split
    ·exact h1
    ·split
     ·exact h1
     ·split <;> trivial
   ·split
    ·exact pk { m with world:=w1 } h1 _
    ·split
     ·trivial
     ·rename_i e2;exact pk { m with world:=_ } (a0O h1 (eV e2)) _
     ·rename_i e2;have e3:=eV e2;exact a0O h1 e3
     ·rename_i e2;have e3:=eV e2;exact pk (Machine.advanceTo { m with world:=_ } _) (a0O h1 e3) _
theorem Cv {d:Nat}{p:Program}{m:Machine} (h:d<=m.world.drawn):MD d (Go.ask p m):=by
 unfold Go.ask;split
 ·split
  ·trivial
  ·rename_i w1 e1;have h1:=a0O h (eV e1);have hl:=Cz (p:=p) (gs:=m.gs) (rest:=m.rest) h1;generalize look p m.gs m.rest w1=s at hl ⊢;cases s with
   | next m=>exact uc hl
   | ended o w=>trivial
  ·rename_i w1 _ e1;exact uc (m:={ m with world:=w1 }) (a0O h (eV e1))
 ·exact uc h
theorem Nc {d:Nat}{p:Program}{m:Machine} (h:d<=m.world.drawn):MD d (Go.move p m):=by
 unfold Go.move;split
 ·split
  ·exact h
  ·trivial
 ·split
  ·split
   ·exact h
   ·exact Cv h
  ·exact Cv h
theorem NP {p:Program}{m m':Machine} (h:step p m=.next m'):m.world.drawn<=m'.world.drawn:=by
 have hm:=Nc (p:=p) (m:=m) (a0U _);unfold step stepT at h;generalize Go.move p m=mv at hm h;cases mv with
 | goroutine m1 i =>
  have hs:=Gv (p:=p) (i:=i) (l:=true) hm;dsimp only at h;rw [h] at hs;exact hs
 | machine s ops =>
  dsimp only at h;subst h;exact hm
theorem DN {p:Program}{m m':Machine} (h:Steps p m m'):m.world.drawn<=m'.world.drawn:=by
 obtain ⟨n,hn⟩:=h
 induction n generalizing m with
 | zero=>cases hn;exact a0U _
 | succ n ih =>
  unfold runN at hn;generalize hs:step p m=s at hn;cases s with
  | next m1=>exact a0O (NP hs) (ih hn)
  | ended o w=>cases hn
theorem wI {p:Program}{f:FuncId}{args:Array Value}{w:World}{v:Value}{R:World->Prop} (h:Calls p f args w fun e w'=>e=.returned v∧R w'):Calls p f args w fun e w'=>e=.returned v∧R w'∧w.drawn<=w'.drawn:=by
 intro cs;obtain ⟨e,w',fr,⟨he,hR⟩,hc,hf,hl⟩:=h cs;subst he;exact ⟨_,w',fr,⟨rfl,hR,DN hc⟩,hc,hf,hl⟩
end Kw
namespace Kw
section
open Go Go.Proofs Go.Shelf Go.RowKit
variable {P:Program}
theorem pj {f:FuncId}{args:Array Value}{H:au}{v:Value}{Q:Value->au->Prop} (hfn:∃ fn,P.funcs[f]?=some fn∧fn.body.isSome=true) (hc:∀ w:World,w.heap=H->Calls P f args w fun e w'=>e=.returned v∧Below w.heap.size w w') (h:∀ H',Fr [] H H'->Q v H'):ag P f args Q H:=by
 refine ⟨hfn,fun w hw=>?_⟩;refine (wI (hc w hw)).mono ?_;rintro e w' ⟨rfl,hb,hd⟩;subst hw;refine ⟨v,rfl,h _ ⟨hb.size,fun b k9 _=>hb.block b k9⟩,hb.tape,hb.os,hb.output,hd,hb.size,fun b ds k9=>?_⟩;rw [hb.block b (a1j.1 k9).1];exact k9
theorem ux {ρ:Ren} (L:Lays.n105 P ρ) (X:Builder.Extra P ρ) (hfn:∃ fn,P.funcs[ρ.f 105]?=some fn∧fn.body.isSome=true){s:ByteArray}{c:Nat}{H:au}{Q:Value->au->Prop} (hc:c<=9223372036854775807) (hlen:s.size*c<=140737488355328) (h:∀ H',Fr [] H H'->Q (.string ⟨(Lib.repeatL s.data.toList c).toArray⟩) H'):ag P (ρ.f 105) #[.string s,.int .i64 c] Q H :=
 pj hfn (fun w _=>Any.strings_Repeat L X s c w hc hlen) h
end
end Kw
namespace Go.Proofs.YtgjfejoohojokaaGreatDoor
open Kw
abbrev P1:ByteArray:=⟨#[118,97,108,117,101,58]⟩
abbrev Qe:ByteArray:=⟨#[118,97,108,117,101]⟩
abbrev Pj:ByteArray:=⟨#[110,117,109,65,114,103,115]⟩
def x7:Nat->ByteArray
 | 0=>⟨#[]⟩
 | n+1=>x7 n++P1
theorem og:∀ n,(x7 n).size=6*n
 | 0=>rfl
 | n+1=>by rw [x7,a3X,og n];show 6*n+6=_;omega
def wO (n:Nat):List PE:=(Pj,0,.slot 309 4) :: (Qe,0,.nil) :: (List.range n).map fun i=>(x7 (i+1),((i+1:Nat):Int),.nil)
def qA:List PE:=[(⟨#[61,61]⟩,1,.fn 171),(⟨#[61]⟩,1,.fn 171),(⟨#[126,126]⟩,1,.fn 172),(⟨#[99,108,97,115,115]⟩,0,.fn 173),(⟨#[105,115,78,105,108]⟩,0,.fn 174),(⟨#[110,111,116,78,105,108]⟩,0,.fn 175),(⟨#[121,111,117,114,115,101,108,102]⟩,0,.fn 176),(⟨#[105,115,75,105,110,100,79,102,58]⟩,1,.fn 177),(⟨#[105,110,115,116,86,97,114,83,105,122,101]⟩,0,.fn 178),(⟨#[105,110,115,116,86,97,114,65,116,58]⟩,1,.fn 179),(⟨#[105,110,115,116,86,97,114,65,116,58,112,117,116,58]⟩,2,.fn 179),(⟨#[99,111,112,121]⟩,0,.fn 180)]
def oX:List PE:=[(⟨#[110,111,116]⟩,0,.fn 292),(⟨#[38]⟩,1,.fn 293),(⟨#[97,110,100,58]⟩,1,.fn 293),(⟨#[111,114,58]⟩,1,.fn 294)]
def qH:List PE:=[(⟨#[43]⟩,1,.clo 295 183),(⟨#[45]⟩,1,.clo 295 184),(⟨#[42]⟩,1,.clo 295 185),(⟨#[47,47]⟩,1,.clo 295 186),(⟨#[92,92]⟩,1,.clo 295 187),(⟨#[98,105,116,65,110,100,58]⟩,1,.clo 295 188),(⟨#[98,105,116,79,114,58]⟩,1,.clo 295 189),(⟨#[98,105,116,88,111,114,58]⟩,1,.clo 295 190),(⟨#[98,105,116,83,104,105,102,116,58]⟩,1,.clo 295 191),(⟨#[60]⟩,1,.clo 299 193),(⟨#[62]⟩,1,.clo 299 194),(⟨#[60,61]⟩,1,.clo 299 195),(⟨#[62,61]⟩,1,.clo 299 196),(⟨#[109,105,110,58]⟩,1,.clo 295 197),(⟨#[109,97,120,58]⟩,1,.clo 295 198),(⟨#[61]⟩,1,.fn 171),(⟨#[126,61]⟩,1,.fn 172),(⟨#[110,101,103,97,116,101,100]⟩,0,.fn 199),(⟨#[97,98,115]⟩,0,.fn 200),(⟨#[101,118,101,110]⟩,0,.fn 201),(⟨#[111,100,100]⟩,0,.fn 202),(⟨#[112,114,105,110,116,83,116,114,105,110,103]⟩,0,.fn 203)]
def qW:List PE:=[(⟨#[115,105,122,101]⟩,0,.fn 204),(⟨#[97,115,83,116,114,105,110,103]⟩,0,.fn 205),(⟨#[60]⟩,1,.fn 206)]
def mD:List PE:=[(⟨#[115,105,122,101]⟩,0,.fn 207),(⟨#[105,115,69,109,112,116,121]⟩,0,.fn 208),(⟨#[97,116,58]⟩,1,.fn 209),(⟨#[97,116,58,112,117,116,58]⟩,2,.fn 210),(⟨#[44]⟩,1,.fn 211),(⟨#[61]⟩,1,.fn 212),(⟨#[60]⟩,1,.fn 213),(⟨#[97,115,83,121,109,98,111,108]⟩,0,.fn 214)]
def mH:List PE:=[(⟨#[115,105,122,101]⟩,0,.fn 207),(⟨#[105,115,69,109,112,116,121]⟩,0,.fn 208),(⟨#[97,116,58]⟩,1,.fn 215),(⟨#[97,116,58,112,117,116,58]⟩,2,.fn 215)]
def mG:List PE:=[(⟨#[110,101,119]⟩,0,.fn 216),(⟨#[110,101,119,58]⟩,1,.fn 217),(⟨#[110,97,109,101]⟩,0,.slot 309 0),(⟨#[115,117,112,101,114,99,108,97,115,115]⟩,0,.slot 309 1)]
def CM:List PE:=[(⟨#[115,101,108,101,99,116,111,114]⟩,0,.slot 309 0),(⟨#[97,114,103,117,109,101,110,116,115]⟩,0,.slot 309 1)]
def fi (c:Int):List PE :=
 if c=4 then qA else
 if c=6∨c=7 then oX else
 if c=8 then qH else
 if c=9 then qW else
 if c=10 then mD else
 if c=11 then mH else
 if c=12 then mG else
 if c=14 then wO 8 else
 if c=17 then CM else
 []
theorem Ba (n:Nat):x7 n=⟨(Lib.repeatL P1.data.toList n).toArray⟩:=by
 induction n with
 | zero=>rfl
 | succ n ih =>
  rw [x7,ih,Lib.repeatL_add,Lib.repeatL_one];refine a3q ?_;rw [a3Y];simp
theorem zR {es:List PE}{x:ByteArray} (h:∀ e∈es,x≠e.1):gv es x=none:=by
 induction es with
 | nil=>rfl
 | cons e es ih =>
  unfold gv;rw [a0a (h e (by simp))];exact ih fun y hy=>h y (by simp [hy])
theorem Br (n:Nat):gv (wO n) (x7 (n+1))=none:=by
 refine zR fun e he hx=>?_;have hs:=congrArg ByteArray.size hx;rw [og] at hs;unfold wO at he;simp only [a0E,a1n,a4e] at he;rcases he with rfl | rfl | ⟨i,hi,rfl⟩
 ·have:Pj.size=7:=rfl;simp only at hs;omega
 ·have:Qe.size=5:=rfl;simp only at hs;omega
 ·simp only at hs;rw [og] at hs;omega
section
variable {H:au}{Q:QT}
theorem Ao (h:∀ r H',MapE H H' r (wO 8)->Q (.map (some r)) H'):ag PP 219 #[] Q H:=by
 apply HM;dsimp only [iS,eI,ah,aZ,ac,bX,bm,gS,cS,aO,ax,aI];refine kd (MapE.new _) (by decide) fun H1 m1=>vY m1 (by decide) fun H2 m2=>?_;refine ⟨fun w H'=>∃ i:Nat,w=[ac ((i+1:Nat):Int)]∧i<=8∧MapE H H' H.size (wO i),fun w _=>match w with
  | [.int _ i]=>(9-i).toNat
  | _=>0,⟨0,rfl,a07 _,m2⟩,?_⟩
 rintro w H3 ⟨i,rfl,hi,m3⟩ _;refine ⟨_,rfl,?_⟩;rw [ae];refine aD (fun an=>?_) fun an=>?_
 ·have e:IntKind.wrap .i64 (((i+1:Nat):Int)+1)=(((i+1)+1:Nat):Int):=by rw [ao (by omega) (by omega)];omega
  refine ux Tryz.rep Tryz.repX ⟨_,Tryz.func310,rfl⟩ (c:=i+1) (by omega) (by show 6*(i+1)<=_;omega) fun H4 f4=>⟨_,rfl,?_⟩;rw [←Ba,e];refine vY (m3.fr f4) (Br i) fun H5 m5=>⟨⟨i+1,rfl,by omega,?_⟩,by simp;omega⟩;unfold wO;rw [a4F,a2m];exact m5
 ·have hi8:i=8:=by omega
  subst hi8;exact h _ _ m3
theorem we (h:∀ r H',MapE H H' r oX->Q (.map (some r)) H'):ag PP 181 #[] Q H:=by
 apply Kk;dsimp only [aZ,ac,gS,cS,aO,ax];exact bY (MapE.new _) (by decide) fun _ m1=>bY m1 (by decide) fun _ m2=>bY m2 (by decide) fun _ m3=>bY m3 (by decide) fun _ m4=>h _ _ m4
theorem Ck {c:Int} (h:∀ r H',yt H H' r (fi c)->Q (.map r) H'):ag PP 85 #[ac c] Q H:=by
 apply Ny;dsimp only [aP,iS,A7,ah,aZ,ac,rL,gS,cS,aO,ax];refine dh (fun e=>?_) fun n4=>?_
 ·subst e;exact bY (MapE.new _) (by decide) fun _ m1=>bY m1 (by decide) fun _ m2=>bY m2 (by decide) fun _ m3=>bY m3 (by decide) fun _ m4=>bY m4 (by decide) fun _ m5=>bY m5 (by decide) fun _ m6=>bY m6 (by decide) fun _ m7=>bY m7 (by decide) fun _ m8=>bY m8 (by decide) fun _ m9=>bY m9 (by decide) fun _ m10=>bY m10 (by decide) fun _ m11=>bY m11 (by decide) fun _ m12=>h (some _) _ m12
 refine ⟨fun w H'=>w=[.bool (decide (c=6∨c=7))]∧H'=H,dh (fun e=>⟨by simp [e],rfl⟩) fun n7=>⟨by rw [bq];simp [n7],rfl⟩,?_⟩;rintro w H1 ⟨rfl,rfl⟩ _;refine ⟨_,rfl,?_⟩;rw [ae];refine aD (fun e=>?_) fun n67=>?_
 ·refine we fun r H' m=>⟨_,rfl,h (some r) H' ?_⟩;rcases e with rfl | rfl <;> exact m
 refine dh (fun e=>?_) fun n8=>?_
 ·subst e;exact fL (MapE.new _) (by decide) fun _ m1=>fL m1 (by decide) fun _ m2=>fL m2 (by decide) fun _ m3=>fL m3 (by decide) fun _ m4=>fL m4 (by decide) fun _ m5=>fL m5 (by decide) fun _ m6=>fL m6 (by decide) fun _ m7=>fL m7 (by decide) fun _ m8=>fL m8 (by decide) fun _ m9=>mU m9 (by decide) fun _ m10=>mU m10 (by decide) fun _ m11=>mU m11 (by decide) fun _ m12=>mU m12 (by decide) fun _ m13=>fL m13 (by decide) fun _ m14=>fL m14 (by decide) fun _ m15=>bY m15 (by decide) fun _ m16=>bY m16 (by decide) fun _ m17=>bY m17 (by decide) fun _ m18=>bY m18 (by decide) fun _ m19=>bY m19 (by decide) fun _ m20=>bY m20 (by decide) fun _ m21=>bY m21 (by decide) fun _ m22=>h (some _) _ m22
 refine dh (fun e=>?_) fun n9=>?_
 ·subst e;exact bY (MapE.new _) (by decide) fun _ m1=>bY m1 (by decide) fun _ m2=>bY m2 (by decide) fun _ m3=>h (some _) _ m3
 refine dh (fun e=>?_) fun n10=>?_
 ·subst e;exact bY (MapE.new _) (by decide) fun _ m1=>bY m1 (by decide) fun _ m2=>bY m2 (by decide) fun _ m3=>bY m3 (by decide) fun _ m4=>bY m4 (by decide) fun _ m5=>bY m5 (by decide) fun _ m6=>bY m6 (by decide) fun _ m7=>bY m7 (by decide) fun _ m8=>h (some _) _ m8
 refine dh (fun e=>?_) fun n11=>?_
 ·subst e;exact bY (MapE.new _) (by decide) fun _ m1=>bY m1 (by decide) fun _ m2=>bY m2 (by decide) fun _ m3=>bY m3 (by decide) fun _ m4=>h (some _) _ m4
 refine dh (fun e=>?_) fun n12=>?_
 ·subst e;exact bY (MapE.new _) (by decide) fun _ m1=>bY m1 (by decide) fun _ m2=>kd m2 (by decide) fun _ m3=>kd m3 (by decide) fun _ m4=>h (some _) _ m4
 refine dh (fun e=>?_) fun n14=>?_
 ·subst e;exact Ao fun r H' m=>⟨_,rfl,h (some r) H' m⟩
 refine dh (fun e=>?_) fun n17=>?_
 ·subst e;exact kd (MapE.new _) (by decide) fun _ m1=>kd m1 (by decide) fun _ m2=>h (some _) _ m2
 refine h none _ ⟨?_,Fr.refl _ _⟩;unfold fi;rw [a0a n4,a0a n67,a0a n8,a0a n9,a0a n10,a0a n11,a0a n12,a0a n14,a0a n17]
end
theorem rJ.func {H:au}{n r:Nat}{p:PF}{v:Value} (h:rJ H n r p v) (hp:p≠.nil):∃ f g hh,v=.func (.func f) g hh:=by
 cases p with
 | fn f=>exact ⟨_,_,_,h⟩
 | clo f g=>obtain ⟨b,h1,_⟩:=h;exact ⟨_,_,_,h1⟩
 | slot f i=>obtain ⟨b,h1,_⟩:=h;exact ⟨_,_,_,h1⟩
 | nil=>exact absurd rfl hp
section
variable {H:au}{b:Nat}{F:aS}{s:SP}{t:TB}{v:KV}{Q:QT}{r:Int}{a:Option Addr}{l c:Nat}{ws:List Int}
theorem Av {es:List PE}{x:ByteArray}{n:Int}{p:PF} (h:gv es x=some (n,p)):∃ y,(y,n,p)∈es:=by
 induction es with
 | nil=>cases h
 | cons e es ih =>
  unfold gv at h;split at h
  ·have h2:=Option.some.inj h;exact ⟨e.1,by rw [←h2];simp⟩
  ·obtain ⟨y,hy⟩:=ih h;exact ⟨y,a2F _ hy⟩
theorem Ah {k:Int}{x:ByteArray}{n:Int}{p:PF} (h:gv (fi k) x=some (n,p)):n<=1000:=by
 obtain ⟨y,hy⟩:=Av h;have go:∀ {es:List PE},(∀ e∈es,e.2.1<=1000)->(y,n,p)∈es->n<=1000:=fun h hm=>h _ hm;unfold fi at hy;split at hy
 ·exact go (by unfold qA;simp) hy
 split at hy
 ·exact go (by unfold oX;simp) hy
 split at hy
 ·exact go (by unfold qH;simp) hy
 split at hy
 ·exact go (by unfold qW;simp) hy
 split at hy
 ·exact go (by unfold mD;simp) hy
 split at hy
 ·exact go (by unfold mH;simp) hy
 split at hy
 ·exact go (by unfold mG;simp) hy
 split at hy
 ·refine go (fun e he=>?_) hy;unfold wO at he;simp only [a0E,a1n,a4e] at he;rcases he with rfl | rfl | ⟨i,hi,rfl⟩
  ·decide
  ·decide
  ·simp only;omega
 split at hy
 ·exact go (by unfold CM;simp) hy
 ·cases hy
end
section
variable {Q:QT}{H:au}
variable {a b c d A B D P:Option Addr}{i j k m n x y z I J K M N:Int}{l o r s u v L O R S U V:Nat}{t w T W:ByteArray}{e E g:Bool}{q:Option Nat}{p X Y Z:Value}{F G:Addr}
theorem Pw (h:ax (some (aL H.size)) fun b=>ax (am b) fun c=>bk 18 #[c,ac i,ac j] (aJ H #[am none,am none,av none 0 0,av none 0 0] 52) fun d e=>ah (!d) (Q (aP d) e) (aE b fun b=>aF e (b.add 1) fun b=>ah (cD b) (Q (aP d) e) (bX [ac 0] e fun b d e f g=>ax (aP false) fun i=>ah (aX g (l:Int)) (bf g l a fun a=>ax (bc a g 6) fun a=>ay f a fun j=>ay f (a.add 1) fun k=>cX f (a.add 2) fun l=>ay f (a.add 3) fun m=>aK f (a.add 4) fun n o p=>ay f (a.add 5) fun a=>bk 19 #[c,aZ #[ac j,ac k,aO l,ac m,av n o p,ac a]] f fun a j=>ah (!a) (Q i j) (bk 20 #[c] j fun a c=>ah (!a) (Q i c) (bm b d [ac (aI (g+1))] c e f))) (aC 22 #[ac 3] f fun a b=>aC 22 #[ac 4] b fun b d=>bk 21 #[c,ac 8,aO (⟨#[43]⟩:ByteArray),ac a,av (some (aL d.size)) 1 1] (aJ d #[ac b] 26) fun a b=>ah a (bk 20 #[c] b fun a b=>Q (aP a) b) (Q i b))))):ag PP 5 #[ac i,ac j,.slice a l o] Q H :=
 okL Tryz.func5 rfl (fun | 6=>some [(9,3)] | _=>none) h
theorem NM (h:fN 23 #[ac i,ac j] H fun b c d=>fN 38 #[ac i,ac j] d fun d e f=>aC 24 #[ac c] f fun c f=>ax (aP false) fun g=>ah (c != e) (Q g f) (ah (!(cD b == cD d)) (Q g f) (aE a fun c=>bj f c (am b) fun c=>aE a fun e=>bj c (e.add 1) (am d) fun c=>ah (cD d) (Q (aP true) c) (ax (aO (⟨#[80,97,105,114]⟩:ByteArray)) fun e=>ax (aO (⟨#[79,98,106,101,99,116]⟩:ByteArray)) fun f=>ax (aO (⟨#[120]⟩:ByteArray)) fun i=>ax (aO (⟨#[121]⟩:ByteArray)) fun j=>ak 25 #[am b,e,f,av (some (aL c.size)) 2 2] (aJ c #[i,j] 9) fun c k l=>ak 39 #[am d,e,f,av (some (aL l.size)) 2 2] (aJ l #[i,j] 9) fun f i j=>ax (aO (⟨#[77,111,114,101]⟩:ByteArray)) fun l=>ax (aO (⟨#[122]⟩:ByteArray)) fun m=>ak 25 #[am b,l,e,av (some (aL j.size)) 1 1] (aJ j #[m] 9) fun b j n=>ak 39 #[am d,l,e,av (some (aL n.size)) 1 1] (aJ n #[m] 9) fun d e l=>ah (c != f) (Q g l) (aC 24 #[ac k] l fun c f=>ah (c != i) (Q g f) (ah (b != d) (Q g f) (aC 24 #[ac j] f fun b c=>ah (b != e) (Q g c) (aC 40 #[ac 12] c fun b c=>Pf (fun a=>ax (aJ c #[ac 4,ac 12,ac 8,ac 7,ac 16,ac 32,ac 40,ac 44,ac 2,ac b] 26) fun b=>ax (some (aL c.size)) fun c=>ah (d != 0) (((0:Int)<=9∧9<=(10:Int))∧aC 40 #[ac d] b fun b d=>True∧True∧bM (Builtin.append_ #[30,30] 30 #[av c (Int.toNat 9) 10,av (some (aL d.size)) 1 1]) (aJ d #[ac b] 26) fun b c d e=>True∧a [av b c d] e) (a [av c 10 10] b)) fun b c _ d=>bX [ac 0] d fun d e f g i=>ah (aX i (c:Int)) (bf i c b fun b=>ay g (bc b i 1) fun b=>fe 41 #[am a,ac b] g fun a=>bm d e [ac (aI (i+1))] a f g) (Q (aP true) g))))))))):ag PP 18 #[.pointer a,ac i,ac j] Q H :=
 okL Tryz.func18 rfl (fun | 1018=>some [(17,30)] | 19=>some [(18,3)] | _=>none) h
theorem Md (h:ax (aJ H #[ac i,ac j,aO t,ac k,av b l o,ac m] 28) fun b=>ax (aL H.size) fun c=>ay b c fun d=>ax (aN H.size 3) fun e=>ax (aN H.size 5) fun f=>ax (aN H.size 2) fun g=>ax (am a) fun i=>ah (d == 1) (ay b c fun a=>ay b (aN H.size 1) fun c=>cX b g fun d=>ay b e fun e=>aK b (aN H.size 4) fun g j k=>ay b f fun f=>bk 42 #[i,aZ #[ac a,ac c,aO d,ac e,av g j k,ac f]] b fun a b=>Q (aP a) b) (ax (aP true) fun j=>ah (d == 2) (ay b f fun a=>bk 43 #[i,ac a] b fun a b=>ah a (ay b f fun a=>fe 41 #[i,ac a] b fun a=>Q j a) (Q j b)) (ah (d == 3) (aE a fun c=>aF b c fun c=>ay b e fun d=>du 7 #[am c] b fun b c=>((aq c e=some (ac d)∧True)∧True)∧du 44 #[am b] c fun b c=>((aq c e=some (ac d)∧True)∧True)∧aC 45 #[am b,ac d] c fun b c=>True∧aE a fun a=>aF c (a.add 1) fun a=>aE a fun a=>aF c a fun a=>aE a fun a=>aF c a fun a=>ay c e fun d=>aC 46 #[am a,ac d] c fun a c=>True∧aC 24 #[ac b] c fun b c=>Q (aP (b == a)) c) (ah (d == 4) (aE a fun c=>aK b (c.add 2) fun _ c _=>ax (aI ((c:Int)-10)) fun c=>ah (bP c 0) (aE a fun d=>aF b d fun d=>du 7 #[am d] b fun b d=>aC 8 #[am b,ac c] d fun b d=>aE a fun e=>aF d (e.add 1) fun e=>aE e fun e=>aF d e fun e=>aC 47 #[am e,ac c] d fun c d=>aE a fun e=>aK d (e.add 2) fun e _ f=>((0:Int)<=10∧10<=(f:Int))∧aE a fun a=>bj d (a.add 2) (av e (Int.toNat 10) f) fun a=>aC 24 #[ac b] a fun a b=>Q (aP (a == c)) b) (Q j b)) (ah (d == 5) (cX b g fun a=>bk 48 #[i,aO a] b fun a b=>Q (aP a) b) (ah (d == 6) (ay b c fun a=>ay b (aN H.size 1) fun c=>cX b g fun d=>ay b e fun e=>aK b (aN H.size 4) fun g j k=>ay b f fun f=>bk 49 #[i,aZ #[ac a,ac c,aO d,ac e,av g j k,ac f]] b fun a b=>Q (aP a) b) (Q j b))))))):ag PP 19 #[.pointer a,.agg #[ac i,ac j,.string t,ac k,.slice b l o,ac m]] Q H :=
 okF Tryz.func19 rfl h
theorem Mj (h:aE a fun b=>aF H (b.add 1) fun b=>aE b fun b=>aF H b fun b=>aE b fun b=>aF H b fun b=>aE a fun c=>aF H c fun c=>du 7 #[am c] H fun c d=>du 44 #[am c] d fun c d=>aE a fun e=>aF d (e.add 1) fun e=>aE e fun e=>aF d e fun e=>cq 51 #[am e] d fun d e f g=>ax (am b) fun b=>dM 50 #[b,av d e f] g fun d e _ _ f=>bX [ac 0] f fun f g i j k=>ax (aP false) fun l=>ax (am c) fun c=>ah (aX k (e:Int)) (bf k e d fun a=>ay j (bc a k 1) fun a=>ak 52 #[b,ac a] j fun a _ m=>bf k e d fun n=>ay m (bc n k 1) fun n=>bW 53 #[b,ac n] m fun m n _ o=>bf k e d fun p=>ay o (bc p k 1) fun p=>ak 54 #[c,ac p] o fun o p q=>bf k e d fun r=>ay q (bc r k 1) fun r=>bW 55 #[c,ac r] q fun q r s t=>aC 24 #[ac p] t fun p t=>ah (p != 0) (Q l t) (aC 24 #[ac s] t fun p s=>ah (p != 0) (Q l s) (ah (a != o) (Q l s) (ah (m != q) (Q l s) (ah (n != r) (Q l s) (bX [ac 0] s fun a n o p q=>ah (aX q m) (bf k e d fun f=>ay p (bc f k 1) fun f=>ak 56 #[b,ac f,ac q] p fun b _ f=>bf k e d fun d=>ay f (bc d k 1) fun d=>ak 57 #[c,ac d,ac q] f fun c d e=>ah (b != c) (Q l e) (aC 24 #[ac d] e fun b c=>ah (b != 0) (Q l c) (bm a n [ac (aI (q+1))] c o p))) (bm f g [ac (aI (k+1))] p i j))))))) (aE a fun d=>aF j d fun d=>du 7 #[am d] j fun d e=>ak 58 #[am d] e fun d e f=>aE a fun g=>aF f (g.add 1) fun g=>aE g fun g=>aF f g fun g=>ak 59 #[am g] f fun f g i=>ah (d == f) (ah (e == g) (aC 60 #[c] i fun c d=>True∧aC 61 #[b] d fun b d=>True∧ah (c == b) (aE a fun b=>aF d b fun b=>aE a fun c=>ax (c.add 1) fun c=>aF d c fun e=>aE e fun f=>aF d f fun g=>du 7 #[am b] d fun b d=>((aq d f=some (am g)∧True)∧(aq d c=some (am e)∧True)∧True)∧cq 63 #[am b] d fun b d i j=>((aq j f=some (am g)∧True)∧(aq j c=some (am e)∧True)∧True)∧cq 64 #[am g] j fun c e f g=>True∧bk 62 #[av b d i,av c e f] g fun b c=>True∧ah b (aE a fun b=>aF c b fun b=>aE a fun a=>ax (a.add 1) fun a=>aF c a fun d=>aE d fun e=>ax (e.add 1) fun e=>aF c e fun f=>du 33 #[am b] c fun b c=>((aq c e=some (am f)∧True)∧(aq c a=some (am d)∧True)∧True)∧cq 66 #[am b] c fun b c g i=>((aq i e=some (am f)∧True)∧(aq i a=some (am d)∧True)∧True)∧cq 67 #[am f] i fun a d e f=>True∧bk 65 #[av b c g,av a d e] f fun a b=>True∧Q (aP a) b) (Q l c)) (Q l d)) (Q l i)) (Q l i))):ag PP 20 #[.pointer a] Q H :=
 okL Tryz.func20 rfl (fun | 5=>some [(7,3)] | 14=>some [(18,3)] | _=>none) h
theorem M2 (h:aE a fun c=>aK H (c.add 3) fun c _ d=>((0:Int)<=0∧0<=(d:Int))∧ax (av b l o) fun b=>bM (Builtin.append_ #[30,30] 30 #[av c (Int.toNat 0) d,b]) H fun c d e f=>aE a fun g=>bj f (g.add 3) (av c d e) fun c=>aE a fun d=>aK c (d.add 3) fun d e f=>bM (Builtin.append_ #[30,30] 30 #[av d e f,av (some (aL c.size)) 2 2]) (aJ c #[ac (-7),ac (-8)] 26) fun c d e f=>aE a fun g=>bj f (g.add 3) (av c d e) fun c=>aE a fun d=>aK c (d.add 3) fun d e f=>aE a fun g=>aF c g fun g=>ax (l:Int) fun k=>((0:Int)<=k∧k<=(f:Int))∧ax (av d (Int.toNat k) f) fun l=>ak 30 #[am g,ac i,aO t,ac j,l] c fun c g m=>True∧aE a fun n=>aF m (n.add 1) fun n=>ak 68 #[am n,ac i,aO t,ac j,b] m fun i j m=>ax (aP false) fun n=>ah (c != i) (Q n m) (aC 24 #[ac g] m fun c g=>ah (c != j) (Q n g) (((0:Int)<=k∧k<=(f:Int))∧bk 62 #[l,b] g fun b c=>ah (!b) (Q n c) (bf k e d fun b=>ay c (bc b k 1) fun b=>ah (b != (-7)) (Q n c) (bf (aI (k+1)) e d fun b=>ay c (bc b (aI (k+1)) 1) fun b=>ah (b != (-8)) (Q n c) (ah (j == 0) (fe 41 #[am a,ac i] c fun a=>Q (aP true) a) (Q (aP true) c))))))):ag PP 21 #[.pointer a,ac i,.string t,ac j,.slice b l o] Q H :=
 okF Tryz.func21 rfl h
theorem N5 (h:Q (ac i) H):ag PP 24 #[ac i] Q H :=
 okF Tryz.func24 rfl h
theorem ML (h:aE a fun b=>aF H b fun b=>du 7 #[am b] H fun b c=>aC 74 #[am b,av (some (aL c.size)) 1 1] (aJ c #[ac i] 26) fun _ b=>aE a fun c=>aF b (c.add 1) fun c=>aE c fun c=>aF b c fun c=>aC 104 #[am c,av (some (aL b.size)) 1 1] (aJ b #[ac i] 26) fun _ b=>aE a fun c=>aK b (c.add 2) fun c d e=>bM (Builtin.append_ #[30,30] 30 #[av c d e,av (some (aL b.size)) 1 1]) (aJ b #[ac i] 26) fun b c d e=>aE a fun a=>bj e (a.add 2) (av b c d) fun a=>Q (bJ #[]) a):ag PP 41 #[.pointer a,ac i] Q H :=
 okF Tryz.func41 rfl h
theorem NF (h:cL [av none 0 0,ac 0] (aJ H #[ac i,ac j,aO t,ac k,av b l o,ac m] 28) fun b c d e f g i j=>aK e (aN H.size 4) fun _ k _=>ah (aX j (k:Int)) (aK e (aN H.size 4) fun k l _=>bf j l k fun k=>ay e (bc k j 1) fun k=>aC 105 #[am a,ac k] e fun a k=>bM (Builtin.append_ #[30,30] 30 #[av f g i,av (some (aL k.size)) 1 1]) (aJ k #[ac a] 26) fun a f g i=>bm b c [av a f g,ac (aI (j+1))] i d e) (ay e (aN H.size 1) fun b=>cX e (aN H.size 2) fun c=>ay e (aN H.size 3) fun d=>aC 105 #[am a,ac d] e fun d e=>((aq e (aN H.size 2)=some (aO c)∧True)∧(aq e (aN H.size 1)=some (ac b)∧True)∧True)∧bk 21 #[am a,ac b,aO c,ac d,av f g i] e fun a b=>True∧Q (aP a) b)):ag PP 42 #[.pointer a,.agg #[ac i,ac j,.string t,ac k,.slice b l o,ac m]] Q H :=
 okL Tryz.func42 rfl (fun | 3=>some [(5,30),(6,3)] | _=>none) h
theorem Ma (h:aE a fun b=>aF H (b.add 1) fun b=>ak 106 #[am b,ac i] H fun b c d=>ah (c != 0) (Q (aP false) d) (ah (b == 8) (Q (aP true) d) (ah (b == 9) (aE a fun a=>aF d (a.add 1) fun a=>aE a fun a=>aF d (a.add 1) fun a=>aC 107 #[am a] d fun a b=>Q (aP (aX (aI (Int.tdiv i 4)) a)) b) (aC 108 #[ac i] d fun a b=>Q (aP (decide (a<=18))) b)))):ag PP 43 #[.pointer a,ac i] Q H :=
 okF Tryz.func43 rfl h
theorem MS (h:ax (t.size:Int) fun b=>ah (bP b 200) (Q (aP true) H) (aE a fun c=>aK H (c.add 2) fun _ c _=>aC 40 #[ac 10] H fun d e=>aC 22 #[ac b] e fun e f=>bk 21 #[am a,ac 12,aO (⟨#[110,101,119,58]⟩:ByteArray),ac d,av (some (aL f.size)) 1 1] (aJ f #[ac e] 26) fun d e=>Lw [aP d,ac 0] e fun d e f g i j=>ah (aX j b) (ah i (aE a fun b=>aK g (b.add 2) fun _ b _=>ah (bP (b:Int) (c:Int)) (aE a fun b=>ax (b.add 2) fun b=>aK g b fun i k l=>bf (c:Int) k i fun m=>ax (bc m (c:Int) 1) fun c=>ay g c fun m=>jb j t fun n=>ax (ac (aI (j+1))) fun j=>aC 22 #[j] g fun o p=>ax (some (av i k l)) fun i=>ax (some (ac m)) fun k=>((aq p c=k∧True)∧(aq p b=i∧True)∧True)∧aC 22 #[ac (aI (n.toNat:Int))] p fun l n=>((aq n c=k∧True)∧(aq n b=i∧True)∧True)∧ax (aJ n #[ac o,ac l] 26) fun l=>((aq l c=k∧True)∧(aq l b=i∧True)∧True)∧bk 21 #[am a,ac 10,aO (⟨#[97,116,58,112,117,116,58]⟩:ByteArray),ac m,av (some (aL n.size)) 2 2] l fun a b=>True∧bm d e [aP a,j] b f g) (Q (aP i) g)) (Q (aP i) g)) (Q (aP i) g))):ag PP 48 #[.pointer a,.string t] Q H :=
 okL Tryz.func48 rfl (fun | 6=>some [(6,4),(7,3)] | _=>none) h
theorem MX (h:aE a fun c=>ax (aJ H #[ac i,ac j,aO t,ac k,av b l o,ac m] 28) fun b=>aF b (c.add 1) fun c=>ax (aN H.size 5) fun d=>ay b d fun e=>ak 106 #[am c,ac e] b fun _ b c=>True∧ah (b == 0) (Q (aP true) c) (ay c (aN H.size 3) fun b=>ax (am a) fun a=>aC 105 #[a,ac b] c fun b c=>cL [av none 0 0,ac 0] c fun c e f g i j k l=>aK g (aN H.size 4) fun _ m _=>ax (av i j k) fun k=>ah (aX l (m:Int)) (aK g (aN H.size 4) fun b d _=>bf l d b fun b=>ay g (bc b l 1) fun b=>aC 105 #[a,ac b] g fun a b=>bM (Builtin.append_ #[30,30] 30 #[k,av (some (aL b.size)) 1 1]) (aJ b #[ac a] 26) fun a b d i=>bm c e [av a b d,ac (aI (l+1))] i f g) (ah (bP (j:Int) 0) (ay g d fun c=>bf 0 j i fun d=>bj g (bc d 0 1) (ac c) fun c=>ay c (aN H.size 1) fun d=>cX c (aN H.size 2) fun e=>bk 21 #[a,ac d,aO e,ac b,k] c fun a b=>Q (aP a) b) (ay g d fun b=>ay g (aN H.size 1) fun c=>cX g (aN H.size 2) fun d=>bk 21 #[a,ac c,aO d,ac b,k] g fun a b=>Q (aP a) b)))):ag PP 49 #[.pointer a,.agg #[ac i,ac j,.string t,ac k,.slice b l o,ac m]] Q H :=
 okL Tryz.func49 rfl (fun | 7=>some [(8,30),(9,3)] | _=>none) h
theorem N1 (h:ah ((l:Int) != (r:Int)) (Q (aP false) H) (bX [ac 0] H fun c d e f g=>ah (aX g (l:Int)) (bf g l a fun a=>ay f (bc a g 1) fun a=>bf g r b fun b=>ay f (bc b g 1) fun b=>ah (a != b) (Q (aP false) f) (bm c d [ac (aI (g+1))] f e f)) (Q (aP true) f))):ag PP 62 #[.slice a l o,.slice b r s] Q H :=
 okL Tryz.func62 rfl (fun | 4=>some [(5,3)] | _=>none) h
theorem Ms (h:ah ((l:Int) != (r:Int)) (Q (aP false) H) (bX [ac 0] H fun c d e f g=>ah (aX g (l:Int)) (bf g l a fun a=>cX f (bc a g 1) fun a=>bf g r b fun b=>cX f (bc b g 1) fun b=>ah (!(bO a b)) (Q (aP false) f) (bm c d [ac (aI (g+1))] f e f)) (Q (aP true) f))):ag PP 65 #[.slice a l o,.slice b r s] Q H :=
 okL Tryz.func65 rfl (fun | 4=>some [(5,3)] | _=>none) h
theorem Mx (h:ah (cD a) (Q (aA 0 2) H) (ax (aO t) fun c=>bk 126 #[ac i,c] H fun d e=>ax (aA 0 1) fun f=>ah (!d) (Q f e) (aC 127 #[c] e fun d e=>ax (l:Int) fun g=>ah (g != d) (Q f e) (ax (am a) fun a=>ax (ac j) fun d=>aC 128 #[a,d] e fun e j=>ah (e == 0) (Q f j) (ax (aL j.size) fun e=>ax (ac 0) fun k=>bj (aJ j #[am none,k,k,k] 191) e a fun m=>ax (aN j.size 1) fun n=>bj m n d fun m=>ax (aN j.size 2) fun o=>bj m o k fun m=>ax (aN j.size 3) fun j=>bj m j k fun m=>bX [k] m fun m p q r s=>ah (aX s g) (bf s l b fun b=>ay r (bc b s 1) fun b=>aC 128 #[a,ac b] r fun a b=>ah (a == 0) (Q f b) (bm m p [ac (aI (s+1))] b q r)) (mS (fun a=>ah (bP g 0) (bf 0 l b fun b=>ay r (bc b 0 1) fun b=>bj r o (ac b) fun b=>a [] b) (a [] r)) fun f=>mS (fun a=>ah (bP g 1) (bf 1 l b fun b=>ay f (bc b 1 1) fun b=>bj f j (ac b) fun b=>a [] b) (a [] f)) fun b=>bk 129 #[a,d,ac i] b fun b f=>ah (!b) (Q (aA 0 170) f) (aF f e fun b=>ay f n fun g=>ay f o fun l=>ay f j fun m=>bk 130 #[aZ #[am b,ac g,ac l,ac m],ac i] f fun b f=>ah (!b) (Q (aA 0 170) f) (ah (i == 4) (aF f e fun a=>ay f n fun b=>ay f o fun d=>ay f j fun e=>ak 131 #[aZ #[am a,ac b,ac d,ac e],c] f fun a b c=>Q (aA a b) c) (rL (fun a=>ah (i == 7) (a [aP true] f) (a [aP (i == 6)] f)) fun b f=>ah b (aF f e fun a=>ay f n fun b=>ay f o fun d=>ay f j fun e=>ak 132 #[aZ #[am a,ac b,ac d,ac e],c] f fun a b c=>Q (aA a b) c) (ah (i == 8) (aF f e fun a=>ay f n fun b=>ay f o fun d=>ay f j fun e=>ak 133 #[aZ #[am a,ac b,ac d,ac e],c] f fun a b c=>Q (aA a b) c) (ah (i == 9) (aF f e fun a=>ay f n fun b=>ay f o fun d=>ay f j fun e=>ak 134 #[aZ #[am a,ac b,ac d,ac e],c] f fun a b c=>Q (aA a b) c) (ah (i == 10) (aF f e fun a=>ay f n fun b=>ay f o fun d=>ay f j fun e=>ak 135 #[aZ #[am a,ac b,ac d,ac e],c] f fun a b c=>Q (aA a b) c) (ah (i == 11) (aF f e fun a=>ay f n fun b=>ay f o fun d=>ay f j fun e=>ak 136 #[aZ #[am a,ac b,ac d,ac e],c] f fun a b c=>Q (aA a b) c) (ah (i == 12) (aF f e fun a=>ay f n fun b=>ay f o fun d=>ay f j fun e=>ak 137 #[aZ #[am a,ac b,ac d,ac e],c] f fun a b c=>Q (aA a b) c) (ah (i == 14) (aC 138 #[a,d,ac 4] f fun a b=>Q (aA a 0) b) (ah (bO t (⟨#[115,101,108,101,99,116,111,114]⟩:ByteArray)) (aC 138 #[a,d,k] f fun a b=>Q (aA a 0) b) (aC 138 #[a,d,ac 1] f fun a b=>Q (aA a 0) b))))))))))))))))):ag PP 68 #[.pointer a,ac i,.string t,ac j,.slice b l o] Q H :=
 okL Tryz.func68 rfl (fun | 9=>some [(13,3)] | 1015=>some [] | 1017=>some [] | 1024=>some [(80,4)] | _=>none) h
theorem Iy (h:aE a fun b=>aK H (b.add 2) fun _ b _=>aE a fun a=>aK H (a.add 2) fun a c _=>ax (b:Int) fun b=>ax (decide (b=0)) fun d=>ah d False (ah d False (ax (Int.tmod (aI (Int.tmod i b+b)) b) fun b=>bf b c a fun a=>ay H (bc a b 1) fun a=>Q (ac a) H))):ag PP 105 #[.pointer a,ac i] Q H :=
 okF Tryz.func105 rfl h
theorem Dq (h:cq 248 #[ac i] H fun a b _ c=>bX [ac 0] c fun c d e f g=>ah (aX g (b:Int)) (bf g b a fun a=>cX f (bc a g 1) fun a=>ah (bO a t) (Q (aP true) f) (bm c d [ac (aI (g+1))] f e f)) (Q (aP false) f)):ag PP 126 #[ac i,.string t] Q H :=
 okL Tryz.func126 rfl (fun | 3=>some [(6,3)] | _=>none) h
theorem Fz (h:js [ac 0,ac 0] H fun a b c d e f=>ax (ac e) fun g=>ah (aX f (t.size:Int)) (jb f t fun i=>ah ((i.toNat:Int) == 58) (bm a b [ac (aI (e+1)),ac (aI (f+1))] d c d) (bm a b [g,ac (aI (f+1))] d c d)) (jb 0 t fun a=>ah (e == 0) (ax (a.toNat:Int) fun a=>ah (aX a 65) (ah (aX a 97) (Q (ac 1) d) (ah (bP a 122) (Q (ac 1) d) (Q g d))) (ah (bP a 90) (ah (aX a 97) (Q (ac 1) d) (ah (bP a 122) (Q (ac 1) d) (Q g d))) (Q g d))) (Q g d))):ag PP 127 #[.string t] Q H :=
 okL Tryz.func127 rfl (fun | 3=>some [(3,3),(4,3)] | _=>none) h
theorem FU (h:ak 106 #[am a,ac i] H fun a b c=>ah (b != 0) (Q (ac 0) c) (Q (ac a) c)):ag PP 128 #[.pointer a,ac i] Q H :=
 okF Tryz.func128 rfl h
theorem Kd (h:aC 128 #[am a,ac i] H fun b c=>bX [ac b] c fun b c d e f=>ah (f != 0) (ah (f == j) (Q (aP true) e) (ak 249 #[am a,ac f] e fun a f g=>ah (f != 0) (Q (aP false) g) (bm b c [ac a] g d e))) (Q (aP false) e)):ag PP 129 #[.pointer a,ac i,ac j] Q H :=
 okL Tryz.func129 rfl (fun | 2=>some [(7,3)] | _=>none) h
theorem Ea (h:ax (aJ H #[am a,ac i,ac j,ac k] 191) fun a=>ax (aN H.size 1) fun b=>ax (aL H.size) fun c=>ah (m == 12) (aF a c fun c=>ay a b fun b=>aC 250 #[am c,ac b] a fun a b=>Q (aP (a == 7)) b) (ah (m == 14) (aF a c fun d=>ay a b fun e=>aC 250 #[am d,ac e] a fun a d=>ah (a == 6) (aF d c fun a=>ay d b fun b=>aC 138 #[am a,ac b,ac 4] d fun a b=>bk 251 #[ac a] b fun a b=>Q (aP a) b) (Q (aP false) d)) (ah (m == 17) (aF a c fun c=>ay a b fun b=>aC 250 #[am c,ac b] a fun a b=>Q (aP (a == 2)) b) (Q (aP true) a)))):ag PP 130 #[.agg #[.pointer a,ac i,ac j,ac k],ac m] Q H :=
 okF Tryz.func130 rfl h
theorem GJ (h:rL (fun b=>ax (aJ H #[am a,ac i,ac j,ac k] 191) fun a=>ah (bO t (⟨#[61,61]⟩:ByteArray)) (b [aP true] a) (b [aP (bO t (⟨#[61]⟩:ByteArray))] a)) fun a b=>ax (aN H.size 1) fun c=>ax (aN H.size 2) fun d=>ah a (ay b c fun a=>ay b d fun c=>ak 252 #[aP (a == c)] b fun a b c=>Q (aA a b) c) (ah (bO t (⟨#[126,126]⟩:ByteArray)) (ay b c fun a=>ay b d fun c=>ak 252 #[aP (a != c)] b fun a b c=>Q (aA a b) c) (ax (aL H.size) fun a=>ah (bO t (⟨#[99,108,97,115,115]⟩:ByteArray)) (aF b a fun a=>ay b c fun c=>aC 128 #[am a,ac c] b fun a b=>aC 40 #[ac a] b fun a b=>Q (aA a 0) b) (ah (bO t (⟨#[105,115,78,105,108]⟩:ByteArray)) (ay b c fun a=>aC 40 #[ac 1] b fun b d=>((aq d c=some (ac a)∧True)∧True)∧ak 252 #[aP (a == b)] d fun a b c=>True∧Q (aA a b) c) (ah (bO t (⟨#[110,111,116,78,105,108]⟩:ByteArray)) (ay b c fun a=>aC 40 #[ac 1] b fun b d=>((aq d c=some (ac a)∧True)∧True)∧ak 252 #[aP (a != b)] d fun a b c=>True∧Q (aA a b) c) (ah (bO t (⟨#[121,111,117,114,115,101,108,102]⟩:ByteArray)) (ay b c fun a=>Q (aA a 0) b) (ah (bO t (⟨#[105,115,75,105,110,100,79,102,58]⟩:ByteArray)) (aF b a fun e=>ay b d fun f=>aC 128 #[am e,ac f] b fun b e=>ah (b != 12) (Q (aA 0 170) e) (aF e a fun b=>ay e c fun f=>ay e d fun d=>aC 108 #[ac d] e fun d e=>((aq e c=some (ac f)∧True)∧(aq e a=some (am b)∧True)∧True)∧bk 129 #[am b,ac f,ac d] e fun a b=>True∧ak 252 #[aP a] b fun a b c=>True∧Q (aA a b) c)) (ax (aN H.size 3) fun e=>ah (bO t (⟨#[105,110,115,116,86,97,114,83,105,122,101]⟩:ByteArray)) (aF b a fun a=>ay b c fun c=>ay b d fun d=>ay b e fun e=>aC 253 #[aZ #[am a,ac c,ac d,ac e]] b fun a b=>aC 22 #[ac a] b fun a b=>Q (aA a 0) b) (ah (bO t (⟨#[105,110,115,116,86,97,114,65,116,58]⟩:ByteArray)) (aF b a fun f=>ay b c fun g=>ay b d fun i=>ay b e fun j=>aF b a fun k=>ay b c fun l=>ay b d fun m=>ay b e fun n=>aC 253 #[aZ #[am k,ac l,ac m,ac n]] b fun b k=>((aq k a=some (am f)∧aq k c=some (ac g)∧aq k d=some (ac i)∧aq k e=some (ac j)∧True)∧True)∧ak 254 #[aZ #[am f,ac g,ac i,ac j],ac b,aP false] k fun a b c=>True∧Q (aA a b) c) (ah (bO t (⟨#[105,110,115,116,86,97,114,65,116,58,112,117,116,58]⟩:ByteArray)) (aF b a fun f=>ay b c fun g=>ay b d fun i=>ay b e fun j=>aF b a fun k=>ay b c fun l=>ay b d fun m=>ay b e fun n=>aC 253 #[aZ #[am k,ac l,ac m,ac n]] b fun b k=>((aq k a=some (am f)∧aq k c=some (ac g)∧aq k d=some (ac i)∧aq k e=some (ac j)∧True)∧True)∧ak 254 #[aZ #[am f,ac g,ac i,ac j],ac b,aP true] k fun a b c=>True∧Q (aA a b) c) (aF b a fun a=>ay b c fun c=>ay b d fun d=>ay b e fun e=>ak 255 #[aZ #[am a,ac c,ac d,ac e]] b fun a b c=>Q (aA a b) c))))))))))):ag PP 131 #[.agg #[.pointer a,ac i,ac j,ac k],.string t] Q H :=
 okL Tryz.func131 rfl (fun | 1004=>some [(7,4)] | _=>none) h
theorem GY (h:aC 40 #[ac 3] (aJ H #[am a,ac i,ac j,ac k] 191) fun a b=>aC 40 #[ac 2] b fun b c=>ax (aN H.size 1) fun d=>ah (bO t (⟨#[110,111,116]⟩:ByteArray)) (ay c d fun a=>ak 252 #[aP (a == b)] c fun a b c=>Q (aA a b) c) (ax (aN H.size 2) fun e=>mS (fun d=>ay c e fun f=>ah (f != a) (ay c e fun a=>ah (a != b) (Q (aA 0 170) c) (d [] c)) (d [] c)) fun b=>ah (!(bO t (⟨#[111,114,58]⟩:ByteArray))) (ay b d fun c=>ah (c == a) (ay b e fun c=>ak 252 #[aP (c == a)] b fun a b c=>Q (aA a b) c) (ak 252 #[aP false] b fun a b c=>Q (aA a b) c)) (ay b d fun c=>ah (c == a) (ak 252 #[aP true] b fun a b c=>Q (aA a b) c) (ay b e fun c=>ak 252 #[aP (c == a)] b fun a b c=>Q (aA a b) c)))):ag PP 132 #[.agg #[.pointer a,ac i,ac j,ac k],.string t] Q H :=
 okL Tryz.func132 rfl (fun | 1007=>some [] | _=>none) h
theorem KU (h:ax (aN H.size 1) fun b=>ax (aJ H #[am a,ac i,ac j,ac k] 191) fun a=>ay a b fun c=>aC 256 #[ac c] a fun a c=>ax (aN H.size 2) fun d=>ah (bO t (⟨#[61]⟩:ByteArray)) (ay c b fun a=>ay c d fun b=>ak 252 #[aP (a == b)] c fun a b c=>Q (aA a b) c) (ah (bO t (⟨#[126,61]⟩:ByteArray)) (ay c b fun a=>ay c d fun b=>ak 252 #[aP (a != b)] c fun a b c=>Q (aA a b) c) (ax (ac a) fun e=>ah (bO t (⟨#[110,101,103,97,116,101,100]⟩:ByteArray)) (ak 258 #[ac 0,e] c fun a b c=>ak 257 #[ac a,ac b] c fun a b c=>Q (aA a b) c) (ah (bO t (⟨#[97,98,115]⟩:ByteArray)) (ah (aX a 0) (ak 258 #[ac 0,e] c fun a b c=>ak 257 #[ac a,ac b] c fun a b c=>Q (aA a b) c) (ay c b fun a=>Q (aA a 0) c)) (ah (bO t (⟨#[101,118,101,110]⟩:ByteArray)) (ak 252 #[aP (Int.tmod a 2 == 0)] c fun a b c=>Q (aA a b) c) (ah (bO t (⟨#[111,100,100]⟩:ByteArray)) (ak 252 #[aP (Int.tmod a 2 != 0)] c fun a b c=>Q (aA a b) c) (ah (bO t (⟨#[112,114,105,110,116,83,116,114,105,110,103]⟩:ByteArray)) (eb 259 #[e] c fun a _ b=>aF b (aL H.size) fun c=>ak 260 #[am c,aO a] b fun a b c=>Q (aA a b) c) (ay c d fun f=>bk 251 #[ac f] c fun c f=>ah (!c) (Q (aA 0 170) f) (ay f d fun c=>aC 256 #[ac c] f fun c f=>ah (bO t (⟨#[60]⟩:ByteArray)) (ak 252 #[aP (aX a c)] f fun a b c=>Q (aA a b) c) (ah (bO t (⟨#[62]⟩:ByteArray)) (ak 252 #[aP (bP a c)] f fun a b c=>Q (aA a b) c) (ah (bO t (⟨#[60,61]⟩:ByteArray)) (ak 252 #[aP (decide (a<=c))] f fun a b c=>Q (aA a b) c) (ah (bO t (⟨#[62,61]⟩:ByteArray)) (ak 252 #[aP (decide (a≥c))] f fun a b c=>Q (aA a b) c) (ah (bO t (⟨#[109,105,110,58]⟩:ByteArray)) (ah (aX c a) (ay f d fun a=>Q (aA a 0) f) (ay f b fun a=>Q (aA a 0) f)) (ah (bO t (⟨#[109,97,120,58]⟩:ByteArray)) (ah (bP c a) (ay f d fun a=>Q (aA a 0) f) (ay f b fun a=>Q (aA a 0) f)) (ak 261 #[aO t,e,ac c] f fun a b c=>Q (aA a b) c))))))))))))))):ag PP 133 #[.agg #[.pointer a,ac i,ac j,ac k],.string t] Q H :=
 okF Tryz.func133 rfl h
theorem EK (h:ax (aJ H #[am a,ac i,ac j,ac k] 191) fun a=>ax (aL H.size) fun b=>aF a b fun c=>ay a (aN H.size 1) fun d=>eI 262 #[am c,ac d] a fun a c=>ah (bO t (⟨#[115,105,122,101]⟩:ByteArray)) (aC 22 #[ac (a.size:Int)] c fun a b=>Q (aA a 0) b) (ah (bO t (⟨#[97,115,83,116,114,105,110,103]⟩:ByteArray)) (aF c b fun b=>ak 260 #[am b,aO a] c fun a b c=>Q (aA a b) c) (ay c (aN H.size 2) fun d=>bk 263 #[ac d] c fun c d=>ah (!c) (Q (aA 0 170) d) (aF d b fun b=>ay d (aN H.size 2) fun c=>eI 262 #[am b,ac c] d fun b c=>ak 252 #[aP (Op.bytesLess (ByteArray.toList a) (ByteArray.toList b))] c fun a b c=>Q (aA a b) c)))):ag PP 134 #[.agg #[.pointer a,ac i,ac j,ac k],.string t] Q H :=
 okF Tryz.func134 rfl h
theorem HO (h:ax (aL H.size) fun b=>ax (aJ H #[am a,ac i,ac j,ac k] 191) fun a=>aF a b fun c=>ax (aN H.size 1) fun d=>ay a d fun e=>eI 262 #[am c,ac e] a fun a c=>aF c b fun e=>ax (aN H.size 2) fun f=>ay c f fun g=>aC 128 #[am e,ac g] c fun c e=>ax (a.size:Int) fun g=>ax (ac g) fun i=>ah (bO t (⟨#[115,105,122,101]⟩:ByteArray)) (aC 22 #[i] e fun a b=>Q (aA a 0) b) (ah (bO t (⟨#[105,115,69,109,112,116,121]⟩:ByteArray)) (ak 252 #[aP (g == 0)] e fun a b c=>Q (aA a b) c) (ax (aN H.size 3) fun j=>ah (bO t (⟨#[97,116,58]⟩:ByteArray)) (aF e b fun b=>ay e d fun c=>ay e f fun d=>ay e j fun f=>ak 264 #[aZ #[am b,ac c,ac d,ac f],i] e fun b c d=>ah (c != 0) (Q (aA 0 c) d) (jb b a fun a=>aC 22 #[ac (aI (a.toNat:Int))] d fun a b=>Q (aA a 0) b)) (ax (aA 0 170) fun k=>ah (bO t (⟨#[97,116,58,112,117,116,58]⟩:ByteArray)) (ay e f fun a=>bk 251 #[ac a] e fun a c=>ah (!a) (Q k c) (ay c j fun a=>bk 251 #[ac a] c fun a c=>ah (!a) (Q k c) (ay c j fun a=>aC 256 #[ac a] c fun a c=>ah (aX a 0) (Q k c) (ay c j fun a=>aC 256 #[ac a] c fun a c=>ah (bP a 255) (Q k c) (aF c b fun a=>ay c d fun e=>ay c f fun f=>ay c j fun g=>ak 264 #[aZ #[am a,ac e,ac f,ac g],i] c fun a c e=>ah (c != 0) (Q (aA 0 c) e) (aF e b fun c=>aE c fun f=>aF e f fun g=>aE g fun i=>aF e i fun k=>ay e d fun d=>ay e j fun l=>aC 108 #[ac d] e fun d e=>((aq e j=some (ac l)∧True)∧(aq e i=some (am k)∧True)∧(aq e f=some (am g)∧True)∧(aq e b=some (am c)∧True)∧True)∧aC 256 #[ac l] e fun e l=>((aq l i=some (am k)∧True)∧(aq l f=some (am g)∧True)∧(aq l b=some (am c)∧True)∧True)∧aC 98 #[am k,ac d,ac a,ac e] l fun _ a=>True∧ay a j fun b=>Q (aA b 0) a)))))) (ah (bO t (⟨#[61]⟩:ByteArray)) (ah (c == 10) (aF e b fun b=>ay e f fun c=>eI 262 #[am b,ac c] e fun b c=>ak 252 #[aP (bO b a)] c fun a b c=>Q (aA a b) c) (ak 252 #[aP false] e fun a b c=>Q (aA a b) c)) (ah (bO t (⟨#[97,115,83,121,109,98,111,108]⟩:ByteArray)) (ah (aX g 1) (Q k e) (ah (bP g 96) (Q k e) (aF e b fun b=>aE b fun b=>aF e (b.add 1) fun b=>ak 95 #[am b,aO a] e fun a b c=>ah (b != 0) (Q (aA 0 b) c) (Q (aA (aI (aI (4*a)+2)) 0) c)))) (ah (!(c == 10)) (Q k e) (aF e b fun c=>ay e f fun d=>eI 262 #[am c,ac d] e fun c d=>ah (bO t (⟨#[60]⟩:ByteArray)) (ak 252 #[aP (Op.bytesLess (ByteArray.toList a) (ByteArray.toList c))] d fun a b c=>Q (aA a b) c) (ah (bP (aI (g+(c.size:Int))) 8192) (Q k d) (aF d b fun b=>ah (bP ((a.size+c.size:Nat):Int) IntKind.i64.max) False (ak 260 #[am b,aO (a++c)] d fun a b c=>Q (aA a b) c))))))))))):ag PP 135 #[.agg #[.pointer a,ac i,ac j,ac k],.string t] Q H :=
 okF Tryz.func135 rfl h
theorem Ig (h:ax (aJ H #[am a,ac i,ac j,ac k] 191) fun a=>ax (aL H.size) fun b=>aF a b fun c=>ax (aN H.size 1) fun d=>ay a d fun e=>aC 250 #[am c,ac e] a fun a c=>ah (bO t (⟨#[115,105,122,101]⟩:ByteArray)) (aC 22 #[ac a] c fun a b=>Q (aA a 0) b) (ah (bO t (⟨#[105,115,69,109,112,116,121]⟩:ByteArray)) (ak 252 #[aP (a == 0)] c fun a b c=>Q (aA a b) c) (ah (bO t (⟨#[97,116,58]⟩:ByteArray)) (aF c b fun b=>ay c d fun d=>ay c (aN H.size 2) fun e=>ay c (aN H.size 3) fun f=>ak 254 #[aZ #[am b,ac d,ac e,ac f],ac a,aP false] c fun a b c=>Q (aA a b) c) (aF c b fun b=>ay c d fun d=>ay c (aN H.size 2) fun e=>ay c (aN H.size 3) fun f=>ak 254 #[aZ #[am b,ac d,ac e,ac f],ac a,aP true] c fun a b c=>Q (aA a b) c)))):ag PP 136 #[.agg #[.pointer a,ac i,ac j,ac k],.string t] Q H :=
 okF Tryz.func136 rfl h
theorem C9 (h:ax (aN H.size 1) fun b=>ax (aJ H #[am a,ac i,ac j,ac k] 191) fun a=>ay a b fun c=>aC 108 #[ac c] a fun a c=>ax (aL H.size) fun d=>ah (bO t (⟨#[110,97,109,101]⟩:ByteArray)) (aF c d fun a=>ay c b fun b=>aC 138 #[am a,ac b,ac 0] c fun a b=>Q (aA a 0) b) (ah (bO t (⟨#[115,117,112,101,114,99,108,97,115,115]⟩:ByteArray)) (aF c d fun a=>ay c b fun b=>aC 138 #[am a,ac b,ac 1] c fun a b=>Q (aA a 0) b) (ax (aA 0 170) fun e=>ah (bO t (⟨#[110,101,119]⟩:ByteArray)) (aF c d fun f=>ak 265 #[am f,ac a] c fun c f g=>mS (fun b=>ah (f != 0) (Q e g) (ah (decide (c<=14)) (ah (a != 4) (Q e g) (b [] g)) (b [] g))) fun c=>aF c d fun e=>dM 235 #[am e,ac a] c fun _ a _ _ c=>aF c d fun d=>aE d fun d=>aF c d fun d=>ay c b fun b=>ak 266 #[am d,ac b,ac (a:Int),ac 0] c fun a b c=>True∧Q (aA a b) c) (ax (aN H.size 2) fun f=>mS (fun b=>ah (a != 10) (ah (a != 11) (Q e c) (ay c f fun a=>bk 251 #[ac a] c fun a c=>ah (!a) (Q e c) (ay c f fun a=>aC 256 #[ac a] c fun a c=>ah (aX a 0) (Q e c) (ay c f fun a=>aC 256 #[ac a] c fun a c=>ah (bP a 8192) (Q e c) (b [] c))))) (ay c f fun a=>bk 251 #[ac a] c fun a c=>ah (!a) (Q e c) (ay c f fun a=>aC 256 #[ac a] c fun a c=>ah (aX a 0) (Q e c) (ay c f fun a=>aC 256 #[ac a] c fun a c=>ah (bP a 8192) (Q e c) (b [] c))))) fun c=>ah (a == 10) (aF c d fun a=>aE a fun e=>aF c e fun g=>ay c b fun i=>ay c f fun f=>aC 256 #[ac f] c fun c f=>((aq f b=some (ac i)∧True)∧(aq f e=some (am g)∧True)∧(aq f d=some (am a)∧True)∧True)∧ak 266 #[am g,ac i,ac c,ac 1] f fun a b c=>True∧Q (aA a b) c) (ay c f fun a=>aC 256 #[ac a] c fun a c=>ah (a == 0) (aC 40 #[ac 18] c fun a b=>Q (aA a 0) b) (aF c d fun a=>aE a fun e=>aF c e fun g=>ay c b fun i=>ay c f fun f=>aC 256 #[ac f] c fun c f=>((aq f b=some (ac i)∧True)∧(aq f e=some (am g)∧True)∧(aq f d=some (am a)∧True)∧True)∧ak 266 #[am g,ac i,ac c,ac 0] f fun a b c=>True∧Q (aA a b) c)))))):ag PP 137 #[.agg #[.pointer a,ac i,ac j,ac k],.string t] Q H :=
 okL Tryz.func137 rfl (fun | 1011=>some [] | 1015=>some [] | _=>none) h
theorem Ff (h:aE a fun a=>aF H a fun b=>aE b fun c=>aF H c fun d=>aC 108 #[ac i] H fun e f=>((aq f c=some (am d)∧True)∧(aq f a=some (am b)∧True)∧True)∧ak 56 #[am d,ac e,ac j] f fun a _ b=>True∧Q (ac a) b):ag PP 138 #[.pointer a,ac i,ac j] Q H :=
 okF Tryz.func138 rfl h
theorem FG (h:ax (aO (⟨#[61]⟩:ByteArray)) fun a=>ah (i == 4) (Q (av (some (aL H.size)) 12 12) (aJ H #[a,aO (⟨#[61,61]⟩:ByteArray),aO (⟨#[99,108,97,115,115]⟩:ByteArray),aO (⟨#[99,111,112,121]⟩:ByteArray),aO (⟨#[105,110,115,116,86,97,114,65,116,58]⟩:ByteArray),aO (⟨#[105,110,115,116,86,97,114,65,116,58,112,117,116,58]⟩:ByteArray),aO (⟨#[105,110,115,116,86,97,114,83,105,122,101]⟩:ByteArray),aO (⟨#[105,115,75,105,110,100,79,102,58]⟩:ByteArray),aO (⟨#[105,115,78,105,108]⟩:ByteArray),aO (⟨#[110,111,116,78,105,108]⟩:ByteArray),aO (⟨#[121,111,117,114,115,101,108,102]⟩:ByteArray),aO (⟨#[126,126]⟩:ByteArray)] 9)) (rL (fun a=>ah (i == 7) (a [aP true] H) (a [aP (i == 6)] H)) fun b c=>ax (some (aL c.size)) fun d=>ax (av d 4 4) fun e=>ah b (Q e (aJ c #[aO (⟨#[38]⟩:ByteArray),aO (⟨#[97,110,100,58]⟩:ByteArray),aO (⟨#[110,111,116]⟩:ByteArray),aO (⟨#[111,114,58]⟩:ByteArray)] 9)) (ax (aO (⟨#[60]⟩:ByteArray)) fun b=>ah (i == 8) (Q (av d 22 22) (aJ c #[aO (⟨#[42]⟩:ByteArray),aO (⟨#[43]⟩:ByteArray),aO (⟨#[45]⟩:ByteArray),aO (⟨#[47,47]⟩:ByteArray),b,aO (⟨#[60,61]⟩:ByteArray),a,aO (⟨#[62]⟩:ByteArray),aO (⟨#[62,61]⟩:ByteArray),aO (⟨#[92,92]⟩:ByteArray),aO (⟨#[97,98,115]⟩:ByteArray),aO (⟨#[98,105,116,65,110,100,58]⟩:ByteArray),aO (⟨#[98,105,116,79,114,58]⟩:ByteArray),aO (⟨#[98,105,116,83,104,105,102,116,58]⟩:ByteArray),aO (⟨#[98,105,116,88,111,114,58]⟩:ByteArray),aO (⟨#[101,118,101,110]⟩:ByteArray),aO (⟨#[109,97,120,58]⟩:ByteArray),aO (⟨#[109,105,110,58]⟩:ByteArray),aO (⟨#[110,101,103,97,116,101,100]⟩:ByteArray),aO (⟨#[111,100,100]⟩:ByteArray),aO (⟨#[112,114,105,110,116,83,116,114,105,110,103]⟩:ByteArray),aO (⟨#[126,61]⟩:ByteArray)] 9)) (ax (aO (⟨#[115,105,122,101]⟩:ByteArray)) fun f=>ah (i == 9) (Q (av d 3 3) (aJ c #[b,aO (⟨#[97,115,83,116,114,105,110,103]⟩:ByteArray),f] 9)) (ax (aO (⟨#[105,115,69,109,112,116,121]⟩:ByteArray)) fun g=>ax (aO (⟨#[97,116,58,112,117,116,58]⟩:ByteArray)) fun j=>ax (aO (⟨#[97,116,58]⟩:ByteArray)) fun k=>ah (i == 10) (Q (av d 8 8) (aJ c #[aO (⟨#[44]⟩:ByteArray),b,a,aO (⟨#[97,115,83,121,109,98,111,108]⟩:ByteArray),k,j,g,f] 9)) (ah (i == 11) (Q e (aJ c #[k,j,g,f] 9)) (ah (i == 12) (Q e (aJ c #[aO (⟨#[110,97,109,101]⟩:ByteArray),aO (⟨#[110,101,119]⟩:ByteArray),aO (⟨#[110,101,119,58]⟩:ByteArray),aO (⟨#[115,117,112,101,114,99,108,97,115,115]⟩:ByteArray)] 9)) (ah (i == 14) (Q (av d 1 1) (aJ c #[aO (⟨#[110,117,109,65,114,103,115]⟩:ByteArray)] 9)) (ah (i == 17) (Q (av d 2 2) (aJ c #[aO (⟨#[97,114,103,117,109,101,110,116,115]⟩:ByteArray),aO (⟨#[115,101,108,101,99,116,111,114]⟩:ByteArray)] 9)) (Q (av none 0 0) c)))))))))):ag PP 248 #[ac i] Q H :=
 okL Tryz.func248 rfl (fun | 1006=>some [(7,4)] | _=>none) h
theorem IX (h:aE a fun a=>aF H a fun b=>aE b fun c=>aF H c fun d=>aC 108 #[ac i] H fun e f=>((aq f c=some (am d)∧True)∧(aq f a=some (am b)∧True)∧True)∧bW 53 #[am d,ac e] f fun a _ _ b=>True∧Q (ac a) b):ag PP 250 #[.pointer a,ac i] Q H :=
 okF Tryz.func250 rfl h
theorem DV (h:aC 225 #[ac i] H fun a b=>Q (aP (a == 1)) b):ag PP 251 #[ac i] Q H :=
 okF Tryz.func251 rfl h
theorem Gx (h:ah e (aC 40 #[ac 3] H fun a b=>Q (aA a 0) b) (aC 40 #[ac 2] H fun a b=>Q (aA a 0) b)):ag PP 252 #[.bool e] Q H :=
 okF Tryz.func252 rfl h
theorem GL (h:ax (aJ H #[am a,ac i,ac j,ac k] 191) fun a=>aF a (aL H.size) fun b=>ay a (aN H.size 1) fun c=>bk 319 #[am b,ac c] a fun a b=>ah a (aF b (aL H.size) fun a=>ay b (aN H.size 1) fun c=>aC 250 #[am a,ac c] b fun a b=>Q (ac a) b) (Q (ac 0) b)):ag PP 253 #[.agg #[.pointer a,ac i,ac j,ac k]] Q H :=
 okF Tryz.func253 rfl h
theorem KF (h:ax (aJ H #[am a,ac i,ac j,ac k] 191) fun a=>ax (aL H.size) fun b=>aF a b fun c=>ax (aN H.size 1) fun d=>ay a d fun f=>ay a (aN H.size 2) fun g=>ax (aN H.size 3) fun i=>ay a i fun j=>ak 264 #[aZ #[am c,ac f,ac g,ac j],ac m] a fun a c f=>ah (c != 0) (Q (aA 0 c) f) (ah e (aF f b fun c=>aE c fun e=>aF f e fun g=>aE g fun j=>aF f j fun k=>ay f d fun d=>ay f i fun l=>aC 108 #[ac d] f fun d f=>((aq f i=some (ac l)∧True)∧(aq f j=some (am k)∧True)∧(aq f e=some (am g)∧True)∧(aq f b=some (am c)∧True)∧True)∧aC 98 #[am k,ac d,ac a,ac l] f fun _ a=>True∧ay a i fun b=>Q (aA b 0) a) (aF f b fun b=>ay f d fun c=>aC 138 #[am b,ac c,ac a] f fun a b=>Q (aA a 0) b))):ag PP 254 #[.agg #[.pointer a,ac i,ac j,ac k],ac m,.bool e] Q H :=
 okF Tryz.func254 rfl h
theorem ED (h:ax (aL H.size) fun b=>ax (aJ H #[am a,ac i,ac j,ac k] 191) fun a=>aF a b fun c=>ax (aN H.size 1) fun d=>ay a d fun e=>aC 128 #[am c,ac e] a fun a c=>mS (fun e=>ah (a != 10) (ah (a == 11) (aF c b fun a=>ay c d fun f=>aC 250 #[am a,ac f] c fun a c=>ah (!(bP a 0)) (aF c b fun a=>ay c d fun b=>bk 319 #[am a,ac b] c fun a b=>ah (!a) (ay b d fun a=>Q (aA a 0) b) (e [] b)) (e [] c)) (aF c b fun a=>ay c d fun b=>bk 319 #[am a,ac b] c fun a b=>ah (!a) (ay b d fun a=>Q (aA a 0) b) (e [] b))) (e [] c)) fun c=>aF c b fun e=>aE e fun f=>aF c f fun g=>aE g fun i=>aF c i fun j=>ay c d fun k=>aC 108 #[ac k] c fun c k=>((aq k i=some (am j)∧True)∧(aq k f=some (am g)∧True)∧(aq k b=some (am e)∧True)∧True)∧bW 53 #[am j,ac c] k fun _ c _ e=>True∧cL [av none 0 0,ac 0] e fun e f g i j k l m=>aF i b fun n=>ay i d fun o=>aC 250 #[am n,ac o] i fun n o=>ah (aX m n) (aF o b fun a=>ay o d fun b=>aC 138 #[am a,ac b,ac m] o fun a b=>bM (Builtin.append_ #[30,30] 30 #[av j k l,av (some (aL b.size)) 1 1]) (aJ b #[ac a] 26) fun a b c d=>bm e f [av a b c,ac (aI (m+1))] d g i) (aF o b fun b=>ak 320 #[am b,ac a,ac c,av j k l] o fun a b c=>Q (aA a b) c)):ag PP 255 #[.agg #[.pointer a,ac i,ac j,ac k]] Q H :=
 okL Tryz.func255 rfl (fun | 1004=>some [] | 7=>some [(8,30),(9,3)] | _=>none) h
theorem HE (h:ak 321 #[ac i] H fun a _ b=>Q (ac a) b):ag PP 256 #[ac i] Q H :=
 okF Tryz.func256 rfl h
theorem HT (h:ah (j != 0) (Q (aA 0 j) H) (aC 22 #[ac i] H fun a b=>Q (aA a 0) b)):ag PP 257 #[ac i,ac j] Q H :=
 okF Tryz.func257 rfl h
theorem Lo (h:cL [av none 0 0,ac 0] H fun b c d e f g i j=>ah (aX j (t.size:Int)) (jb j t fun a=>bM (Builtin.append_ #[30,30] 30 #[av f g i,av (some (aL e.size)) 1 1]) (aJ e #[ac (aI (a.toNat:Int))] 26) fun a f g i=>bm b c [av a f g,ac (aI (j+1))] i d e) (ak 320 #[am a,ac 10,ac 1,av f g i] e fun a b c=>Q (aA a b) c)):ag PP 260 #[.pointer a,.string t] Q H :=
 okL Tryz.func260 rfl (fun | 3=>some [(6,30),(7,3)] | _=>none) h
theorem iU (h:ax (ac i) fun a=>ax (ac j) fun b=>ah (bO t (⟨#[43]⟩:ByteArray)) (ak 325 #[a,b] H fun a b c=>ak 257 #[ac a,ac b] c fun a b c=>Q (aA a b) c) (ah (bO t (⟨#[45]⟩:ByteArray)) (ak 258 #[a,b] H fun a b c=>ak 257 #[ac a,ac b] c fun a b c=>Q (aA a b) c) (ah (bO t (⟨#[42]⟩:ByteArray)) (ak 326 #[a,b] H fun a b c=>ak 257 #[ac a,ac b] c fun a b c=>Q (aA a b) c) (ah (bO t (⟨#[47,47]⟩:ByteArray)) (ak 327 #[a,b] H fun a b c=>ak 257 #[ac a,ac b] c fun a b c=>Q (aA a b) c) (ah (bO t (⟨#[92,92]⟩:ByteArray)) (ak 328 #[a,b] H fun a b c=>ak 257 #[ac a,ac b] c fun a b c=>Q (aA a b) c) (ah (bO t (⟨#[98,105,116,65,110,100,58]⟩:ByteArray)) (ak 329 #[a,b] H fun a b c=>ak 257 #[ac a,ac b] c fun a b c=>Q (aA a b) c) (ah (bO t (⟨#[98,105,116,79,114,58]⟩:ByteArray)) (ak 330 #[a,b] H fun a b c=>ak 257 #[ac a,ac b] c fun a b c=>Q (aA a b) c) (ah (bO t (⟨#[98,105,116,88,111,114,58]⟩:ByteArray)) (ak 331 #[a,b] H fun a b c=>ak 257 #[ac a,ac b] c fun a b c=>Q (aA a b) c) (ak 332 #[a,b] H fun a b c=>ak 257 #[ac a,ac b] c fun a b c=>Q (aA a b) c))))))))):ag PP 261 #[.string t,ac i,ac j] Q H :=
 okF Tryz.func261 rfl h
theorem ze (h:ax (ac i) fun b=>bk 263 #[b] H fun c d=>ah c (ak 333 #[b] d fun b _ c=>aE a fun a=>aF c (a.add 1) fun a=>eb 334 #[am a,ac b] c fun a _ b=>Q (aO a) b) (cL [av none 0 0,ac 0] d fun c d e f g i j k=>aC 250 #[am a,b] f fun l m=>ah (aX k l) (aC 138 #[am a,b,ac k] m fun a b=>bM (Builtin.append_ #[249,249] 249 #[av g i j,av (some (aL b.size)) 1 1]) (aJ b #[.int .u8 (IntKind.wrap .u8 a)] 5) fun a b g i=>bm c d [av a b g,ac (aI (k+1))] i e f) (A9 (convert 249 9 (av g i j)) m fun a b=>Q (aO a) b))):ag PP 262 #[.pointer a,ac i] Q H :=
 okL Tryz.func262 rfl (fun | 7=>some [(9,249),(10,3)] | _=>none) h
theorem IQ (h:aC 225 #[ac i] H fun a b=>Q (aP (a == 2)) b):ag PP 263 #[ac i] Q H :=
 okF Tryz.func263 rfl h
theorem DM (h:ax (aJ H #[am a,ac i,ac j,ac k] 191) fun a=>ay a (aN H.size 2) fun b=>bk 251 #[ac b] a fun a b=>ah (!a) (Q (aA 0 170) b) (ay b (aN H.size 2) fun a=>aC 256 #[ac a] b fun a b=>ah (aX a 1) (Q (aA 0 171) b) (ah (bP a m) (Q (aA 0 171) b) (Q (aA (aI (a-1)) 0) b)))):ag PP 264 #[.agg #[.pointer a,ac i,ac j,ac k],ac m] Q H :=
 okF Tryz.func264 rfl h
theorem Ge (h:aC 128 #[am a,ac i] H fun b c=>ah (b == 4) (Q (aP true) c) (ak 265 #[am a,ac b] c fun a b c=>ah (b == 0) (Q (aP (bP a 14)) c) (Q (aP false) c))):ag PP 319 #[.pointer a,ac i] Q H :=
 okF Tryz.func319 rfl h
theorem Gy (h:aE a fun c=>aF H c fun d=>aC 40 #[ac i] H fun e f=>((aq f c=some (am d)∧True)∧True)∧ak 266 #[am d,ac e,ac (l:Int),ac j] f fun c d e=>True∧ah (d != 0) (Q (aA 0 d) e) (bX [ac 0] e fun d e f g i=>ah (aX i (l:Int)) (aE a fun a=>aF g a fun j=>aE j fun k=>aF g k fun m=>bf i l b fun b=>ay g (bc b i 1) fun l=>aC 108 #[ac c] g fun c n=>((aq n (bc b i 1)=some (ac l)∧True)∧(aq n k=some (am m)∧True)∧(aq n a=some (am j)∧True)∧True)∧aC 98 #[am m,ac c,ac i,ac l] n fun _ a=>True∧bm d e [ac (aI (i+1))] a f g) (Q (aA c 0) g))):ag PP 320 #[.pointer a,ac i,ac j,.slice b l o] Q H :=
 okL Tryz.func320 rfl (fun | 5=>some [(12,3)] | _=>none) h
end
end Go.Proofs.YtgjfejoohojokaaGreatDoor
namespace Kw
section
open Go Go.Proofs Go.Shelf Go.RowKit Go.Sort
variable {P:Program}
theorem yh {ρ:Ren} (L:LaysM.n171 P ρ) (hfn:∃ fn,P.funcs[ρ.f 171]?=some fn∧fn.body.isSome=true){n:Int} (h0:-9223372036854775808<=n) (h1:n<=9223372036854775807){H:au}{Q:Value->au->Prop}
  (ht : ∀ w : World, w.heap = H -> Lib.TabIs P w "internal/strconv.uint64pow10" .u64 Lib.pow10Tab) (h : ∀ H', Fr [] H H' -> Q (.string ⟨(Lib.itoa n).toArray⟩) H') : ag P (ρ.f 171) #[.int .i64 n] Q H := by
 refine pj hfn (fun w hw=>(Any.strconv_Itoa L n h0 h1 w (ht w hw)).mono ?_) h;rintro e w' ⟨rfl,k,os,rfl⟩;refine ⟨rfl,⟨rfl,rfl,rfl,?_,fun b hb=>?_⟩⟩
 ·show w.heap.size<=(w.heap++os).size;rw [a3y];exact a3V _ _
 ·show (w.heap++os)[b]?=w.heap[b]?;rw [a2Y hb]
theorem xZ:∀ (k u:Nat),u<10 ^ (k+1)->(Lib.decDigits u).length<=k+1
 | 0,u,h=>by rw [Lib.decDigits,dif_pos (by simpa using h)];simp
 | k+1,u,h=>by
  rw [Lib.decDigits];split
  ·simp
  ·have:=xZ k (u / 10) (by rw [a3H] at h;omega);rw [a1h];simp only [a1b,a1s];omega
theorem uY {n:Int} (h0:-1073741824<=n) (h1:n<=1073741823):(Lib.itoa n).length<=11:=by
 unfold Lib.itoa;split
 ·have:=xZ 9 n.natAbs (by omega);simp only [a1b];omega
 ·have:=xZ 9 n.toNat (by omega);omega
end
end Kw
namespace Go.Proofs.YtgjfejoohojokaaGreatDoor
open Kw
abbrev gP:Nat:=gY
def iC (H:au):Prop:=∃ e:TypeId × (Nat × Nat),H[gP]?=some (.cells (Lib.pow10Tab.map fun z=>Value.int .u64 z).toArray e.1 e.2)
theorem iC.lt {H:au} (h:iC H):gP<H.size:=by
 obtain ⟨e,h⟩:=h;exact (a1j.1 h).1
theorem iC.fr {H H':au}{G:aS} (h:iC H) (hf:Fr G H H') (hg:gP∉G):iC H':=by
 have hl:=h.lt;obtain ⟨e,h⟩:=h;exact ⟨e,(hf.2 _ hl hg).trans h⟩
def DK (H:au) (db:Nat) (D:aS) (s:SP) (t:TB) (ws:List Int):Prop:=∃ b F a l c G,D=db :: (G++F)∧bI H db #[QW b,.slice a l c]∧bZ 1 H a l c (az ws) G∧PK H b F s t∧db∉F∧db∉G∧bU G F∧bl∉D∧gP∉D∧iC H
theorem DK.lt {H:au}{db:Nat}{D:aS}{s:SP}{t:TB}{ws:List Int} (h:DK H db D s t ws):∀ x∈D,x<H.size:=by
 obtain ⟨b,F,a,l,c,G,rfl,hB,hO,hK,_⟩:=h;intro x hx;rcases a0E.1 hx with rfl | hx
 ·exact hB.lt
 ·rcases a0T.1 hx with hx | hx
  ·exact hO.lt x hx
  ·exact hK.lt x hx
theorem DK.nil {H H':au}{db:Nat}{D:aS}{s:SP}{t:TB}{ws:List Int} (h:DK H db D s t ws) (hf:Fr [] H H'):DK H' db D s t ws:=by
 obtain ⟨b,F,a,l,c,G,rfl,hB,hO,hK,h1,h2,h3,h4,h5,h6⟩:=h;exact ⟨b,F,a,l,c,G,rfl,hB.fr hf (by simp),hO.fr hf (by simp),hK.nil hf,h1,h2,h3,h4,h5,h6.fr hf (by simp)⟩
section
variable {H:au}{db:Nat}{D:aS}{s:SP}{t:TB}{v:KV}{ws:List Int}{Q:QT}{r x:Int}
theorem jC {n:Int} (h:Q (ac n) H):ag PP 24 #[ac n] Q H:=by
 apply N5;exact h
end
abbrev kx (n:Int):Prop:=-1073741824<=n∧n<=1073741823
def dA (n:Int):Int:=iL .i64 (fu .i64 n 33) 33
theorem Ci (n:Int):-9223372036854775808<=IntKind.wrap .i64 n∧IntKind.wrap .i64 n<=9223372036854775807:=by
 simp only [IntKind.wrap,IntKind.bits,IntKind.signed];simp;omega
theorem iI (n:Int):kx (dA n):=by
 unfold dA;have e:=lW (fu .i64 n 33) 33 (by decide);have hb:-9223372036854775808<=fu .i64 n 33∧fu .i64 n 33<=9223372036854775807:=by unfold fu;exact Ci _
 have e2:iL .i64 (fu .i64 n 33) 33=fu .i64 n 33 / 8589934592:=e;rw [e2];constructor <;> omega
def td (g:Nat) (f:Int->Int->Int × Int):Prop:=∀ (n m:Int),kx n->kx m->∀ {Q:QT}{H:au},Q (.tuple #[ac (f n m).1,ac (f n m).2]) H->ag PP g #[ac n,ac m] Q H
def Lp (f:Int->Int->Int × Int):Prop:=∀ (n m:Int),kx n->kx m->(f n m).2=0->kx (f n m).1
section
variable {H:au}{Q:QT}
theorem vq {n:Int} (hn:kx n) (h:Q (.bool true) H):ag PP 31 #[ac n] Q H:=by
 apply Bx;dsimp only [aP,ah];rw [ae,a0b hn.1,a00 hn.2];exact h
theorem pL {n:Int} (h:Q (ac (dA n)) H):ag PP 352 #[ac n] Q H:=by
 apply Dp;exact h
theorem lh {n m x:Int} (hn:kx n) (hm:kx m) (h:Q (.tuple #[ac (dA x),ac 0]) H):ag PP 297 #[ac n,ac m,ac x] Q H:=by
 apply DO;dsimp only [aA,bk,aC,ah,ac];refine vq hn ⟨_,rfl,?_⟩;rw [a0p,a0f];refine vq hm ⟨_,rfl,?_⟩;rw [a0p,a0f];exact pL ⟨_,rfl,h⟩
end
def iF (n m:Int):Int × Int:=(dA (IntKind.wrap .i64 (n+m)),0)
def fD (n m:Int):Int × Int:=(dA (IntKind.wrap .i64 (n-m)),0)
def iG (n m:Int):Int × Int:=(dA (IntKind.wrap .i64 (n*m)),0)
def iJ (n m:Int):Int × Int:=(dA (nS .i64 n m),0)
def pu (n m:Int):Int × Int:=(dA (wJ .i64 n m),0)
def iy (n m:Int):Int × Int:=(dA (Ln .i64 n m),0)
def dp (n m:Int):Int × Int:=if m<0 then (dA (iL .i64 n (IntKind.wrap .i64 (0-(if m < -31 then -31 else m)))),0) else (dA (fu .i64 n (if 31<m then 31 else m)),0)
def jv (n m:Int):Int × Int × Int:=if m=0 then (0,0,11) else
 if Int.tmod n m≠0∧((Int.tmod n m<0)≠(m<0)) then (dA (IntKind.wrap .i64 (IntKind.wrap .i64 (Int.tdiv n m)-1)),IntKind.wrap .i64 (Int.tmod n m+m),0)
 else (dA (IntKind.wrap .i64 (Int.tdiv n m)),Int.tmod n m,0)
def gO (n m:Int):Int × Int:=((jv n m).1,(jv n m).2.2)
def gt (n m:Int):Int × Int:=((jv n m).2.1,(jv n m).2.2)
theorem MZ:td 183 iF:=fun n m hn hm {Q H} h=>by
 apply FH;dsimp only [aA,ak,ac,aI];exact lh hn hm ⟨_,_,rfl,h⟩
theorem BZ:td 184 fD:=fun n m hn hm {Q H} h=>by
 apply FY;dsimp only [aA,ak,ac,aI];exact lh hn hm ⟨_,_,rfl,h⟩
theorem Np:td 185 iG:=fun n m hn hm {Q H} h=>by
 apply Kg;dsimp only [aA,ak,ac,aI];exact lh hn hm ⟨_,_,rfl,h⟩
theorem M6:td 188 iJ:=fun n m hn hm {Q H} h=>by
 apply Hd;dsimp only [aA,ak,ac];exact lh hn hm ⟨_,_,rfl,h⟩
theorem Ql:td 189 pu:=fun n m hn hm {Q H} h=>by
 apply KY;dsimp only [aA,ak,ac];exact lh hn hm ⟨_,_,rfl,h⟩
theorem LX:td 190 iy:=fun n m hn hm {Q H} h=>by
 apply EM;dsimp only [aA,ak,ac];exact lh hn hm ⟨_,_,rfl,h⟩
theorem C0:td 191 dp:=fun n m hn hm {Q H} h=>by
 apply EU;dsimp only [aA,ah,ak,aX,ac,ax,aI];unfold dp at h;rw [ae];refine aD (fun h1=>?_) fun h1=>?_
 ·rw [a0b h1] at h;rw [ae,a0a ?_]
  ·exact lh hn hm ⟨_,_,rfl,h⟩
  ·split
   ·decide
   ·rw [ao (by omega) (by omega)];omega
 ·rw [a0a h1] at h;rw [ae,a0a ?_]
  ·exact lh hn hm ⟨_,_,rfl,h⟩
  ·split <;> omega
theorem su {n m:Int} (hn:kx n) (hm:kx m){Q:QT}{H:au} (h:Q (.tuple #[ac (jv n m).1,ac (jv n m).2.1,ac (jv n m).2.2]) H):ag PP 298 #[ac n,ac m] Q H:=by
 apply Gi;dsimp only [bk,aC,ah,aX,ac,ax,bJ,aI];unfold jv at h;refine vq hn ⟨_,rfl,?_⟩;rw [a0p,a0f];refine vq hm ⟨_,rfl,?_⟩;rw [a0p,a0f];refine dh (fun h0=>?_) fun h0=>?_
 ·rw [a0b h0] at h;exact h
 rw [a0a h0] at h;rw [ae,a0a h0,ae,a0a h0,bn,ae];refine aD (fun h1=>?_) fun h1=>?_
 ·by_cases h2:(Int.tmod n m<0)≠(m<0)
  ·rw [a0b ⟨h1,h2⟩] at h
   have:(!(decide (Int.tmod n m<0) == decide (m<0)))=true:=by
    rw [a3x,beq_eq_false_iff_ne];intro e;exact h2 (by rw [←decide_eq_true_eq (p:=Int.tmod n m<0),←decide_eq_true_eq (p:=m<0),e])
   rw [this,a0P];exact pL ⟨_,rfl,h⟩
  ·rw [a0a (fun e=>h2 e.2)] at h;have h2:=a0v h2
   have:(!(decide (Int.tmod n m<0) == decide (m<0)))=false:=by
    simp [h2]
   rw [this,a0f];exact pL ⟨_,rfl,h⟩
 ·rw [a0a (fun e=>h1 e.1)] at h;exact pL ⟨_,rfl,h⟩
theorem L2:td 186 gO:=fun n m hn hm {Q H} h=>by
 apply Ec;dsimp only [aA,bW,ac];exact su hn hm ⟨_,_,_,rfl,h⟩
theorem Mz:td 187 gt:=fun n m hn hm {Q H} h=>by
 apply GM;dsimp only [aA,bW,ac];exact su hn hm ⟨_,_,_,rfl,h⟩
theorem Mi:Lp iF:=fun _ _ _ _ _=>iI _
theorem xz:Lp fD:=fun _ _ _ _ _=>iI _
theorem Nl:Lp iG:=fun _ _ _ _ _=>iI _
theorem M1:Lp iJ:=fun _ _ _ _ _=>iI _
theorem Qh:Lp pu:=fun _ _ _ _ _=>iI _
theorem Ns:Lp iy:=fun _ _ _ _ _=>iI _
theorem CY:Lp dp:=fun n m _ _ _=>by
 unfold dp;split <;> exact iI _
theorem Mb:Lp gO:=fun n m _ _ h=>by
 unfold gO jv at *;split
 ·constructor <;> decide
 ·split <;> exact iI _
theorem mW {n m:Int} (hm:m≠0):(0<m->-m<Int.tmod n m∧Int.tmod n m<m)∧(m<0->m<Int.tmod n m∧Int.tmod n m < -m):=by
 have h1:=Int.natAbs_tmod n m;have h2:n.natAbs % m.natAbs<m.natAbs:=a4r _ (by omega);omega
theorem BF:Lp gt:=fun n m hn hm h=>by
 unfold gt jv at *;by_cases h0:m=0
 ·rw [a0b h0];constructor <;> decide
 ·rw [a0a h0]
  have:=mW (n:=n) h0;split
  ·rename_i h1
   have:-1073741824<=Int.tmod n m+m∧Int.tmod n m+m<=1073741823:=by
    rcases a4j h0 with h3 | h3
    ·have h4:=this.2 h3;have h5:¬ (Int.tmod n m<0):=fun e=>h1.2 (by rw [eq_iff_iff];exact ⟨fun _=>h3,fun _=>e⟩);omega
    ·have h4:=this.1 h3;have h5:Int.tmod n m<0:=a0v fun e=>h1.2 (by rw [eq_iff_iff];exact ⟨fun e'=>absurd e' e,fun e'=>by omega⟩);omega
   show kx (IntKind.wrap .i64 (Int.tmod n m+m));rw [ao (by omega) (by omega)];exact this
  ·show kx (Int.tmod n m);rcases a4j h0 with h3 | h3
   ·have h4:=this.2 h3;exact ⟨by omega,by omega⟩
   ·have h4:=this.1 h3;exact ⟨by omega,by omega⟩
theorem BX {n:Int} (h:kx n):aU (2*n+1)=1:=by
 have:=bE (2*n+1);obtain ⟨h1,h2⟩:=h;omega
theorem ID {n:Int} (h:kx n):cG (2*n+1)=n:=by
 unfold cG;rw [a0b (BX h)];omega
theorem fM {k:Int} (h1:1<=k) (h2:k<=65536):aU (4*k)=3:=by
 have:=bE (4*k);omega
theorem ju {s:SP}{t:TB}{v:KV} (hv:KAllW s t v){k:Int}{xs:List Int} (h:mR s.h k xs):1<=k∧k<=65536:=by
 obtain ⟨o,ho,_⟩:=h;have hm:=aR ho
 have:=hv.ks.wf.h.objs.good o hm.1;have h1:=this.oop1;have h2:=this.oop2;have h3:=hv.ks.wf.h.o1;omega
theorem Bj {r:RH}{k:Int}{xs:List Int} (h:mR r k xs) (h1:1<=k) (h2:k<=65536):cK r (4*k)=10:=by
 obtain ⟨o,ho,hf,hc,_⟩:=h;have hk:=fM h1 h2;have e:(4*k) / 4=k:=by omega
 have eo:mQ r (4*k)=(10,0):=by
  unfold mQ;rw [a0a (by omega),a0a (by omega),a0b hk,e];unfold RH.clsAt;rw [ho];simp only [hc,if_true];rfl
 unfold cK;rw [eo];rfl
theorem km {r:RH}{k:Int}{xs:List Int} (h:mR r k xs) (h1:1<=k) (h2:k<=65536):dl r (4*k)=((xs.length:Int),1):=by
 obtain ⟨o,ho,hf,hc,rfl⟩:=h;unfold dl;rw [a0b (fM h1 h2)];have e:(4*k) / 4=k:=by omega
 unfold RH.size;rw [e,ho];simp only [hf]
theorem qv {r:RH}{k:Int}{xs:List Int} (h:mR r k xs) (h1:1<=k) (h2:k<=65536){i:Nat} (hi:i<xs.length):eU r (4*k) (i:Int)=xs.getD i 0:=by
 obtain ⟨o,ho,hf,hc,rfl⟩:=h;unfold eU;rw [iH h1 h2];unfold RH.at;rw [ho];simp only;rw [a0a (by omega)];simp
section
variable {s s':SP}{t t':TB}{v:KV}{r:Int}
end
section
variable {Q:QT}{H:au}
variable {a b c d A B D P:Option Addr}{i j k m n x y z I J K M N:Int}{l o r s u v L O R S U V:Nat}{t w T W:ByteArray}{e E g:Bool}{q:Option Nat}{p X Y Z:Value}{F G:Addr}
theorem IW (h:fe 383 #[am a] H fun b=>aE a fun c=>aK b (c.add 1) fun c d e=>bM (Builtin.append_ #[249,249] 249 #[av c d e,av (some (aL b.size)) 1 1]) (aJ b #[.int .u8 i] 5) fun b c d e=>aE a fun a=>bj e (a.add 1) (av b c d) fun a=>Q .nilIface a):ag PP 354 #[.pointer a,.int .u8 i] Q H :=
 okF Tryz.func354 rfl h
theorem DU (h:aE a fun b=>aK H (b.add 1) fun b c d=>aE a fun a=>aK H (a.add 1) fun e f g=>Pi (Builtin.unsafeSliceData_ #[249] 324 #[av b c d]) H fun b c=>((aq c (a.add 1)=some (av e f g)∧True)∧True)∧A9 (Builtin.unsafeString_ #[324,3] 9 #[am b,ac (f:Int)]) c fun a b=>True∧Q (aO a) b):ag PP 355 #[.pointer a] Q H :=
 okF Tryz.func355 rfl h
end
end Go.Proofs.YtgjfejoohojokaaGreatDoor
namespace Kw
section
open Go Go.Proofs Go.Shelf Go.RowKit
variable {P:Program}
theorem kw (w:World) (a:Addr) (v:Value):(w.setCell a v).heap=aQ w.heap a v:=rfl
def oF (T:TypeId) (H:au) (b:Nat) (s:Value):Prop:=∃ p,H[b]?=some (.cells #[p,s] T (0,0))∧(p=.pointer none∨p=.pointer (some ⟨b,0,none⟩))
theorem oF.lt {T:TypeId}{H:au}{b:Nat}{s:Value} (h:oF T H b s):b<H.size:=by
 obtain ⟨p,h,_⟩:=h;exact (a1j.1 h).1
theorem oF.keep {T:TypeId}{H H':au}{b:Nat}{s:Value} (h:oF T H b s) (e:H'[b]?=H[b]?):oF T H' b s:=by
 obtain ⟨p,h,h2⟩:=h;exact ⟨p,e.trans h,h2⟩
theorem pD {ρ:Ren} (L:Lays.n240 P ρ) (X:Builder.X72 P ρ) (hfn:∃ fn,P.funcs[ρ.f 240]?=some fn∧fn.body.isSome=true){H:au}{b:Nat}{s:Value}{Q:Value->au->Prop} (hb:oF (ρ.t 72) H b s)
  (h:∀ H',oF (ρ.t 72) H' b s->Fr [b] H H'->H'.size=H.size->Q (.tuple #[]) H'):ag P (ρ.f 240) #[.pointer (some ⟨b,0,none⟩)] Q H:=by
 obtain ⟨p,hb,hp⟩:=hb;refine ⟨hfn,fun w hw=>?_⟩;subst hw;have Jg:w.shape? b=some ((ρ.t 72),2):=by simp [World.shape?,hb]
 have hfz:w.frozen? ⟨b,0,none⟩=false:=by simp [World.frozen?,hb]
 have hc:w.cell? ⟨b,0,none⟩=some p:=by simp [World.cell?,hb]
 rcases hp with rfl | rfl
 ·refine (Any.Builder_copyCheck_fresh L X b w hc Jg hfz).mono ?_;rintro e w' ⟨rfl,rfl⟩;have hl:=(a1j.1 hb).1;have hz:(w.setCell ⟨b,0,none⟩ (.pointer (some ⟨b,0,none⟩))).heap.size=w.heap.size:=by rw [kw,ck]
  have ic:∀ y,y≠b->(w.setCell ⟨b,0,none⟩ (.pointer (some ⟨b,0,none⟩))).heap[y]?=w.heap[y]?:=fun y hy=>by rw [kw,cP hy]
  refine ⟨_,rfl,h _ ⟨_,?_,.inr rfl⟩ ⟨Nat.le_of_eq hz.symm,fun y _ hy=>ic y (by simpa using hy)⟩ hz,rfl,rfl,rfl,a0U _,Nat.le_of_eq hz.symm,fun y ds hy=>?_⟩
  ·rw [kw];simp [aQ,a2a,hb]
  ·rw [ic y (fun e=>by subst e;rw [hb] at hy;cases hy)];exact hy
 ·refine (Any.Builder_copyCheck_used L X b w hc).mono ?_;rintro e w' ⟨rfl,rfl⟩;exact ⟨_,rfl,h _ ⟨_,hb,.inr rfl⟩ (Fr.refl _ _) rfl,rfl,rfl,rfl,a0U _,a0U _,fun y ds hy=>hy⟩
def AR (e:TypeId) (H:au) (a:Option Addr) (l c:Nat) (xs:List Value) (G:aS):Prop:=bZ 1 H a l c xs G∧(∀ b∈G,∃ cs,H[b]?=some (.cells cs e (0,0)))∧c<=maxLen
theorem AR.keep {e:TypeId}{H H':au}{a:Option Addr}{l c:Nat}{xs:List Value}{G:aS} (h:AR e H a l c xs G) (he:∀ b∈G,H'[b]?=H[b]?):AR e H' a l c xs G:=⟨h.1.keep he,fun b hb=>by
 obtain ⟨cs,h2⟩:=h.2.1 b hb;exact ⟨cs,(he b hb).trans h2⟩,h.2.2⟩
theorem uJ {T T' T0:Nat}{H:au}{a:Option Addr}{l c:Nat}{xs:List Value}{y:Value}{e d:TypeId}{i:TypeInfo}{z:Value}{F:aS}{Q:Value->au->Prop} (hu:P.underlying T=some (.slice e)) (hi:P.info? e=some i) (hk:i.size=1) (hb:i.bytes=1) (OH:i.zero=some z) (hz:z.cells.size=1) (hT:P.underlying T'=some (.slice d))
  (ho:AR e H a l c xs F) (Js:dJ y=true) (hl:l<4611686018427){e2:TypeId}
  (h:∀ a' c' F' H',AR e H' a' (l+1) c' (xs++[y]) F'->Up F H F' H'->Q (.slice a' (l+1) c') H') :
  cB P (Builtin.append_ #[T,T'] T0 #[.slice a l c,.slice (some ⟨H.size,0,none⟩) 1 1]) Q (H.push (.cells #[y] e2)):=by
 have fp:=Fr.push [] H (.cells #[y] e2);have hr:Rd 1 (H.push (.cells #[y] e2)) (some ⟨H.size,0,none⟩) 1 [y]:=(show bZ 1 _ (some ⟨H.size,0,none⟩) 1 1 [y] [H.size] from ⟨rfl,a0U _,.inr ⟨_,_,rfl,rfl,bI.new _ _ _,rfl,rfl⟩⟩).rd;have IN:AR e (H.push (.cells #[y] e2)) a l c xs F:=ho.keep fun b hb=>fp.2 b (ho.1.lt b hb) (by simp);have sz:(H.push (.cells #[y] e2)).size=H.size+1:=by simp
 have s6:∀ {F' H'},Up F (H.push (.cells #[y] e2)) F' H'->Up F H F' H':=fun {F' H'} u=>⟨⟨a0O fp.1 u.1.1,fun b hb hn=>by rw [u.1.2 b (a0X hb fp.1) hn,fp.2 b hb (by simp)]⟩,fun b hb=>(u.2 b hb).imp id fun hg=>a0O fp.1 hg⟩;generalize (H.push (.cells #[y] e2))=H1 at hr IN s6 ⊢;obtain ⟨hO,hty,hcm⟩:=IN;show cB P (do
  let .slice elem ← underlying T | stuck "append: slice type expected"
  _) Q H1
 refine aH (bF hu ?_);refine aH (jc hi ?_);rw [hk];refine aH (aH (bF hT ?_));simp only [pure,List.getElem_toArray,List.getElem_cons_succ,a3w];refine aH (fg ?_);simp only [a1M,if_false,a0C,if_true];refine aH (show cB P (Builtin.lenOf (.slice (some ⟨H.size,0,none⟩) 1 1)) _ H1 from ?_);refine fg ?_;have Oq:xs.length=l:=by have:=hO.1;omega
 by_cases Ja:l+1<=c
 ·simp only [Ja,if_true];refine aH (dR hr (a0U _) ?_);rw [show ([y].take (1*1):List Value)=[y] from rfl];rcases hO.2.2 with ⟨rfl,Jm,rfl⟩ | ⟨b,cs,rfl,rfl,R2,zw,lj⟩
  ·omega
  ·obtain ⟨cs2,hB⟩:=hty b (by simp);have hcs:cs2=cs:=by
    obtain ⟨t,u7⟩:=R2;rw [hB] at u7;simp only [Option.some.injEq,Obj.cells.injEq] at u7;exact u7.1
   subst hcs;dsimp only;rw [aB,a0K];refine aH ?_;have OV:l*1+0+[y].length<=cs2.size:=by simp;omega
   refine fF [y] (l*1) 0 cs2 (by simpa using Js) hB OV fun H' g1 g2 g3=>?_;refine h _ _ [b] H' ⟨⟨by simp;omega,Ja,.inr ⟨b,_,rfl,rfl,⟨e,g1⟩,?_,?_⟩⟩,fun b' k9=>?_,hcm⟩ (s6 ⟨⟨by omega,fun b' _ hn=>g3 b' (by simpa using hn)⟩,fun b' k9=>.inl k9⟩)
   ·simp only [gq,a1D,a1h,a1q,a3U,a3A,a1b,a1s];omega
   ·simp only [gq,a4u];rw [lj,a2J (by simp;omega)];exact a0Y (by simp;omega)
   ·simp at k9;subst k9;exact ⟨_,g1⟩
 ·simp only [Ja,if_false];have SO:¬ (((l+1:Nat):Int) > IntKind.i64.max∧(False∨i.bytes=0)):=by
   rintro ⟨_,h | h⟩
   ·exact h
   ·rw [hb] at h;cases h
  refine aH (dC hi ?_);simp only [SO,if_false];refine aH (dC hi ?_);have R9:¬ Builtin.nextslicecap (l+1) c*i.bytes > 2 ^ 48:=by
   rw [hb]
   have:=iM (need:=l+1) (c:=c) (by omega);omega
  simp only [R9,if_false];refine aH ?_;simp only [choose,cB,Question.forced,a1M,if_false];intro t;have SQ:l+1<=Question.cut (.appendCap (l+1) c e) t:=by simp only [Question.cut];omega
  have Us:Question.cut (.appendCap (l+1) c e) t<=maxLen:=by
   simp only [Question.cut,maxLen]
   have:=a4r t (show 0<2 ^ 63-(l+1) by omega);omega
  generalize Question.cut (.appendCap (l+1) c e) t=cap' at SQ Us;refine aH (dC hi ?_);refine aH (jx ?_);refine aH (dR (hO.rd) (a0U _) ?_);refine aH (dR hr (a0U _) ?_);refine aH (eA hi OH ?_);rw [show ([y].take (1*1):List Value)=[y] from rfl,show xs.take (l*1)=xs from a0Y (by omega)];simp only [newRow,newObj,bind,Sem.bind,pure,cB];refine h _ _ [H1.size] _ ⟨⟨by simp;omega,SQ,.inr ⟨H1.size,_,rfl,rfl,bI.new _ _ _,?_,?_⟩⟩,fun b' k9=>?_,Us⟩ (s6 ⟨Fr.push _ _ _,fun b' k9=>?_⟩)
  ·simp only [a3y,a1D,Builtin.zeroCells,Array.size_map,Array.size_range,hz,a1b,a1s];omega
  ·simp only [Array.toList_append,a18];rw [←a18,a2J (by simp;omega)];exact a0Y (by simp;omega)
  ·simp at k9;subst k9;exact ⟨_,by simp;rfl⟩
  ·simp at k9;exact .inr (by omega)
theorem rO {ts:Array TypeId}{ty e:TypeId}{H:au}{a:Option Addr}{l c:Nat}{xs:List Value}{G:aS}{Q:Value->au->Prop} (hty:P.underlying ty=some (.pointer e)) (ho:bZ 1 H a l c xs G) (h0:l≠0->Q (.pointer a) H) (h1:l=0->∀ p H',Fr [] H H'->Q (.pointer p) H') :
  cB P (Builtin.unsafeSliceData_ ts ty #[.slice a l c]) Q H:=by
 have hlc:=ho.2.1;rcases ho.2.2 with ⟨rfl,Jm,rfl⟩ | ⟨b,cs,rfl,rfl,⟨t,hB⟩,_⟩
 ·show Q (.pointer none) H;by_cases hl:l=0
  ·exact h1 hl _ _ (Fr.refl _ _)
  ·exact h0 hl
 ·show cB P (if c≠0 then pure (.pointer (some ⟨b,0,none⟩)) else _) Q H;by_cases hc:c=0
  ·rw [a0a (by simpa using hc)];refine aH ?_;have hs:kZ H b=some (t,cs.size):=by simp [kZ,hB]
   unfold viewAt;refine aH ?_;show cB P (.shape b fun r=>.pure r) _ H;unfold cB;rw [hs];simp only [a3G,if_true];show cB P (if false=true then pure _ else _) Q H;rw [a0a (by simp)];refine aH (aH ?_);refine bF hty ?_;exact h1 (by omega) _ _ (Fr.push _ _ _)
  ·rw [a0b hc];show Q (.pointer (some ⟨b,0,none⟩)) H;by_cases hl:l=0
   ·exact h1 hl _ _ (Fr.refl _ _)
   ·exact h0 hl
theorem me {H:au}:∀ (l:List UInt8) (a:Addr) (acc:ByteArray){Q:ByteArray->au->Prop},(∀ j x,l[j]?=some x->aq H (a.add j)=some (.int .u8 x.toNat))->Q ⟨acc.data++l.toArray⟩ H->cB P (loadBytes a acc l.length) Q H
 | [],a,acc,Q,_,h=>by
  show Q acc H;simpa using h
 | x :: l,a,acc,Q,hc,h=>by
  show cB P (do
   match ← load a with
   | .int .u8 b=>loadBytes (a.add 1) (acc.push b.toNat.toUInt8) l.length
   | _ => stuck "a byte variable that holds no byte") Q H
  have h0:=hc 0 x rfl;rw [Addr.add_zero'] at h0;refine aH ?_;show ∃ v,aq H a=some v∧_;refine ⟨_,h0,?_⟩;show cB P (loadBytes (a.add 1) (acc.push ((x.toNat:Int).toNat.toUInt8)) l.length) Q H;have hx:(x.toNat:Int).toNat.toUInt8=x:=by simp
  rw [hx];refine me l _ _ (fun j y hy=>?_) ?_
  ·rw [Addr.add_add]
   have:=hc (j+1) y (by simpa using hy);rw [Nat.add_comm j 1] at this;exact this
  ·have e:(acc.push x).data++l.toArray=acc.data++(x :: l).toArray:=by
    show acc.data.push x++l.toArray=_;rw [Array.push_eq_append,Array.append_assoc];simp
   rw [e];exact h
theorem xt {pt it ty e:TypeId} (hp:P.underlying pt=some (.pointer e)) (hc:P.cellsOf e=1){H:au}{a:Option Addr}{l c:Nat}{y:ByteArray}{G:aS}{Q:Value->au->Prop} (hB:AR e H a l c (y.data.toList.map fun u=>.int .u8 u.toNat) G){p:Option Addr} (ST:l≠0->p=a)
  (h:∀ H',Fr G H H'->Q (.string y) H'):cB P (Builtin.unsafeString_ #[pt,it] ty #[.pointer p,.int .i64 (l:Int)]) Q H:=by
 have hlen:y.data.toList.length=l:=by have:=hB.1.1;simpa using this
 have hm:=hB.2.2;have hlc:=hB.1.2.1;have Ox:¬ ((l:Int)<0):=by omega
 have Sb:¬ ((l:Int) > IntKind.i64.max):=by
  rw [show IntKind.i64.max=9223372036854775807 from rfl];unfold maxLen at hm;omega
 have h0:l=0->y=ByteArray.empty:=fun hl=>by
  have:y.data.toList=[]:=a1o (by omega);cases y with
  | mk d =>
   have hd:d=#[]:=Array.toList_eq_nil_iff.1 this;subst hd;rfl
 have a01:∀ q,Builtin.unsafeString_ #[pt,it] ty #[.pointer q,.int .i64 (l:Int)]=(do
   let n ← asInt (.int .i64 (l:Int))
   if n < 0 then runtimePanic (.error "unsafe.String: len out of range")
   if n > IntKind.i64.max then unsupported (.unsafePointer "String: a length above the largest int")
   match q with
   | none => if n = 0 then pure (.string .empty) else runtimePanic (.error "unsafe.String: ptr is nil and len is not zero")
   | some a =>
    if n=0 then pure (.string .empty)
    else if ← variablesAt a (← elemOf pt) n.toNat then do
     let s ← loadBytes a .empty n.toNat
     freeze a n.toNat
     pure (.string s)
    else unsupported (.unsafePointer "String: not so many bytes at ptr")) := fun _ => rfl
 rw [a01];refine aH ?_;show cB P (if (l:Int)<0 then _ else _) Q H;rw [a0a Ox];show cB P (if (l:Int) > IntKind.i64.max then _ else _) Q H;rw [a0a Sb];by_cases hl:l=0
 ·have e0:=h0 hl;subst hl;cases p with
  | none =>
   show cB P (if ((0:Nat):Int)=0 then pure (.string .empty) else _) Q H;rw [a0b (show ((0:Nat):Int)=0 from rfl)];rw [←e0];exact h H (Fr.refl _ _)
  | some q =>
   show cB P (if ((0:Nat):Int)=0 then pure (.string .empty) else _) Q H;rw [a0b (show ((0:Nat):Int)=0 from rfl)];rw [←e0];exact h H (Fr.refl _ _)
 ·have a02:=ST hl;subst a02;rcases hB.1.2.2 with ⟨rfl,Jm,rfl⟩ | ⟨b,cs,rfl,rfl,R2,zw,lj⟩
  ·omega
  ·obtain ⟨cs2,hg⟩:=hB.2.1 b (by simp);have hcs:cs2=cs:=by
    obtain ⟨t,u7⟩:=R2;rw [hg] at u7;simp only [Option.some.injEq,Obj.cells.injEq] at u7;exact u7.1
   subst hcs;show cB P (if (l:Int)=0 then pure (.string .empty) else _) Q H;rw [a0a (by omega)];refine aH ?_;unfold elemOf;refine aH (bF hp ?_);show cB P (pure e) _ H;refine fg ?_;refine aH ?_;have hs:kZ H b=some (e,cs2.size):=by simp [kZ,hg]
   show cB P (.program fun q=>.shape b fun r=>_) _ H;show cB P (match kZ H b with | some (e',cells)=>pure (liesAt P P.depth e' (cells / P.cellsOf e') 0 e ((l:Int).toNat)) | none=>pure false) _ H;rw [hs];dsimp only;refine fg ?_;have Xa:=Lib.liesAt_bytes (P:=P) hc (cs2.size / P.cellsOf e) l (by rw [hc];simp;omega);rw [a0j,Xa,a0b rfl];refine aH ?_;have aj:∀ j x,y.data.toList[j]?=some x->aq H ((⟨b,0,none⟩:Addr).add j)=some (.int .u8 x.toNat):=fun j x hx=>by
    have hj:j<l*1:=by
     have:=(a3s.1 hx).1;omega
    rw [hB.1.rd.2.2 _ rfl j hj,a2s,hx];rfl
   have:=me (P:=P) (H:=H) y.data.toList ⟨b,0,none⟩ .empty (Q:=fun s H'=>cB P (do freeze ⟨b,0,none⟩ l;pure (Value.string s)) Q H') aj (by
    refine aH ?_;show Q (.string _) (fA H ⟨b,0,none⟩ l);have ey:(⟨ByteArray.empty.data++y.data.toList.toArray⟩:ByteArray)=y:=by
     cases y with
     | mk d =>
      show (⟨#[]++d.toList.toArray⟩:ByteArray)=⟨d⟩;simp
    rw [ey];refine h _ ⟨?_,fun x hx hn=>?_⟩
    ·unfold fA;split <;> simp
    ·have hxb:x≠b:=by simpa using hn
     unfold fA;split
     ·rfl
     ·simp [a2a,a3t hxb])
   rw [hlen] at this;exact this
end
end Kw
