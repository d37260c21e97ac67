/- Lemmas for RPQ: functions of the program as predicate transformers, and their contracts. -/
import Derived.Test.YtgjfejoohojokaaGreatDoorZQ2
import Derived.Test.YtgjfejoohojokaaGreatDoorProg
import Derived.Shelf.Strconv.Itoa3
import Derived.Shelf.Strings.Repeat
import Derived.Ground.NamesProg
import Derived.Calls
set_option linter.all false
set_option maxRecDepth 100000
set_option maxHeartbeats 4000000
namespace Go.Proofs.YtgjfejoohojokaaGreatDoor
open Kw
noncomputable instance memDec (s:ByteArray) (l:List ByteArray):Decidable (s∈l):=Classical.propDecidable _
theorem ix {es:List (Key × Value)}{k:Key}:ca es k=none↔k∉es.map (·.1):=by
 induction es with
 | nil=>simp [ca]
 | cons p l ih =>
  unfold ca
  by_cases h:k=p.1
  ·simp [h]
  ·rw [if_neg h,ih]
   simp [h]
theorem tX {es:List (Key × Value)} (hnd:(es.map (·.1)).Nodup) (k k':Key):ca (lH es k) k'=if k'=k then none else ca es k':=by
 induction es with
 | nil=>simp [lH,ca]
 | cons p l ih =>
  rw [List.map_cons,List.nodup_cons] at hnd
  unfold lH
  by_cases h:k=p.1
  ·rw [if_pos h]
   by_cases h2:k'=k
   ·rw [if_pos h2]
    rw [ix,h2,h];exact hnd.1
   ·rw [if_neg h2]
    have:k'≠p.1:=fun e=>h2 (e.trans h.symm)
    conv=>rhs;unfold ca
    rw [if_neg this]
  ·rw [if_neg h]
   unfold ca
   by_cases h3:k'=p.1
   ·rw [if_pos h3,if_pos h3,if_neg (fun e=>h (e.symm.trans h3))]
   ·rw [if_neg h3,if_neg h3];exact ih hnd.2
theorem vI (es:List (Key × Value)) (k:Key):(lH es k).Sublist es:=by
 induction es with
 | nil=>exact List.Sublist.refl _
 | cons p l ih =>
  unfold lH
  split
  ·exact List.sublist_cons_self _ _
  ·exact ih.cons_cons _
def lJ (H:ae) (b:Nat) (F:az) (t:TB):Prop:=∃ a l c F' m es,F=b :: m :: F'∧b∉F'∧b≠m∧m∉F'∧aV H b #[.int .i64 t.most,.slice a l c,.map (some m)]∧bK 1 H a l c (bg t.texts) F'∧cd H m es ∧
 (∀ p∈es,p.1.of .string)∧(∀ s,ca es (.str s)=(bL t.texts s).map fun n:Nat=>.int .i64 n)∧WFT t∧(es.map (·.1)).Nodup
section
variable {H:ae}{b:Nat}{F F':az}{t:TB}{Q:QT}
theorem lJ.wf (h:lJ H b F t):WFT t:=by obtain ⟨_,_,_,_,_,_,_,_,_,_,_,_,_,_,_,h,_⟩:=h;exact h
theorem lJ.lt (h:lJ H b F t):∀ x∈F,x<H.size:=by
 obtain ⟨a,l,c,F',m,es,rfl,h1,h2,h3,hB,hO,hM,_⟩:=h
 intro x hx
 rcases List.mem_cons.1 hx with rfl | hx
 ·exact hB.lt
 ·rcases List.mem_cons.1 hx with rfl | hx
  ·exact hM.lt
  ·exact hO.lt x hx
theorem lJ.fr {H':ae}{G:az} (h:lJ H b F t) (hf:Fr G H H') (hd:cA F G):lJ H' b F t:=by
 obtain ⟨a,l,c,F',m,es,rfl,h1,h2,h3,hB,hO,hM,h4⟩:=h
 exact ⟨a,l,c,F',m,es,rfl,h1,h2,h3,hB.fr hf (hd b (by simp)),hO.fr hf fun x hx=>hd x (by simp [hx]),hM.fr hf (hd m (by simp)),h4⟩
theorem kI (hT:lJ H b F t) (h:Q (.bool false) H):ac PP Fs #[.pointer (some ⟨b,0,none⟩)] Q H:=by
 obtain ⟨a,l,c,F',m,es,rfl,h1,h2,h3,hB,_⟩:=hT
 have hc2:aa H ⟨b,2,none⟩=some (.map (some m)):=hB.cell 2
 apply BS
 unfold LM
 simp only [Option.isNone_some,cond_false]
 exact ⟨_,rfl,_,hc2,h⟩
theorem yt {n:Int} (hbad:¬ (0<=n∧n<=4096)->Q (.tuple #[.pointer none,.int .i64 1]) H) (h:(0<=n∧n<=4096)->∀ b F H',lJ H' b F ⟨n,[]⟩->Fr [] H H'->(∀ x∈F,H.size<=x)->Q (.tuple #[.pointer (some ⟨b,0,none⟩),.int .i64 0]) H'):ac PP HW #[.int .i64 n] Q H:=by
 apply Bo
 unfold L5 iV pV lV
 simp only [af]
 refine dp (fun h1=>hbad (by omega)) fun h1=>dp (fun h2=>hbad (by omega)) fun h2=>?_
 refine h (by omega) _ _ _ ⟨none,0,0,[],H.size,[],rfl,by simp,by simp,by simp,aV.new _ _ _,bK.nil 1 _,cd.fr (H:=H.push (.map #[] 0)) (G:=[]) (cd.new H) (Fr.push [] _ _) (by simp),by simp,fun s=>by simp [ca,bL],?_,by simp⟩ ((Fr.push [] H _).more) (by simp)
 exact ⟨by simp;omega,by simp;omega,by simp;omega,by simp,by simp⟩
theorem pc (hT:lJ H b F t):∃ a l c m es,aa H ⟨b,0,none⟩=some (.int .i64 t.most)∧aa H ⟨b,1,none⟩=some (.slice a l c)∧aa H ⟨b,2,none⟩=some (.map (some m))∧cd H m es∧(∀ p∈es,p.1.of .string)∧(∀ s,ca es (.str s)=(bL t.texts s).map fun n:Nat=>.int .i64 n)∧Rd 1 H a l (bg t.texts)∧l=t.texts.length:=by
 obtain ⟨a,l,c,F',m,es,rfl,h1,h2,h3,hB,hO,hM,h4,h5,h6⟩:=hT
 exact ⟨a,l,c,m,es,hB.cell 0,hB.cell 1,hB.cell 2,hM,h4,h5,hO.rd,by have:=hO.len;simpa [bg] using this.symm⟩
theorem ng (hT:lJ H b F t) (h:Q (.int .i64 (t.texts.length:Int)) H):ac PP Bh #[.pointer (some ⟨b,0,none⟩)] Q H:=by
 obtain ⟨a,l,c,m,es,hc0,hc1,hc2,hM,ho,hg,_,hl⟩:=pc hT
 apply EX
 unfold L0 iV pV lV
 refine kI hT ⟨_,rfl,?_⟩
 simp only [cond_false]
 refine ⟨_,rfl,_,_,_,hc1,?_⟩
 rw [hl];exact h
theorem pK (hT:lJ H b F t){n:Int} (h:Q (pF t n) H):ac PP BZ #[.pointer (some ⟨b,0,none⟩),.int .i64 n] Q H:=by
 obtain ⟨a,l,c,m,es,hc0,hc1,hc2,hM,ho,hg,hrd,hl⟩:=pc hT
 apply yE
 unfold FL iV pV sV lV
 unfold pF at h
 refine kI hT ⟨_,rfl,?_⟩
 simp only [cond_false,af]
 refine dp (fun h2=>?_) fun h2=>?_
 ·rw [dif_neg (by omega)] at h;exact h
 refine ⟨_,rfl,_,_,_,hc1,dp (fun h3=>?_) fun h3=>?_⟩
 ·rw [dif_neg (by omega)] at h;exact h
 ·rw [dif_pos (by omega)] at h
  obtain ⟨p,hlt2,rfl,hcell⟩:=hrd.str (i:=n) (by omega) (by omega)
  exact ⟨_,rfl,_,_,_,hc1,⟨by omega,by omega⟩,_,rfl,_,by rw [Nat.mul_one];exact hcell,h⟩
theorem oD (hT:lJ H b F t){s:ByteArray} (h:∀ H' F',lJ H' b F' (t.add s).2->Up F H F' H'->Q (.tuple #[.int .i64 (t.add s).1.1,.int .i64 (t.add s).1.2]) H'):ac PP Cu #[.pointer (some ⟨b,0,none⟩),.string s] Q H:=by
 have hT0:=hT
 have hlt0:=hT.lt
 have hwf:=fo hT.wf s
 have hmi:cO PP 141=some (.string,some (.int .i64 0)):=by kernel_rfl
 have hs1:aI PP 61=some (1,16,some (.string (⟨#[]⟩:ByteArray))):=by kernel_rfl
 obtain ⟨a,l,c,F',m,es,rfl,h1,h2,h3,hB,hO,hM,ho,hg,hw,hnd⟩:=hT
 have hc0:aa H ⟨b,0,none⟩=some (.int .i64 t.most):=hB.cell 0
 have hc1:aa H ⟨b,1,none⟩=some (.slice a l c):=hB.cell 1
 have hc2:aa H ⟨b,2,none⟩=some (.map (some m)):=hB.cell 2
 have hl:l=t.texts.length:=by have:=hO.len;simpa [bg] using this.symm
 have hm1:=hw.m1
 have hlen:=hw.len
 apply za
 unfold Gj A0 iV pV sV lV
 refine kI hT0 ⟨_,rfl,?_⟩
 simp only [cond_false,af]
 unfold TB.add at h hwf
 refine dp (fun g1=>?_) fun g1=>dp (fun g2=>?_) fun g2=>?_
 ·rw [if_pos (by unfold bx;omega)] at h;exact h H _ hT0 (Up.refl _ _)
 ·rw [if_pos (by unfold bx;omega)] at h;exact h H _ hT0 (Up.refl _ _)
 have hgd:¬ ¬ bx s:=by unfold bx;omega
 rw [if_neg hgd] at h hwf
 refine ⟨_,rfl,_,hc2,?_⟩
 refine iN (k:=.str s) hmi trivial ho hM ?_
 rw [hg s]
 cases hn:bL t.texts s with
 | some n =>
  rw [hn] at h
  refine ⟨_,_,rfl,?_⟩
  exact h H _ hT0 (Up.refl _ _)
 | none =>
  rw [hn] at h hwf
  simp only at h hwf
  refine ⟨_,_,rfl,?_⟩
  simp only [Option.map_none,Option.isSome_none,cond_false]
  refine ⟨_,rfl,_,_,_,hc1,_,rfl,_,hc0,dp (fun g3=>?_) fun g3=>?_⟩
  ·rw [if_pos (by omega)] at h;exact h H _ hT0 (Up.refl _ _)
  ·rw [if_neg (by omega)] at h hwf
   refine ⟨_,rfl,_,_,_,hc1,?_⟩
   refine bJ hs1 rfl (by kernel_rfl) hO rfl (by simp [dC]) (by omega) (by decide) (by decide) fun a' c' F3 H2 k1 k2 k3=>⟨_,_,_,rfl,?_⟩
   have hbF3:b∉F3:=fun hx=>by
    rcases k2.2 b hx with h4 | h4
    ·exact h1 h4
    ·have:=hlt0 b (by simp);omega
   have hmF3:m∉F3:=fun hx=>by
    rcases k2.2 m hx with h4 | h4
    ·exact h3 h4
    ·have:=hlt0 m (by simp);omega
   have hB2:=hB.fr k2.1 h1
   have hBs:=hB2.set 1 (.slice a' (l+1) c')
   have hMs:=(hM.fr k2.1 h3).of_eq (H':=av H2 ⟨b,1,none⟩ (.slice a' (l+1) c')) (ce (Ne.symm h2))
   refine ⟨_,rfl,hB2.wr (by simp),_,rfl,_,hBs.cell 2,?_⟩
   refine fy (k:=.str s) hmi trivial ho hMs fun H4 hM4 hf4=>?_
   rw [hl]
   have hfb:Fr [b] H2 (av H2 ⟨b,1,none⟩ (.slice a' (l+1) c')):=Fr.set (by simp)
   refine h H4 (b :: m :: F3) ⟨a',l+1,c',F3,m,_,rfl,hbF3,h2,hmF3,hBs.fr hf4 (by simpa using h2),?_,hM4,?_,fun x=>?_,hwf,?_⟩ ⟨?_,fun x hx=>?_⟩
   ·have h5:=(k1.fr hfb (fun x hx hn=>hbF3 (by simp only [List.mem_singleton] at hn;rw [←hn];exact hx))).fr hf4 (fun x hx hn=>hmF3 (by simp only [List.mem_singleton] at hn;rw [←hn];exact hx))
    simp only
    rw [eK];exact h5
   ·intro p hp
    have:∀ (es:List (Key × Value)),(∀ p∈es,p.1.of .string)->∀ p∈jP es (.str s) (.int .i64 (t.texts.length:Int)),p.1.of .string:=by
     intro es
     induction es with
     | nil=>intro _ p hp;simp [jP] at hp;subst hp;trivial
     | cons q es ih =>
      intro hes p hp
      unfold jP at hp
      split at hp
      ·rcases List.mem_cons.1 hp with rfl | hp
       ·trivial
       ·exact hes p (by simp [hp])
      ·rcases List.mem_cons.1 hp with rfl | hp
       ·exact hes _ (by simp)
       ·exact ih (fun p hp=>hes p (by simp [hp])) p hp
    rw [hl] at hp
    exact this es ho p hp
   ·rw [tY,hg x,oh]
    by_cases hx:x=s
    ·subst hx
     rw [hn];simp [hl]
    ·rw [if_neg (by simpa using hx)]
     cases bL t.texts x with
     | some n=>rfl
     | none=>simp only;rw [if_neg (fun e:s=x=>hx e.symm)]
   ·have hgn:ca es (.str s)=none:=by rw [hg s,hn];rfl
    rw [iq (du.2 hgn),List.map_append,List.nodup_append]
    refine ⟨hnd,by simp,fun x hx y hy hxy=>?_⟩
    simp only [List.map_cons,List.map_nil,List.mem_singleton] at hy
    subst hy
    subst hxy
    exact (ix.1 hgn) hx
   ·exact ((k2.1.mono fun x hx=>by simp [hx]).step (by simp)).trans (hf4.mono fun x hx=>by simp only [List.mem_singleton] at hx;simp [hx])
   ·rcases List.mem_cons.1 hx with rfl | hx
    ·exact .inl (by simp)
    ·rcases List.mem_cons.1 hx with rfl | hx
     ·exact .inl (by simp)
     ·exact (k2.2 x hx).imp (fun h4=>by simp [h4]) id
theorem qx {l:List ByteArray} (hnd:l.Nodup) (n:Nat) (s:ByteArray):bL (l.take n) s=if s∈l.drop n then none else bL l s:=by
 induction l generalizing n with
 | nil=>simp [bL]
 | cons x l ih =>
  rw [List.nodup_cons] at hnd
  cases n with
  | zero =>
   simp only [List.take_zero,List.drop_zero,bL]
   by_cases h:s∈x :: l
   ·rw [if_pos h]
   ·rw [if_neg h]
    have h1:x≠s:=fun e=>h (by simp [e])
    have h2:bL l s=none:=iR.2 fun hm=>h (by simp [hm])
    rw [if_neg h1,h2];rfl
  | succ n =>
   simp only [List.take_succ_cons,List.drop_succ_cons,bL]
   by_cases h1:x=s
   ·subst h1
    have:x∉l.drop n:=fun hm=>hnd.1 (List.mem_of_mem_drop hm)
    simp [this]
   ·rw [if_neg h1,if_neg h1,ih hnd.2]
    split <;> rfl
theorem vp (hT:lJ H b F t){n:Int} (h:∀ H',lJ H' b F (TB.back t n).2->Fr F H H'->Q (.int .i64 (TB.back t n).1) H'):ac PP EN #[.pointer (some ⟨b,0,none⟩),.int .i64 n] Q H:=by
 have hT0:=hT
 have hlt0:=hT.lt
 have hmi:cO PP 141=some (.string,some (.int .i64 0)):=by kernel_rfl
 obtain ⟨a,l,c,F',m,es,rfl,h1,h2,h3,hB,hO,hM,ho,hg,hw,hnd⟩:=hT
 have hc1:aa H ⟨b,1,none⟩=some (.slice a l c):=hB.cell 1
 have hl:l=t.texts.length:=by have:=hO.len;simpa [bg] using this.symm
 have hm1:=hw.m1
 have hlen:=hw.len
 have hlc:=hO.2.1
 apply AO
 unfold FM iV wW pV sV lV
 unfold TB.back at h
 refine kI hT0 ⟨_,rfl,?_⟩
 simp only [cond_false,af]
 refine ap (fun g1=>?_) fun g1=>?_
 ·rw [if_pos (.inl g1)] at h;exact h H hT0 (Fr.refl _ _)
 refine ⟨_,rfl,_,_,_,by rw [al];exact hc1,ap (fun g2=>?_) fun g2=>?_⟩
 ·rw [if_pos (by omega)] at h;exact h H hT0 (Fr.refl _ _)
 rw [if_neg (by omega)] at h
 have e1:IntKind.wrap .i64 ((l:Int)-n)=(l:Int)-n:=ah (by omega) (by omega)
 refine ⟨_,rfl,_,_,_,by rw [al];exact hc1,?_⟩
 rw [e1]
 refine ⟨fun w H'=>∃(i:Nat) (es':List (Key × Value)),w=[.int .i64 i]∧(i:Int)<=(l:Int)-n∧Fr [m] H H'∧cd H' m es'∧es'.Sublist es∧∀ s,ca es' (.str s)=if s∈(t.texts.drop n.toNat).take i then none else ca es (.str s),fun w _=>match w with
  | [.int _ i]=>((l:Int)-n-i).toNat
  | _=>0,⟨0,es,rfl,by omega,Fr.refl _ _,hM,List.Sublist.refl _,by simp⟩,?_⟩
 rintro w H1 ⟨i,es',rfl,hi,hf,hM1,hsub,hg1⟩ _
 have hB1:=hB.fr hf (by simpa using h2)
 have hO1:=hO.fr hf (fun x hx hm=>h3 (by simp only [List.mem_singleton] at hm;rw [←hm];exact hx))
 refine ⟨_,rfl,ap (fun g3=>?_) fun g3=>?_⟩
 ·have e2:IntKind.wrap .i64 (n+(i:Int))=n+i:=ah (by omega) (by omega)
  have e3:IntKind.wrap .i64 ((i:Int)+1)=((i+1:Nat):Int):=by rw [ah (by omega) (by omega)];omega
  rw [e2,e3]
  obtain ⟨p,hlt2,rfl,hcell⟩:=hO1.rd.str (i:=n+(i:Int)) (by omega) (by omega)
  refine ⟨_,rfl,_,by rw [al];exact hB1.cell 2,_,rfl,_,_,_,by rw [al];exact hB1.cell 1,⟨by omega,by omega⟩,_,rfl,_,by rw [Nat.mul_one];exact hcell,?_⟩
  have hnd1:(es'.map (·.1)).Nodup:=hnd.sublist (hsub.map _)
  refine rg (k:=.str t.texts[(n+(i:Int)).toNat]) hmi trivial (fun p hp=>ho p (hsub.subset hp)) hM1 fun H2 hM2 hf2=>⟨trivial,⟨i+1,_,rfl,by omega,hf.trans hf2,hM2,(vI _ _).trans hsub,fun s=>?_⟩,by simp;omega⟩
  have hdl:i<(t.texts.drop n.toNat).length:=by rw [List.length_drop];omega
  have htk:(t.texts.drop n.toNat).take (i+1)=(t.texts.drop n.toNat).take i++[t.texts[(n+(i:Int)).toNat]]:=by
   rw [List.take_succ_eq_append_getElem hdl,List.getElem_drop]
   congr 3;omega
  rw [tX hnd1,hg1,htk]
  by_cases hs:s=t.texts[(n+(i:Int)).toNat]
  ·rw [if_pos (by rw [hs]),if_pos (by rw [hs];simp)]
  ·rw [if_neg (by simpa using hs)]
   simp only [List.mem_append,List.mem_singleton,hs,or_false]
 ·have hin:(i:Int)=(l:Int)-n:=by omega
  have htk:(t.texts.drop n.toNat).take i=t.texts.drop n.toNat:=List.take_of_length_le (by rw [List.length_drop];omega)
  rw [htk] at hg1
  refine ⟨_,rfl,_,_,_,by rw [al];exact hB1.cell 1,⟨by omega,by omega⟩,_,rfl,by rw [al];exact hB1.wr (by simp),?_⟩
  rw [al]
  have hfb:Fr [b] H1 (av H1 ⟨b,1,none⟩ (.slice a n.toNat c)):=Fr.set (by simp)
  refine h _ ⟨a,n.toNat,c,F',m,es',rfl,h1,h2,h3,hB1.set 1 _,?_,hM1.fr hfb (by simpa using Ne.symm h2),fun p hp=>ho p (hsub.subset hp),fun s=>?_,?_,hnd.sublist (hsub.map _)⟩ ((hf.mono fun x hx=>by simp only [List.mem_singleton] at hx;simp [hx]).trans (hfb.mono fun x hx=>by simp only [List.mem_singleton] at hx;simp [hx]))
  ·have h4:=hO1.fr hfb (fun x hx hm=>h1 (by simp only [List.mem_singleton] at hm;rw [←hm];exact hx))
   refine ⟨by simp [bg];omega,by omega,?_⟩
   rcases h4.2.2 with ⟨h6,h7,h8⟩ | ⟨b',cs,h6,h7,h8,h9,h10⟩
   ·exact .inl ⟨h6,h7,h8⟩
   ·refine .inr ⟨b',cs,h6,h7,h8,h9,?_⟩
    have h11:(cs.toList.take (l*1)).take (n.toNat*1)=(bg t.texts).take (n.toNat*1):=by rw [h10]
    rw [List.take_take] at h11
    have h12:min (n.toNat*1) (l*1)=n.toNat*1:=by omega
    rw [h12] at h11
    rw [h11]
    simp [bg,List.map_take]
  ·rw [hg1 s,qx hw.nodup,hg s]
   split <;> rfl
  ·exact { hw with len:=by simp;omega,nodup:=hw.nodup.sublist (List.take_sublist _ _),good:=fun s hs=>hw.good s (List.mem_of_mem_take hs) }
end
variable {Q:QT}{H:ae}
abbrev Dt:Nat:=7
def k7 (p1:Option Addr) (Q:QT) (H:ae):Prop :=
 cond (Option.isNone p1) (Q (pV none) H) (∃ q2,p1=some q2∧∃ p3,aa H q2=some (pV p3)∧Q (pV p3) H)
theorem IJ {p1:Option Addr} (h:k7 p1 Q H):ac PP 7 #[.pointer p1] Q H :=
 okF Tryz.func7 rfl h
abbrev KE:Nat:=23
def L6 (n1:Int) (n2:Int) (Q:QT) (H:ae):Prop :=
 ac PP 69 #[iV n1,iV n2] (fun v3 H1=>∃ p4 n5,v3=.tuple #[pV p4,iV n5]∧cond (n5 != 0) (Q (.tuple #[pV none,iV n5]) H1) (cS 70 #[iV 4096] (fun v6 H2=>∃ p7 n8,v6=.tuple #[pV p7,iV n8]∧cond (n8 != 0) (Q (.tuple #[pV none,iV n8]) H2) (cS 71 #[] (fun v9 H3=>∃ a10 l10 c10,v9=lV a10 l10 c10∧∃(I11:IT) (μ11:MT),I11 [lV (some (⟨(H2.push (.cells #[pV p4,pV p7] 65)).size,0,none⟩:Addr)) 3 3,iV 0] H3∧∀ w12 H4,I11 w12 H4->∀ _g:Nat->Value,∃ a13 l13 c13 n14,w12=[lV a13 l13 c13,iV n14]∧cond (decide (n14<(l10:Int))) (aK PP (Builtin.append_ #[121,121] 121 #[lV a13 l13 c13,lV (some (A0 H4.size)) 1 1]) (fun v15 H5=>∃ a16 l16 c16,v15=lV a16 l16 c16∧I11 [lV a16 l16 c16,iV (wW (n14+1))] H5∧μ11 [lV a16 l16 c16,iV (wW (n14+1))] H5<μ11 w12 H4) (H4.push (.cells #[iV 12,iV 7] 120))) (aK PP (Builtin.append_ #[121,121] 121 #[lV a13 l13 c13,lV (some (A0 H4.size)) 3 3]) (fun v17 H6=>∃ a18 l18 c18,v17=lV a18 l18 c18∧∃(I19:IT) (μ19:MT),I19 [iV 0] H6∧∀ w20 H7,I19 w20 H7->∀ _g:Nat->Value,∃ n21,w20=[iV n21]∧cond (decide (n21<(l18:Int))) (((0:Int)<=n21∧n21<(l18:Int))∧∃ q22,a18=some q22∧∃ n23:Int,shH (av (H7.push (.cells #[iV 0,iV 0] 120)) (A0 H7.size) (iV n23)) fun C2=>aa H7 (q22.add (Int.toNat n21*2))=some (iV n23)∧∃ n24:Int,shH (av C2 ((A0 H7.size).add 1) (iV n24)) fun C1=>aa H7 ((q22.add (Int.toNat n21*2)).add 1)=some (iV n24)∧Wr (H7.push (.cells #[iV 0,iV 0] 120)) (A0 H7.size)∧Wr C2 ((A0 H7.size).add 1)∧∃ n25,aa C1 (A0 H7.size)=some (iV n25)∧∃ n26,aa C1 ((A0 H7.size).add 1)=some (iV n26)∧cS 44 #[pV p4] (fun v27 H8=>∃ p28,v27=pV p28∧((aa H8 ((A0 H7.size).add 1)=some (iV n26)∧True)∧((aa H8 (A0 H7.size)=some (iV n25)∧True)∧True))∧cS 73 #[iV n25] (fun v29 H9=>∃ n30,v29=iV n30∧((aa H9 ((A0 H7.size).add 1)=some (iV n26)∧True)∧True)∧cS 72 #[pV p28,iV n30,iV n26,iV 0] (fun v31 H10=>∃ n32 n33,v31=.tuple #[iV n32,iV n33]∧True∧cond (n33 != 0) (Q (.tuple #[pV none,iV n33]) H10) (cS 73 #[iV n32] (fun v34 H11=>∃ n35,v34=iV n35∧cS 74 #[pV p4,lV (some (A0 H11.size)) 1 1] (fun v36 H12=>∃ n37,v36=iV n37∧cond (n37 != 0) (Q (.tuple #[pV none,iV n37]) H12) (I19 [iV (wW (n21+1))] H12∧μ19 [iV (wW (n21+1))] H12<μ19 w20 H7)) (H11.push (.cells #[iV n35] 26))) H10)) H9) H8) C1) (cS 75 #[pV (some (A0 H2.size))] (fun v38 H13=>v38=.tuple #[]∧cS 76 #[pV p4,iV 19] (fun v39 H14=>∃ n40,v39=iV n40∧cS 8 #[pV p4,iV (l18:Int)] (fun v41 H15=>∃ n42,v41=iV n42∧Q (.tuple #[pV (some (A0 H2.size)),iV 0]) H15) H14) H13) H7)) (H4.push (.cells #[iV 11,iV 0,iV 11,iV 8,iV 11,iV 14] 120)))) ((H2.push (.cells #[pV p4,pV p7] 65)).push (.cells #[iV 5,iV 0,iV 6,iV 0,iV 7,iV 0] 120)))) H1)) H
theorem Bt {n1:Int}{n2:Int} (h:L6 n1 n2 Q H):ac PP 23 #[.int .i64 n1,.int .i64 n2] Q H :=
 aW good Tryz.func23 rfl (Ls:=fun | 10=>some [(10,121),(41,3)] | 15=>some [(56,3)] | _=>none) (by kernel_rfl) h
abbrev KJ:Nat:=25
def LI (p1:Option Addr) (s2:ByteArray) (s3:ByteArray) (a4:Option Addr) (l4:Nat) (c4:Nat) (Q:QT) (H:ae):Prop :=
 ac PP 77 #[pV p1] (fun v5 H1=>∃ b6,v5=.bool b6∧cond (!b6) (Q (.tuple #[iV 0,iV 2]) H1) (cS 78 #[pV p1,sV s2,sV s3,lV a4 l4 c4] (fun v7 H2=>∃ n8 n9,v7=.tuple #[iV n8,iV n9]∧cond (n9 != 0) (Q (.tuple #[iV 0,iV n9]) H2) (cS 79 #[pV p1] (fun v10 H3=>∃ p11,v10=pV p11∧cS 80 #[pV p11,sV s2,iV n8,lV a4 l4 c4] (fun v12 H4=>∃ n13 n14,v12=.tuple #[iV n13,iV n14]∧cS 81 #[pV p11,iV n14] (fun v15 H5=>∃ n16,v15=iV n16∧cond (n16 != 0) (Q (.tuple #[iV 0,iV n16]) H5) (Q (.tuple #[iV n13,iV 0]) H5)) H4) H3) H2)) H1)) H
theorem Bx {p1:Option Addr}{s2:ByteArray}{s3:ByteArray}{a4:Option Addr}{l4:Nat}{c4:Nat} (h:LI p1 s2 s3 a4 l4 c4 Q H):ac PP 25 #[.pointer p1,.string s2,.string s3,.slice a4 l4 c4] Q H :=
 okF Tryz.func25 rfl h
abbrev A3:Nat:=33
def Lk (p1:Option Addr) (Q:QT) (H:ae):Prop :=
 cond (Option.isNone p1) (Q (pV none) H) (∃ q2,p1=some q2∧∃ p3,aa H (q2.add 1)=some (pV p3)∧Q (pV p3) H)
theorem vM {p1:Option Addr} (h:Lk p1 Q H):ac PP 33 #[.pointer p1] Q H :=
 okF Tryz.func33 rfl h
abbrev IF:Nat:=75
def LV (p1:Option Addr) (Q:QT) (H:ae):Prop :=
 ∃ q2,p1=some q2∧∃ p3,aa H q2=some (pV p3)∧cS 44 #[pV p3] (fun v4 H1=>∃ p5,v4=pV p5∧cS 71 #[] (fun v6 H2=>∃ a7 l7 c7,v6=lV a7 l7 c7∧∃(I8:IT) (μ8:MT),I8 [iV 0] H2∧∀ w9 H3,I8 w9 H3->∀ _g:Nat->Value,∃ n10,w9=[iV n10]∧cond (decide (n10<(l7:Int))) (((0:Int)<=n10∧n10<(l7:Int))∧∃ q11,a7=some q11∧∃ s12,aa H3 (q11.add (Int.toNat n10*1))=some (sV s12)∧∃ q13,p1=some q13∧∃ p14,aa H3 (q13.add 1)=some (pV p14)∧cS 145 #[pV p14,sV s12] (fun v15 H4=>∃ n16 n17,v15=.tuple #[iV n16,iV n17]∧cS 146 #[iV n16] (fun v18 H5=>∃ n19 n20,v18=.tuple #[iV n19,iV n20]∧cS 73 #[iV 4] (fun v21 H6=>∃ n22,v21=iV n22∧∃ J23:IT,(cond (n10 == 0) (cS 73 #[iV 1] (fun v24 H7=>∃ n25,v24=iV n25∧J23 [iV n25] H7) H6) (J23 [iV n22] H6))∧∀ w26 H8,J23 w26 H8->∀ _g:Nat->Value,∃ n27,w26=[iV n27]∧cS 73 #[iV 18] (fun v28 H9=>∃ n29,v28=iV n29∧cS 73 #[iV 18] (fun v30 H10=>∃ n31,v30=iV n31∧cS 73 #[iV 18] (fun v32 H11=>∃ n33,v32=iV n33∧cS 147 #[iV 0] (fun v34 H12=>∃ n35,v34=iV n35∧cS 147 #[iV (wW (n10+1))] (fun v36 H13=>∃ n37,v36=iV n37∧∃(I38:IT) (μ38:MT),I38 [iV 0] (H13.push (.cells #[iV n19,iV n27,iV n29,iV n31,iV n33,iV n35,iV n37] 26))∧∀ w39 H14,I38 w39 H14->∀ _g:Nat->Value,∃ n40,w39=[iV n40]∧cond (decide (n40<(7:Int))) (((0:Int)<=n40∧n40<(7:Int))∧∃ q41,(some (A0 H13.size))=some q41∧∃ n42,aa H14 (q41.add (Int.toNat n40*1))=some (iV n42)∧cS 148 #[pV p5,iV (wW (4+n10)),iV n40,iV n42] (fun v43 H15=>∃ n44,v43=iV n44∧I38 [iV (wW (n40+1))] H15∧μ38 [iV (wW (n40+1))] H15<μ38 w39 H14) H14) (cS 73 #[iV (wW (4+n10))] (fun v45 H16=>∃ n46,v45=iV n46∧cS 148 #[pV p5,iV 20,iV n10,iV n46] (fun v47 H17=>∃ n48,v47=iV n48∧I8 [iV (wW (n10+1))] H17∧μ8 [iV (wW (n10+1))] H17<μ8 w9 H3) H16) H14)) H12) H11) H10) H9) H8) H5) H4) H3) (∃(I49:IT) (μ49:MT),I49 [iV 0] (H3.push (.cells #[iV 20,iV 18,iV 18,iV 18,iV 1,iV 2,iV 3] 3))∧∀ w50 H18,I49 w50 H18->∀ _g:Nat->Value,∃ n51,w50=[iV n51]∧cond (decide (n51<(7:Int))) (((0:Int)<=n51∧n51<(7:Int))∧∃ q52,(some (A0 H3.size))=some q52∧∃ n53,aa H18 (q52.add (Int.toNat n51*1))=some (iV n53)∧cS 73 #[iV n53] (fun v54 H19=>∃ n55,v54=iV n55∧cS 148 #[pV p5,iV 19,iV n51,iV n55] (fun v56 H20=>∃ n57,v56=iV n57∧I49 [iV (wW (n51+1))] H20∧μ49 [iV (wW (n51+1))] H20<μ49 w50 H18) H19) H18) (Q (.tuple #[]) H18))) H1) H
theorem Ew {p1:Option Addr} (h:LV p1 Q H):ac PP 75 #[.pointer p1] Q H :=
 aW good Tryz.func75 rfl (Ls:=fun | 2=>some [(21,3)] | 1009=>some [(9,26)] | 10=>some [(55,3)] | 17=>some [(76,3)] | _=>none) (by kernel_rfl) h
abbrev IP:Nat:=77
def Mf (p1:Option Addr) (Q:QT) (H:ae):Prop :=
 cond (!(Option.isNone p1)) (∃ q2,p1=some q2∧∃ p3,aa H q2=some (pV p3)∧Q (.bool (!(Option.isNone p3))) H) (Q (.bool false) H)
theorem BU {p1:Option Addr} (h:Mf p1 Q H):ac PP 77 #[.pointer p1] Q H :=
 okF Tryz.func77 rfl h
abbrev Fz:Nat:=78
def LP (p1:Option Addr) (s2:ByteArray) (s3:ByteArray) (a4:Option Addr) (l4:Nat) (c4:Nat) (Q:QT) (H:ae):Prop :=
 ac PP 149 #[sV s2,.int .u8 65,.int .u8 90] (fun v5 H1=>∃ b6,v5=.bool b6∧cond (!b6) (Q (.tuple #[iV 0,iV 133]) H1) (cS 150 #[pV p1,sV s2] (fun v7 H2=>∃ b8,v7=.bool b8∧cond b8 (Q (.tuple #[iV 0,iV 131]) H2) (cS 151 #[pV p1,sV s3] (fun v9 H3=>shH (av (H3.push (.cells #[pV none] 203)) (A0 H3.size) (pV p1)) fun C1=>∃ n10 n11,v9=.tuple #[iV n10,iV n11]∧cond (n11 != 0) (Q (.tuple #[iV 0,iV n11]) H3) (Wr (H3.push (.cells #[pV none] 203)) (A0 H3.size)∧∃ J12:IT,(∃ p13,aa C1 (A0 H3.size)=some (pV p13)∧cS 152 #[.agg #[pV p13],iV n10,iV 6] (fun v14 H4=>∃ n15,v14=iV n15∧cond (decide (n15 > 1)) (cond (decide (n15<=14)) (Q (.tuple #[iV 0,iV 132]) H4) (J12 [] H4)) (J12 [] H4)) C1)∧∀ w16 H5,J12 w16 H5->∀ _g:Nat->Value,w16=[]∧∃ p17,aa H5 (A0 H3.size)=some (pV p17)∧cS 153 #[.agg #[pV p17],iV n10] (fun v18 H6=>∃ a19 l19 c19,v18=lV a19 l19 c19∧∃(I20:IT) (μ20:MT),I20 [iV 0] H6∧∀ w21 H7,I20 w21 H7->∀ _g:Nat->Value,∃ n22,w21=[iV n22]∧cond (decide (n22<(l4:Int))) (((0:Int)<=n22∧n22<(l4:Int))∧∃ q23,a4=some q23∧∃ s24,aa H7 (q23.add (Int.toNat n22*1))=some (sV s24)∧cS 154 #[sV s24] (fun v25 H8=>∃ b26,v25=.bool b26∧cond (!b26) (Q (.tuple #[iV 0,iV 133]) H8) (((0:Int)<=n22∧n22<=(c4:Int))∧cS 155 #[lV a4 (Int.toNat n22) c4,sV s24] (fun v27 H9=>∃ b28,v27=.bool b28∧cond b28 (Q (.tuple #[iV 0,iV 134]) H9) (cS 155 #[lV a19 l19 c19,sV s24] (fun v29 H10=>∃ b30,v29=.bool b30∧cond b30 (Q (.tuple #[iV 0,iV 135]) H10) (I20 [iV (wW (n22+1))] H10∧μ20 [iV (wW (n22+1))] H10<μ20 w21 H7)) H9)) H8)) H7) (cond (decide ((wW ((l19:Int)+(l4:Int))) > 32)) (Q (.tuple #[iV 0,iV 137]) H7) (cS 156 #[pV p1] (fun v31 H11=>∃ n32,v31=iV n32∧cond (decide (n32 ≥ 256)) (Q (.tuple #[iV 0,iV 138]) H11) (Q (.tuple #[iV n10,iV 0]) H11)) H7))) H5)) H2)) H1)) H
theorem B0 {p1:Option Addr}{s2:ByteArray}{s3:ByteArray}{a4:Option Addr}{l4:Nat}{c4:Nat} (h:LP p1 s2 s3 a4 l4 c4 Q H):ac PP 78 #[.pointer p1,.string s2,.string s3,.slice a4 l4 c4] Q H :=
 aW good Tryz.func78 rfl (Ls:=fun | 1012=>some [] | 14=>some [(48,3)] | _=>none) (by kernel_rfl) h
abbrev Hc:Nat:=79
def LZ (p1:Option Addr) (Q:QT) (H:ae):Prop :=
 ∃ q2,p1=some q2∧∃ p3,aa H (q2.add 1)=some (pV p3)∧∃ q4,p1=some q4∧∃ p5,aa H q4=some (pV p5)∧∃ q6,p1=some q6∧∃ p7,aa H q6=some (pV p7)∧cS 34 #[pV p3] (fun v8 H1=>∃ n9,v8=iV n9∧((aa H1 q6=some (pV p7)∧True)∧((aa H1 q4=some (pV p5)∧True)∧True))∧cS 44 #[pV p5] (fun v10 H2=>∃ p11,v10=pV p11∧((aa H2 q6=some (pV p7)∧True)∧True)∧cS 60 #[pV p11] (fun v12 H3=>∃ n13,v12=iV n13∧((aa H3 q6=some (pV p7)∧True)∧True)∧cS 63 #[pV p7] (fun v14 H4=>∃ a15 l15 c15,v14=lV a15 l15 c15∧True∧True∧Q (pV (some (A0 H4.size))) (H4.push (.cells #[pV p1,iV n9,iV n13,iV (l15:Int)] 207))) H3) H2) H1) H
theorem Dr {p1:Option Addr} (h:LZ p1 Q H):ac PP 79 #[.pointer p1] Q H :=
 okF Tryz.func79 rfl h
abbrev Kh:Nat:=80
def L2 (p1:Option Addr) (s2:ByteArray) (n3:Int) (a4:Option Addr) (l4:Nat) (_c4:Nat) (Q:QT) (H:ae):Prop :=
 ac PP 157 #[pV p1,sV s2] (fun v5 H1=>∃ n6 n7,v5=.tuple #[iV n6,iV n7]∧cond (n7 != 0) (Q (.tuple #[iV 0,iV n7]) H1) (∃(I8:IT) (μ8:MT),I8 [lV none 0 0,iV 0] H1∧∀ w9 H2,I8 w9 H2->∀ _g:Nat->Value,∃ a10 l10 c10 n11,w9=[lV a10 l10 c10,iV n11]∧cond (decide (n11<(l4:Int))) (((0:Int)<=n11∧n11<(l4:Int))∧∃ q12,a4=some q12∧∃ s13,aa H2 (q12.add (Int.toNat n11*1))=some (sV s13)∧cS 157 #[pV p1,sV s13] (fun v14 H3=>∃ n15 n16,v14=.tuple #[iV n15,iV n16]∧cond (n16 != 0) (Q (.tuple #[iV 0,iV n16]) H3) (aK PP (Builtin.append_ #[30,30] 30 #[lV a10 l10 c10,lV (some (A0 H3.size)) 1 1]) (fun v17 H4=>∃ a18 l18 c18,v17=lV a18 l18 c18∧I8 [lV a18 l18 c18,iV (wW (n11+1))] H4∧μ8 [lV a18 l18 c18,iV (wW (n11+1))] H4<μ8 w9 H2) (H3.push (.cells #[iV n15] 26)))) H2) (cS 158 #[pV p1,lV a10 l10 c10] (fun v19 H5=>∃ n20 n21,v19=.tuple #[iV n20,iV n21]∧cond (n21 != 0) (Q (.tuple #[iV 0,iV n21]) H5) (∃ q22,p1=some q22∧∃ p23,aa H5 q22=some (pV p23)∧cS 156 #[pV p23] (fun v24 H6=>∃ n25,v24=iV n25∧cS 73 #[iV 18] (fun v26 H7=>∃ n27,v26=iV n27∧cS 73 #[iV n3] (fun v28 H8=>∃ n29,v28=iV n29∧cS 147 #[iV 0] (fun v30 H9=>∃ n31,v30=iV n31∧cS 147 #[iV (wW (n25+1))] (fun v32 H10=>∃ n33,v32=iV n33∧cS 159 #[pV p1,iV 12,lV (some (A0 H10.size)) 7 7] (fun v34 H11=>∃ n35 n36,v34=.tuple #[iV n35,iV n36]∧cond (n36 != 0) (Q (.tuple #[iV 0,iV n36]) H11) (∃ J37:IT,(∃ q38,p1=some q38∧∃ p39,aa H11 q38=some (pV p39)∧∃ q40,p1=some q40∧∃ p41,aa H11 q40=some (pV p41)∧(cS 161 #[.agg #[pV p41],iV 0] (fun v42 H12=>∃ n43,v42=iV n43∧((aa H12 q38=some (pV p39)∧True)∧True)∧(cS 160 #[.agg #[pV p39],iV n43] (fun v44 H13=>∃ a45 l45 c45,v44=lV a45 l45 c45∧True∧True∧aK PP (Builtin.append_ #[30,30] 30 #[lV a45 l45 c45,lV (some (A0 H13.size)) 1 1]) (fun v46 H14=>∃ a47 l47 c47,v46=lV a47 l47 c47∧True∧cS 158 #[pV p1,lV a47 l47 c47] (fun v48 H15=>∃ n49 n50,v48=.tuple #[iV n49,iV n50]∧True∧J37 [iV n50,iV n49] H15) H14) (H13.push (.cells #[iV n35] 26))) H12)∧(((aa (H12.push (.cells #[iV n35] 26)) q38=some (pV p39)∧True)∧True)∧cS 160 #[.agg #[pV p39],iV n43] (fun v51 H16=>∃ a52 l52 c52,v51=lV a52 l52 c52∧True∧aK PP (Builtin.append_ #[30,30] 30 #[lV a52 l52 c52,lV (some (A0 H12.size)) 1 1]) (fun v53 H17=>∃ a54 l54 c54,v53=lV a54 l54 c54∧True∧cS 158 #[pV p1,lV a54 l54 c54] (fun v55 H18=>∃ n56 n57,v55=.tuple #[iV n56,iV n57]∧True∧J37 [iV n57,iV n56] H18) H17) H16) (H12.push (.cells #[iV n35] 26)))) H11)∧(((aa (H11.push (.cells #[iV n35] 26)) q40=some (pV p41)∧True)∧((aa (H11.push (.cells #[iV n35] 26)) q38=some (pV p39)∧True)∧True))∧cS 161 #[.agg #[pV p41],iV 0] (fun v58 H19=>∃ n59,v58=iV n59∧((aa H19 q38=some (pV p39)∧True)∧True)∧cS 160 #[.agg #[pV p39],iV n59] (fun v60 H20=>∃ a61 l61 c61,v60=lV a61 l61 c61∧True∧aK PP (Builtin.append_ #[30,30] 30 #[lV a61 l61 c61,lV (some (A0 H11.size)) 1 1]) (fun v62 H21=>∃ a63 l63 c63,v62=lV a63 l63 c63∧True∧cS 158 #[pV p1,lV a63 l63 c63] (fun v64 H22=>∃ n65 n66,v64=.tuple #[iV n65,iV n66]∧True∧J37 [iV n66,iV n65] H22) H21) H20) H19) (H11.push (.cells #[iV n35] 26))))∧∀ w67 H23,J37 w67 H23->∀ _g:Nat->Value,∃ n68 n69,w67=[iV n68,iV n69]∧cond (n68 != 0) (Q (.tuple #[iV 0,iV n68]) H23) (∃ q70,p1=some q70∧∃ p71,aa H23 q70=some (pV p71)∧∃ q72,p71=some q72∧∃ p73,aa H23 q72=some (pV p73)∧cS 162 #[pV p73,iV 0,iV n69] (fun v74 H24=>∃ n75,v74=iV n75∧cS 89 #[iV n35] (fun v76 H25=>∃ n77 n78,v76=.tuple #[iV n77,iV n78]∧Q (.tuple #[iV n77,iV n78]) H25) H24) H23))) (H10.push (.cells #[iV n6,iV n29,iV n20,iV n27,iV n27,iV n31,iV n33] 26))) H9) H8) H7) H6) H5)) H2))) H
theorem EZ {p1:Option Addr}{s2:ByteArray}{n3:Int}{a4:Option Addr}{l4:Nat}{c4:Nat} (h:L2 p1 s2 n3 a4 l4 c4 Q H):ac PP 80 #[.pointer p1,.string s2,.int .i64 n3,.slice a4 l4 c4] Q H :=
 aW good Tryz.func80 rfl (Ls:=fun | 6=>some [(12,30),(33,3)] | 1022=>some [(11,33),(21,26)] | _=>none) (by kernel_rfl) h
abbrev Kl:Nat:=81
def LE (p1:Option Addr) (n2:Int) (Q:QT) (H:ae):Prop :=
 ∃ q3,p1=some q3∧∃ p4,aa H q3=some (pV p4)∧∃ q5,p4=some q5∧∃ p6,aa H q5=some (pV p6)∧∃ q7,p1=some q7∧∃ n8,aa H (q7.add 3)=some (iV n8)∧cS 63 #[pV p6] (fun v9 H1=>∃ a10 l10 c10,v9=lV a10 l10 c10∧((aa H1 (q7.add 3)=some (iV n8)∧True)∧True)∧cS 8 #[pV p6,iV (wW ((l10:Int)-n8))] (fun v11 H2=>∃ n12,v11=iV n12∧True∧cond (n2 == 0) (Q (iV n2) H2) (∃ q13,p1=some q13∧∃ p14,aa H2 q13=some (pV p14)∧∃ q15,p14=some q15∧∃ p16,aa H2 (q15.add 1)=some (pV p16)∧∃ q17,p1=some q17∧∃ n18,aa H2 (q17.add 1)=some (iV n18)∧cS 163 #[pV p16,iV n18] (fun v19 H3=>∃ n20,v19=iV n20∧True∧cond (n2 != 24) (∃ q21,p1=some q21∧∃ n22,aa H3 (q21.add 2)=some (iV n22)∧cS 44 #[pV p6] (fun v23 H4=>∃ p24,v23=pV p24∧((aa H4 (q21.add 2)=some (iV n22)∧True)∧True)∧cS 45 #[pV p24,iV n22] (fun v25 H5=>∃ n26,v25=iV n26∧True∧Q (iV n2) H5) H4) H3) (Q (iV n2) H3)) H2)) H1) H
theorem Ch {p1:Option Addr}{n2:Int} (h:LE p1 n2 Q H):ac PP 81 #[.pointer p1,.int .i64 n2] Q H :=
 okF Tryz.func81 rfl h
abbrev BW:Nat:=150
def GW (p1:Option Addr) (s2:ByteArray) (Q:QT) (H:ae):Prop :=
 ac PP 151 #[pV p1,sV s2] (fun v3 H1=>∃ n4 n5,v3=.tuple #[iV n4,iV n5]∧cond (n5 == 0) (Q (.bool true) H1) (cS 270 #[pV p1] (fun v6 H2=>∃ a7 l7 c7,v6=lV a7 l7 c7∧cS 155 #[lV a7 l7 c7,sV s2] (fun v8 H3=>∃ b9,v8=.bool b9∧Q (.bool b9) H3) H2) H1)) H
theorem yA {p1:Option Addr}{s2:ByteArray} (h:GW p1 s2 Q H):ac PP 150 #[.pointer p1,.string s2] Q H :=
 okF Tryz.func150 rfl h
abbrev Dm:Nat:=151
def Hi (p1:Option Addr) (s2:ByteArray) (Q:QT) (H:ae):Prop :=
 ac PP 77 #[pV p1] (fun v3 H1=>shH (av (H1.push (.cells #[pV none] 203)) (A0 H1.size) (pV p1)) fun C1=>∃ b4,v3=.bool b4∧cond (!b4) (Q (.tuple #[iV 0,iV 2]) H1) (Wr (H1.push (.cells #[pV none] 203)) (A0 H1.size)∧∃ p5,aa C1 (A0 H1.size)=some (pV p5)∧cS 161 #[.agg #[pV p5],iV 0] (fun v6 H2=>∃ n7,v6=iV n7∧∃ p8,aa H2 (A0 H1.size)=some (pV p8)∧cS 271 #[.agg #[pV p8],iV n7] (fun v9 H3=>∃ n10,v9=iV n10∧∃(I11:IT) (μ11:MT),I11 [iV 0] H3∧∀ w12 H4,I11 w12 H4->∀ _g:Nat->Value,∃ n13,w12=[iV n13]∧cond (decide (n13<n10)) (∃ p14,aa H4 (A0 H1.size)=some (pV p14)∧cS 272 #[.agg #[pV p14],iV n7,iV n13] (fun v15 H5=>∃ n16,v15=iV n16∧∃ p17,aa H5 (A0 H1.size)=some (pV p17)∧cS 273 #[.agg #[pV p17],iV n16,iV 0] (fun v18 H6=>∃ s19,v18=sV s19∧cond (cp s19 s2) (Q (.tuple #[iV n16,iV 0]) H6) (I11 [iV (wW (n13+1))] H6∧μ11 [iV (wW (n13+1))] H6<μ11 w12 H4)) H5) H4) (Q (.tuple #[iV 0,iV 130]) H4)) H2) C1)) H
theorem zJ {p1:Option Addr}{s2:ByteArray} (h:Hi p1 s2 Q H):ac PP 151 #[.pointer p1,.string s2] Q H :=
 aW good Tryz.func151 rfl (Ls:=fun | 6=>some [(20,3)] | _=>none) (by kernel_rfl) h
abbrev EV:Nat:=152
def Kj (p1:Option Addr) (n2:Int) (n3:Int) (Q:QT) (H:ae):Prop :=
 ∃ p4,aa (H.push (.cells #[pV p1] 203)) (A0 H.size)=some (pV p4)∧cS 275 #[.agg #[pV p4],iV n2,iV n3] (fun v5 H1=>∃ n6,v5=iV n6∧cS 274 #[iV n6] (fun v7 H2=>∃ n8 n9,v7=.tuple #[iV n8,iV n9]∧Q (iV n8) H2) H1) (H.push (.cells #[pV p1] 203))
theorem xk {p1:Option Addr}{n2:Int}{n3:Int} (h:Kj p1 n2 n3 Q H):ac PP 152 #[.agg #[.pointer p1],.int .i64 n2,.int .i64 n3] Q H :=
 okF Tryz.func152 rfl h
abbrev wV:Nat:=153
def BQ (p1:Option Addr) (n2:Int) (Q:QT) (H:ae):Prop :=
 cond (n2 == 0) (Q (lV none 0 0) (H.push (.cells #[pV p1] 203))) (∃ p3,aa (H.push (.cells #[pV p1] 203)) (A0 H.size)=some (pV p3)∧∃ p4,aa (H.push (.cells #[pV p1] 203)) (A0 H.size)=some (pV p4)∧∃ p5,aa (H.push (.cells #[pV p1] 203)) (A0 H.size)=some (pV p5)∧∃ p6,aa (H.push (.cells #[pV p1] 203)) (A0 H.size)=some (pV p6)∧cS 276 #[.agg #[pV p4],iV n2] (fun v7 H1=>∃ n8,v7=iV n8∧((aa H1 (A0 H.size)=some (pV p6)∧True)∧((aa H1 (A0 H.size)=some (pV p5)∧True)∧((aa H1 (A0 H.size)=some (pV p3)∧True)∧True)))∧cS 153 #[.agg #[pV p3],iV n8] (fun v9 H2=>∃ a10 l10 c10,v9=lV a10 l10 c10∧((aa H2 (A0 H.size)=some (pV p6)∧True)∧((aa H2 (A0 H.size)=some (pV p5)∧True)∧True))∧cS 272 #[.agg #[pV p6],iV n2,iV 2] (fun v11 H3=>∃ n12,v11=iV n12∧((aa H3 (A0 H.size)=some (pV p5)∧True)∧True)∧cS 277 #[.agg #[pV p5],iV n12] (fun v13 H4=>∃ a14 l14 c14,v13=lV a14 l14 c14∧True∧aK PP (Builtin.append_ #[61,61] 61 #[lV a10 l10 c10,lV a14 l14 c14]) (fun v15 H5=>∃ a16 l16 c16,v15=lV a16 l16 c16∧True∧Q (lV a16 l16 c16) H5) H4) H3) H2) H1) (H.push (.cells #[pV p1] 203)))
theorem rY {p1:Option Addr}{n2:Int} (h:BQ p1 n2 Q H):ac PP 153 #[.agg #[.pointer p1],.int .i64 n2] Q H :=
 okF Tryz.func153 rfl h
abbrev vt:Nat:=156
def HK (p1:Option Addr) (Q:QT) (H:ae):Prop :=
 ac PP 77 #[pV p1] (fun v2 H1=>shH (av (H1.push (.cells #[pV none] 203)) (A0 H1.size) (pV p1)) fun C1=>∃ b3,v2=.bool b3∧cond (!b3) (Q (iV 0) H1) (Wr (H1.push (.cells #[pV none] 203)) (A0 H1.size)∧∃ p4,aa C1 (A0 H1.size)=some (pV p4)∧∃ p5,aa C1 (A0 H1.size)=some (pV p5)∧cS 161 #[.agg #[pV p5],iV 0] (fun v6 H2=>∃ n7,v6=iV n7∧((aa H2 (A0 H1.size)=some (pV p4)∧True)∧True)∧cS 271 #[.agg #[pV p4],iV n7] (fun v8 H3=>∃ n9,v8=iV n9∧True∧Q (iV n9) H3) H2) C1)) H
theorem yW {p1:Option Addr} (h:HK p1 Q H):ac PP 156 #[.pointer p1] Q H :=
 okF Tryz.func156 rfl h
abbrev DL:Nat:=157
def HT (p1:Option Addr) (s2:ByteArray) (Q:QT) (H:ae):Prop :=
 ∃ q3,p1=some q3∧∃ p4,aa H q3=some (pV p4)∧∃ q5,p4=some q5∧∃ p6,aa H (q5.add 1)=some (pV p6)∧cS 145 #[pV p6,sV s2] (fun v7 H1=>∃ n8 n9,v7=.tuple #[iV n8,iV n9]∧cond (n9 != 0) (Q (.tuple #[iV 0,iV n9]) H1) (cS 146 #[iV n8] (fun v10 H2=>∃ n11 n12,v10=.tuple #[iV n11,iV n12]∧Q (.tuple #[iV n11,iV n12]) H2) H1)) H
theorem z8 {p1:Option Addr}{s2:ByteArray} (h:HT p1 s2 Q H):ac PP 157 #[.pointer p1,.string s2] Q H :=
 okF Tryz.func157 rfl h
abbrev uO:Nat:=158
def KB (p1:Option Addr) (a2:Option Addr) (l2:Nat) (c2:Nat) (Q:QT) (H:ae):Prop :=
 cond ((l2:Int) == 0) (cS 73 #[iV 18] (fun v3 H1=>∃ n4,v3=iV n4∧Q (.tuple #[iV n4,iV 0]) H1) H) (cS 159 #[pV p1,iV 11,lV a2 l2 c2] (fun v5 H2=>∃ n6 n7,v5=.tuple #[iV n6,iV n7]∧Q (.tuple #[iV n6,iV n7]) H2) H)
theorem xL {p1:Option Addr}{a2:Option Addr}{l2:Nat}{c2:Nat} (h:KB p1 a2 l2 c2 Q H):ac PP 158 #[.pointer p1,.slice a2 l2 c2] Q H :=
 okF Tryz.func158 rfl h
abbrev Bp:Nat:=159
def Gk (p1:Option Addr) (n2:Int) (a3:Option Addr) (l3:Nat) (_c3:Nat) (Q:QT) (H:ae):Prop :=
 ∃ q4,p1=some q4∧∃ p5,aa H q4=some (pV p5)∧∃ q6,p5=some q6∧∃ p7,aa H q6=some (pV p7)∧cS 73 #[iV n2] (fun v8 H1=>∃ n9,v8=iV n9∧((aa H1 q6=some (pV p7)∧True)∧((aa H1 q4=some (pV p5)∧True)∧True))∧cS 279 #[pV p7,iV n9,iV (l3:Int),iV 0] (fun v10 H2=>∃ n11 n12,v10=.tuple #[iV n11,iV n12]∧True∧cond (n12 != 0) (Q (.tuple #[iV 0,iV n12]) H2) (cS 89 #[iV n11] (fun v13 H3=>∃ n14 n15,v13=.tuple #[iV n14,iV n15]∧∃(I16:IT) (μ16:MT),I16 [iV 0] H3∧∀ w17 H4,I16 w17 H4->∀ _g:Nat->Value,∃ n18,w17=[iV n18]∧cond (decide (n18<(l3:Int))) (((0:Int)<=n18∧n18<(l3:Int))∧∃ q19,a3=some q19∧∃ n20,aa H4 (q19.add (Int.toNat n18*1))=some (iV n20)∧∃ q21,p1=some q21∧∃ p22,aa H4 q21=some (pV p22)∧∃ q23,p22=some q23∧∃ p24,aa H4 q23=some (pV p24)∧cS 44 #[pV p24] (fun v25 H5=>∃ p26,v25=pV p26∧cS 148 #[pV p26,iV n14,iV n18,iV n20] (fun v27 H6=>∃ n28,v27=iV n28∧I16 [iV (wW (n18+1))] H6∧μ16 [iV (wW (n18+1))] H6<μ16 w17 H4) H5) H4) (∃ q29,p1=some q29∧∃ p30,aa H4 q29=some (pV p30)∧∃ q31,p30=some q31∧∃ p32,aa H4 q31=some (pV p32)∧cS 74 #[pV p32,lV (some (A0 H4.size)) 1 1] (fun v33 H7=>∃ n34,v33=iV n34∧Q (.tuple #[iV n11,iV n34]) H7) (H4.push (.cells #[iV n11] 26)))) H2)) H1) H
theorem xR {p1:Option Addr}{n2:Int}{a3:Option Addr}{l3:Nat}{c3:Nat} (h:Gk p1 n2 a3 l3 c3 Q H):ac PP 159 #[.pointer p1,.int .i64 n2,.slice a3 l3 c3] Q H :=
 aW good Tryz.func159 rfl (Ls:=fun | 6=>some [(40,3)] | _=>none) (by kernel_rfl) h
abbrev CB:Nat:=160
def Ir (p1:Option Addr) (n2:Int) (Q:QT) (H:ae):Prop :=
 ∃ p3,aa (H.push (.cells #[pV p1] 203)) (A0 H.size)=some (pV p3)∧cS 271 #[.agg #[pV p3],iV n2] (fun v4 H1=>∃ n5,v4=iV n5∧∃(I6:IT) (μ6:MT),I6 [lV none 0 0,iV 0] H1∧∀ w7 H2,I6 w7 H2->∀ _g:Nat->Value,∃ a8 l8 c8 n9,w7=[lV a8 l8 c8,iV n9]∧cond (decide (n9<n5)) (∃ p10,aa H2 (A0 H.size)=some (pV p10)∧cS 275 #[.agg #[pV p10],iV n2,iV n9] (fun v11 H3=>∃ n12,v11=iV n12∧aK PP (Builtin.append_ #[30,30] 30 #[lV a8 l8 c8,lV (some (A0 H3.size)) 1 1]) (fun v13 H4=>∃ a14 l14 c14,v13=lV a14 l14 c14∧I6 [lV a14 l14 c14,iV (wW (n9+1))] H4∧μ6 [lV a14 l14 c14,iV (wW (n9+1))] H4<μ6 w7 H2) (H3.push (.cells #[iV n12] 26))) H2) (Q (lV a8 l8 c8) H2)) (H.push (.cells #[pV p1] 203))
theorem zf {p1:Option Addr}{n2:Int} (h:Ir p1 n2 Q H):ac PP 160 #[.agg #[.pointer p1],.int .i64 n2] Q H :=
 aW good Tryz.func160 rfl (Ls:=fun | 3=>some [(5,30),(10,3)] | _=>none) (by kernel_rfl) h
abbrev Eh:Nat:=161
def Iz (p1:Option Addr) (n2:Int) (Q:QT) (H:ae):Prop :=
 ∃ p3,aa (H.push (.cells #[pV p1] 203)) (A0 H.size)=some (pV p3)∧cS 272 #[.agg #[pV p3],iV 19,iV n2] (fun v4 H1=>∃ n5,v4=iV n5∧Q (iV n5) H1) (H.push (.cells #[pV p1] 203))
theorem Aq {p1:Option Addr}{n2:Int} (h:Iz p1 n2 Q H):ac PP 161 #[.agg #[.pointer p1],.int .i64 n2] Q H :=
 okF Tryz.func161 rfl h
abbrev Ep:Nat:=220
def Fo (p1:Option Addr) (n2:Int) (Q:QT) (H:ae):Prop :=
 ac PP 77 #[pV p1] (fun v3 H1=>∃ b4,v3=.bool b4∧cond (!b4) (Q (.tuple #[iV 0,iV 2]) H1) (cS 13 #[iV n2] (fun v5 H2=>∃ n6,v5=iV n6∧cond (n6 == 1) (Q (.tuple #[iV 8,iV 0]) H2) (cond (n6 == 2) (Q (.tuple #[iV 9,iV 0]) H2) (cond (n6 == 3) (cS 89 #[iV n2] (fun v7 H3=>∃ n8 n9,v7=.tuple #[iV n8,iV n9]∧∃ q10,p1=some q10∧∃ p11,aa H3 q10=some (pV p11)∧cS 44 #[pV p11] (fun v12 H4=>∃ p13,v12=pV p13∧cS 54 #[pV p13,iV n8] (fun v14 H5=>∃ n15 n16,v14=.tuple #[iV n15,iV n16]∧cond (n16 != 0) (Q (.tuple #[iV 0,iV n16]) H5) (cS 89 #[iV n15] (fun v17 H6=>∃ n18 n19,v17=.tuple #[iV n18,iV n19]∧Q (.tuple #[iV n18,iV n19]) H6) H5)) H4) H3) H2) (Q (.tuple #[iV 0,iV 10]) H2)))) H1)) H
theorem yk {p1:Option Addr}{n2:Int} (h:Fo p1 n2 Q H):ac PP 220 #[.pointer p1,.int .i64 n2] Q H :=
 okF Tryz.func220 rfl h
abbrev BM:Nat:=221
def GN (p1:Option Addr) (n2:Int) (Q:QT) (H:ae):Prop :=
 ac PP 311 #[pV p1,iV n2] (fun v3 H1=>∃ p4:Option Addr,shH (av (H1.push (.cells #[pV none] 203)) (A0 H1.size) (pV p4)) fun C1=>∃ n5,v3=.tuple #[.agg #[pV p4],iV n5]∧Wr (H1.push (.cells #[pV none] 203)) (A0 H1.size)∧cond (n5 != 0) (Q (.tuple #[iV 0,iV n5]) C1) (∃ p6,aa C1 (A0 H1.size)=some (pV p6)∧cS 276 #[.agg #[pV p6],iV n2] (fun v7 H2=>∃ n8,v7=iV n8∧Q (.tuple #[iV n8,iV 0]) H2) C1)) H
theorem yu {p1:Option Addr}{n2:Int} (h:GN p1 n2 Q H):ac PP 221 #[.pointer p1,.int .i64 n2] Q H :=
 okF Tryz.func221 rfl h
abbrev De:Nat:=270
def IX (p1:Option Addr) (Q:QT) (H:ae):Prop :=
 ac PP 77 #[pV p1] (fun v2 H1=>shH (av (H1.push (.cells #[pV none] 203)) (A0 H1.size) (pV p1)) fun C1=>∃ b3,v2=.bool b3∧cond (!b3) (Q (lV none 0 0) H1) (Wr (H1.push (.cells #[pV none] 203)) (A0 H1.size)∧∃ p4,aa C1 (A0 H1.size)=some (pV p4)∧cS 161 #[.agg #[pV p4],iV 1] (fun v5 H2=>∃ n6,v5=iV n6∧∃ p7,aa H2 (A0 H1.size)=some (pV p7)∧cS 271 #[.agg #[pV p7],iV n6] (fun v8 H3=>∃ n9,v8=iV n9∧∃(I10:IT) (μ10:MT),I10 [lV none 0 0,iV 0] H3∧∀ w11 H4,I10 w11 H4->∀ _g:Nat->Value,∃ a12 l12 c12 n13,w11=[lV a12 l12 c12,iV n13]∧cond (decide (n13<(wW (Int.tdiv n9 2)))) (∃ p14,aa H4 (A0 H1.size)=some (pV p14)∧cS 273 #[.agg #[pV p14],iV n6,iV (wW (2*n13))] (fun v15 H5=>∃ s16,v15=sV s16∧aK PP (Builtin.append_ #[61,61] 61 #[lV a12 l12 c12,lV (some (A0 H5.size)) 1 1]) (fun v17 H6=>∃ a18 l18 c18,v17=lV a18 l18 c18∧I10 [lV a18 l18 c18,iV (wW (n13+1))] H6∧μ10 [lV a18 l18 c18,iV (wW (n13+1))] H6<μ10 w11 H4) (H5.push (.cells #[sV s16] 9))) H4) (Q (lV a12 l12 c12) H4)) H2) C1)) H
theorem zF {p1:Option Addr} (h:IX p1 Q H):ac PP 270 #[.pointer p1] Q H :=
 aW good Tryz.func270 rfl (Ls:=fun | 7=>some [(5,61),(18,3)] | _=>none) (by kernel_rfl) h
abbrev EO:Nat:=271
def Kd (p1:Option Addr) (n2:Int) (Q:QT) (H:ae):Prop :=
 ∃ p3,aa (H.push (.cells #[pV p1] 203)) (A0 H.size)=some (pV p3)∧∃ q4,p3=some q4∧∃ p5,aa (H.push (.cells #[pV p1] 203)) q4=some (pV p5)∧cS 44 #[pV p5] (fun v6 H1=>∃ p7,v6=pV p7∧cS 55 #[pV p7,iV n2] (fun v8 H2=>∃ n9 n10 n11,v8=.tuple #[iV n9,iV n10,iV n11]∧Q (iV n9) H2) H1) (H.push (.cells #[pV p1] 203))
theorem AP {p1:Option Addr}{n2:Int} (h:Kd p1 n2 Q H):ac PP 271 #[.agg #[.pointer p1],.int .i64 n2] Q H :=
 okF Tryz.func271 rfl h
abbrev wR:Nat:=272
def FV (p1:Option Addr) (n2:Int) (n3:Int) (Q:QT) (H:ae):Prop :=
 ∃ p4,aa (H.push (.cells #[pV p1] 203)) (A0 H.size)=some (pV p4)∧cS 275 #[.agg #[pV p4],iV n2,iV n3] (fun v5 H1=>∃ n6,v5=iV n6∧cS 89 #[iV n6] (fun v7 H2=>∃ n8 n9,v7=.tuple #[iV n8,iV n9]∧Q (iV n8) H2) H1) (H.push (.cells #[pV p1] 203))
theorem yM {p1:Option Addr}{n2:Int}{n3:Int} (h:FV p1 n2 n3 Q H):ac PP 272 #[.agg #[.pointer p1],.int .i64 n2,.int .i64 n3] Q H :=
 okF Tryz.func272 rfl h
abbrev Cc:Nat:=273
def Hv (p1:Option Addr) (n2:Int) (n3:Int) (Q:QT) (H:ae):Prop :=
 ∃ p4,aa (H.push (.cells #[pV p1] 203)) (A0 H.size)=some (pV p4)∧cS 275 #[.agg #[pV p4],iV n2,iV n3] (fun v5 H1=>∃ n6,v5=iV n6∧cS 336 #[iV n6] (fun v7 H2=>∃ n8 n9,v7=.tuple #[iV n8,iV n9]∧cond (n9 != 0) (Q (sV (⟨#[]⟩:ByteArray)) H2) (∃ p10,aa H2 (A0 H.size)=some (pV p10)∧∃ q11,p10=some q11∧∃ p12,aa H2 (q11.add 1)=some (pV p12)∧cS 337 #[pV p12,iV n8] (fun v13 H3=>∃ s14 n15,v13=.tuple #[sV s14,iV n15]∧Q (sV s14) H3) H2)) H1) (H.push (.cells #[pV p1] 203))
theorem yR {p1:Option Addr}{n2:Int}{n3:Int} (h:Hv p1 n2 n3 Q H):ac PP 273 #[.agg #[.pointer p1],.int .i64 n2,.int .i64 n3] Q H :=
 okF Tryz.func273 rfl h
abbrev DD:Nat:=275
def HM (p1:Option Addr) (n2:Int) (n3:Int) (Q:QT) (H:ae):Prop :=
 ∃ p4,aa (H.push (.cells #[pV p1] 203)) (A0 H.size)=some (pV p4)∧∃ q5,p4=some q5∧∃ p6,aa (H.push (.cells #[pV p1] 203)) q5=some (pV p6)∧cS 44 #[pV p6] (fun v7 H1=>∃ p8,v7=pV p8∧cS 57 #[pV p8,iV n2,iV n3] (fun v9 H2=>∃ n10 n11,v9=.tuple #[iV n10,iV n11]∧Q (iV n10) H2) H1) (H.push (.cells #[pV p1] 203))
theorem zY {p1:Option Addr}{n2:Int}{n3:Int} (h:HM p1 n2 n3 Q H):ac PP 275 #[.agg #[.pointer p1],.int .i64 n2,.int .i64 n3] Q H :=
 okF Tryz.func275 rfl h
abbrev Fe:Nat:=276
def Kx (p1:Option Addr) (n2:Int) (Q:QT) (H:ae):Prop :=
 ∃ p3,aa (H.push (.cells #[pV p1] 203)) (A0 H.size)=some (pV p3)∧cS 272 #[.agg #[pV p3],iV n2,iV 1] (fun v4 H1=>∃ n5,v4=iV n5∧cond (n5 != 1) (Q (iV n5) H1) (Q (iV 0) H1)) (H.push (.cells #[pV p1] 203))
theorem xD {p1:Option Addr}{n2:Int} (h:Kx p1 n2 Q H):ac PP 276 #[.agg #[.pointer p1],.int .i64 n2] Q H :=
 okF Tryz.func276 rfl h
abbrev uP:Nat:=277
def Gh (p1:Option Addr) (n2:Int) (Q:QT) (H:ae):Prop :=
 ∃ p3,aa (H.push (.cells #[pV p1] 203)) (A0 H.size)=some (pV p3)∧cS 271 #[.agg #[pV p3],iV n2] (fun v4 H1=>∃ n5,v4=iV n5∧∃(I6:IT) (μ6:MT),I6 [lV none 0 0,iV 0] H1∧∀ w7 H2,I6 w7 H2->∀ _g:Nat->Value,∃ a8 l8 c8 n9,w7=[lV a8 l8 c8,iV n9]∧cond (decide (n9<n5)) (∃ p10,aa H2 (A0 H.size)=some (pV p10)∧cS 273 #[.agg #[pV p10],iV n2,iV n9] (fun v11 H3=>∃ s12,v11=sV s12∧aK PP (Builtin.append_ #[61,61] 61 #[lV a8 l8 c8,lV (some (A0 H3.size)) 1 1]) (fun v13 H4=>∃ a14 l14 c14,v13=lV a14 l14 c14∧I6 [lV a14 l14 c14,iV (wW (n9+1))] H4∧μ6 [lV a14 l14 c14,iV (wW (n9+1))] H4<μ6 w7 H2) (H3.push (.cells #[sV s12] 9))) H2) (Q (lV a8 l8 c8) H2)) (H.push (.cells #[pV p1] 203))
theorem xN {p1:Option Addr}{n2:Int} (h:Gh p1 n2 Q H):ac PP 277 #[.agg #[.pointer p1],.int .i64 n2] Q H :=
 aW good Tryz.func277 rfl (Ls:=fun | 3=>some [(5,61),(10,3)] | _=>none) (by kernel_rfl) h
abbrev Cw:Nat:=307
def Ii (p1:Option Addr) (n2:Int) (Q:QT) (H:ae):Prop :=
 ac PP 311 #[pV p1,iV n2] (fun v3 H1=>∃ p4:Option Addr,shH (av (H1.push (.cells #[pV none] 203)) (A0 H1.size) (pV p4)) fun C1=>∃ n5,v3=.tuple #[.agg #[pV p4],iV n5]∧Wr (H1.push (.cells #[pV none] 203)) (A0 H1.size)∧cond (n5 != 0) (Q (.tuple #[iV 0,iV n5]) C1) (∃ p6,aa C1 (A0 H1.size)=some (pV p6)∧cS 152 #[.agg #[pV p6],iV n2,iV 6] (fun v7 H2=>∃ n8,v7=iV n8∧Q (.tuple #[iV n8,iV 0]) H2) C1)) H
theorem zb {p1:Option Addr}{n2:Int} (h:Ii p1 n2 Q H):ac PP 307 #[.pointer p1,.int .i64 n2] Q H :=
 okF Tryz.func307 rfl h
abbrev D9:Nat:=308
def Iv (p1:Option Addr) (n2:Int) (Q:QT) (H:ae):Prop :=
 ac PP 311 #[pV p1,iV n2] (fun v3 H1=>∃ p4:Option Addr,shH (av (H1.push (.cells #[pV none] 203)) (A0 H1.size) (pV p4)) fun C1=>∃ n5,v3=.tuple #[.agg #[pV p4],iV n5]∧Wr (H1.push (.cells #[pV none] 203)) (A0 H1.size)∧cond (n5 != 0) (Q (.tuple #[lV none 0 0,iV n5]) C1) (∃ p6,aa C1 (A0 H1.size)=some (pV p6)∧cS 153 #[.agg #[pV p6],iV n2] (fun v7 H2=>∃ a8 l8 c8,v7=lV a8 l8 c8∧Q (.tuple #[lV a8 l8 c8,iV 0]) H2) C1)) H
theorem Al {p1:Option Addr}{n2:Int} (h:Iv p1 n2 Q H):ac PP 308 #[.pointer p1,.int .i64 n2] Q H :=
 okF Tryz.func308 rfl h
abbrev By:Nat:=311
def KQ (p1:Option Addr) (n2:Int) (Q:QT) (H:ae):Prop :=
 ac PP 77 #[pV p1] (fun v3 H1=>shH (av (H1.push (.cells #[pV none] 203)) (A0 H1.size) (pV p1)) fun C1=>∃ b4,v3=.bool b4∧cond (!b4) (Wr H1 (A0 H.size)∧∃ p5,aa (av H1 (A0 H.size) (pV none)) (A0 H.size)=some (pV p5)∧Q (.tuple #[.agg #[pV p5],iV 2]) (av H1 (A0 H.size) (pV none))) (Wr (H1.push (.cells #[pV none] 203)) (A0 H1.size)∧∃ p6,aa C1 (A0 H1.size)=some (pV p6)∧cS 361 #[.agg #[pV p6],iV n2] (fun v7 H2=>∃ b8,v7=.bool b8∧cond (!b8) (Wr H2 (A0 H.size)∧∃ p9,aa (av H2 (A0 H.size) (pV none)) (A0 H.size)=some (pV p9)∧Q (.tuple #[.agg #[pV p9],iV 130]) (av H2 (A0 H.size) (pV none))) (∃ p10,aa H2 (A0 H1.size)=some (pV p10)∧Wr H2 (A0 H.size)∧∃ p11,aa (av H2 (A0 H.size) (pV p10)) (A0 H.size)=some (pV p11)∧Q (.tuple #[.agg #[pV p11],iV 0]) (av H2 (A0 H.size) (pV p10)))) C1)) (H.push (.cells #[pV none] 203))
theorem x7 {p1:Option Addr}{n2:Int} (h:KQ p1 n2 Q H):ac PP 311 #[.pointer p1,.int .i64 n2] Q H :=
 okF Tryz.func311 rfl h
abbrev BF:Nat:=361
def GI (p1:Option Addr) (n2:Int) (Q:QT) (H:ae):Prop :=
 ∃ p3,aa (H.push (.cells #[pV p1] 203)) (A0 H.size)=some (pV p3)∧cS 152 #[.agg #[pV p3],iV n2,iV 6] (fun v4 H1=>∃ n5,v4=iV n5∧∃ p6,aa H1 (A0 H.size)=some (pV p6)∧cS 161 #[.agg #[pV p6],iV 0] (fun v7 H2=>∃ n8,v7=iV n8∧cond (decide (n2 > 0)) (cond (decide (n5 ≥ 1)) (∃ p9,aa H2 (A0 H.size)=some (pV p9)∧cS 271 #[.agg #[pV p9],iV n8] (fun v10 H3=>∃ n11,v10=iV n11∧cond (decide (n5<=n11)) (∃ p12,aa H3 (A0 H.size)=some (pV p12)∧cS 272 #[.agg #[pV p12],iV n8,iV (wW (n5-1))] (fun v13 H4=>∃ n14,v13=iV n14∧Q (.bool (n14 == n2)) H4) H3) (Q (.bool false) H3)) H2) (Q (.bool false) H2)) (Q (.bool false) H2)) H1) (H.push (.cells #[pV p1] 203))
theorem yl {p1:Option Addr}{n2:Int} (h:GI p1 n2 Q H):ac PP 361 #[.agg #[.pointer p1],.int .i64 n2] Q H :=
 okF Tryz.func361 rfl h
end Go.Proofs.YtgjfejoohojokaaGreatDoor
namespace Kw
open Go
def KV.addC (v:KV) (c:CV) (d:Int):KV:={ v with cls:=v.cls++[c],clsA:=d }
theorem KS.fresh {s:SP}{v:KV} (h:KS s v){o:Int} (hn:¬ Reaches s.h s.roots o):∀ p∈v.roles,p.1≠o:=fun p hp he=>hn (he ▸ h.reach p hp)
theorem ku {s s':SP}{v:KV} (h:KS s v) (h':KS s' v){l:List Int} (e:s'.stack=s.stack++l):∀ w∈s.roots,w∈s'.roots:=by
 intro w hw
 rw [h.roots] at hw
 rw [h'.roots,e]
 simp only [List.mem_cons,List.mem_append] at hw ⊢
 rcases hw with h | h
 ·exact .inl h
 ·exact .inr (.inl h)
theorem oa {s:SP}{v:KV} (h:KS s v){j:Nat} (hj:j<v.cls.length):1<=(v.cls[j]).oop∧(v.cls[j]).oop<=65536:=by
 have:=(h.view.cls hj).bnd h.wf.h
 exact ⟨this.1,this.2.1⟩
theorem dI {n up l:Int}{k:Nat} (hn:cR n) (hu:cR (4*up)) (hl:cR l) (hk:k<=1000):∀ w∈bv n up l k,cR w:=by
 intro w hw
 simp only [bv,List.mem_cons,List.not_mem_nil,or_false] at hw
 rcases hw with rfl | rfl | rfl | rfl | rfl | rfl | rfl
 ·exact hn
 ·exact hu
 ·exact hl
 ·decide
 ·decide
 ·decide
 ·unfold cR;have:=aS (2*((k:Int)+1)+1);omega
theorem gh {s:SP}{v:KV} (h:KS s v):∀ w∈v.clsW,cR w:=fun w hw=>(h.view.all.bnd h.wf.h).2.2.2 w hw
theorem wq {s:SP}{v:KV}{t:TB} (hk:KS s v) (hst:s.stack.length<65000){c l:Int}{n:Nat}{ns:List Nat}{j:Nat} (hj:j<v.cls.length) (hlt:v.cls.length<256)
  (hc1:1<=c) (hc2:c<=65536) (hcr:Reaches s.h s.roots c) (hlr:Reaches s.h s.roots l) (hca:eq s.h c (bv (d9 n) (v.cls[j]).oop (4*l) v.cls.length)) (hla:eq s.h l (ns.map d9))
  (hcf:∀ p∈v.roles,p.1≠c) (hlf:ns=[]∧l=18∨∀ p∈v.roles,p.1≠l) (hcl:c≠l) :
  bd s.h (cF s t v.clsW (4*c)).2.1.h (fun k=>Reaches s.h s.roots k∧k≠19)∧(cF s t v.clsW (4*c)).2.2=t∧(∃ m,(cF s t v.clsW (4*c)).2.1.stack=s.stack++m∧m.length<=1) ∧
  ((cF s t v.clsW (4*c)).1.2≠0->KS (cF s t v.clsW (4*c)).2.1 v∧bd s.h (cF s t v.clsW (4*c)).2.1.h (Reaches s.h s.roots)) ∧
  ((cF s t v.clsW (4*c)).1.2=0->(cF s t v.clsW (4*c)).1.1=c∧∃ d,KS (cF s t v.clsW (4*c)).2.1 (v.addC ⟨c,n,(v.cls[j]).oop,ns,l,18,18,[],[],0⟩ d)):=by
 have hws:∀ w∈v.clsW++[4*c],cR w:=fun w hw=>by
  rcases List.mem_append.1 hw with hw | hw
  ·exact gh hk w hw
  ·simp only [List.mem_singleton] at hw;rw [hw];exact bB hc1 hc2
 obtain ⟨h1,h2,⟨m,h3,h3'⟩,h4⟩:=eU hk (by omega) hws
 unfold cF
 by_cases he:(s.array (v.clsW++[4*c])).1.2=0
 ·rw [if_neg (by simpa using he)]
  obtain ⟨d,e1,d1,d2,hda,hdr,hdn⟩:=h4 he
  have hdn:¬ Reaches s.h s.roots d:=by
   rcases hdn with h | h
   ·simp at h
   ·exact h
  rw [e1]
  generalize (s.array (v.clsW++[4*c])).2=s1 at *
  obtain ⟨g1,g2,g3,g4,g5,g6,g7⟩:=mJ h1 (i:=0) (w:=4*d) (by decide) (by decide) (bB d1 d2)
  generalize (s1.setRoot 0 (4*d)).2=s2 at *
  have hdf:∀ p∈v.roles,p.1≠d:=hk.fresh hdn
  have r19:((19,v.rootW):mC)∈v.roles:=by simp [KV.roles]
  have r18:((18,[]):mC)∈v.roles:=by simp [KV.roles]
  have hc19:c≠19:=fun e=>hcf _ r19 e.symm
  have hd19:d≠19:=fun e=>hdf _ r19 e.symm
  have hl19:l≠19:=by
   rcases hlf with ⟨_,h⟩ | h
   ·omega
   ·exact fun e=>h _ r19 e.symm
  have hc18:c≠18:=fun e=>hcf _ r18 e.symm
  have hdc:d≠c:=fun e=>hdn (e ▸ hcr)
  have hdl:d≠l:=fun e=>hdn (e ▸ hlr)
  have h2k:bd s.h s2.h fun k=>Reaches s.h s.roots k∧k≠19:=(h2.mono fun k hk=>hk.1).trans (g2.mono fun k hk=>hk.2)
  have hne:=wk hk.view hk.sep
  refine ⟨h2k,rfl,⟨m,by rw [g6,h3],h3'⟩,fun h=>absurd rfl h,fun _=>⟨by show 4*c / 4=c;omega,d,g3,g7,g5,g4,?_,?_,?_⟩⟩
  ·
   refine cL.of ?_ ?_ ?_ ?_ ?_ ?_
   ·simpa [KV.rootW,KV.addC] using g1
   ·have:=hda.keep g2 hd19
    simpa [KV.addC,KV.clsW] using this
   ·exact (h1.view.globs).keep g2 (hne (v.globA,eF v.glob) (by simp))
   ·exact (h1.view.nil).keep g2 (by decide)
   ·exact (h1.view.empty).keep g2 (by decide)
   ·intro p hp
    simp only [KV.addC,iD,List.mem_append,Nat.zero_add,dj,List.append_nil] at hp
    rcases hp with hp | hp
    ·exact (h1.view p (by simp [KV.roles,hp])).keep g2 (hne p (by simp [hp]))
    ·simp only [crole,List.mem_cons,List.not_mem_nil,or_false] at hp
     rcases hp with rfl | rfl | rfl | rfl
     ·have:=hca.keep h2k ⟨hcr,hc19⟩
      simpa [CV.slots,bv] using this
     ·exact hla.keep h2k ⟨hlr,hl19⟩
     ·exact (h1.view.empty).keep g2 (by decide)
     ·exact (h1.view.empty).keep g2 (by decide)
  ·
   have hs:=hk.sep
   unfold GU at hs ⊢
   simp only [KV.roles,KV.addC,iD,dj,List.append_nil,Nat.zero_add] at hs ⊢
   rw [List.pairwise_cons,List.pairwise_cons] at hs
   obtain ⟨hs1,hs2,hs3⟩:=hs
   have new:∀ q∈crole ⟨c,n,(v.cls[j]).oop,ns,l,18,18,[],[],0⟩ v.cls.length,q.1=c∨q.1=l∨q.1=18:=by
    intro q hq
    simp only [crole,List.mem_cons,List.not_mem_nil,or_false] at hq
    rcases hq with rfl | rfl | rfl | rfl <;> simp
   refine List.pairwise_cons.2 ⟨fun q hq he=>?_,List.pairwise_cons.2 ⟨fun q hq he=>?_,?_⟩⟩
   ·
    exfalso
    simp only [List.mem_cons,List.mem_append] at hq
    rcases hq with rfl | rfl | rfl | rfl | hq | hq
    ·exact hd19 he.symm
    ·exact hne (v.globA,eF v.glob) (by simp) he.symm
    ·simp at he
    ·simp at he
    ·exact hne q (by simp [hq]) he.symm
    ·rcases new q hq with h | h | h
     ·exact hc19 (by rw [←h];exact he.symm)
     ·exact hl19 (by rw [←h];exact he.symm)
     ·rw [h] at he;simp at he
   ·exfalso
    simp only [List.mem_cons,List.mem_append] at hq
    rcases hq with rfl | rfl | rfl | hq | hq
    ·exact hdf (v.globA,eF v.glob) (by simp [KV.roles]) he.symm
    ·exact hdf (1,[]) (by simp [KV.roles]) he.symm
    ·exact hdf (18,[]) (by simp [KV.roles]) he.symm
    ·exact hdf q (by simp [KV.roles,hq]) he.symm
    ·rcases new q hq with h | h | h
     ·exact hdc (by rw [←h];exact he)
     ·exact hdl (by rw [←h];exact he)
     ·exact hdf (18,[]) r18 (by rw [←h];exact he.symm)
   ·show ((v.globA,eF v.glob) :: (1,[]) :: (18,[]) :: (dj v.cls 0++_)).Pairwise _
    rw [←List.cons_append,←List.cons_append,←List.cons_append]
    refine List.pairwise_append.2 ⟨hs3,?_,fun p hp q hq he=>?_⟩
    ·simp only [crole]
     refine List.pairwise_cons.2 ⟨fun q hq he=>?_,List.pairwise_cons.2 ⟨fun q hq he=>?_,List.pairwise_cons.2 ⟨fun q hq he=>rfl,List.pairwise_cons.2 ⟨fun q hq he=>rfl,List.Pairwise.nil⟩⟩⟩⟩
     ·exfalso
      simp only [List.mem_cons,List.not_mem_nil,or_false] at hq
      rcases hq with rfl | rfl | rfl
      ·exact hcl he
      ·exact hc18 he
      ·exact hc18 he
     ·rcases hlf with ⟨h,_⟩ | h
      ·simp [h]
      ·exfalso
       simp only [List.mem_cons,List.not_mem_nil,or_false] at hq
       rcases hq with rfl | rfl
       ·exact h _ r18 he.symm
       ·exact h _ r18 he.symm
    ·have hpr:p∈v.roles:=by
      simp only [KV.roles]
      exact List.mem_cons_of_mem _ (List.mem_cons_of_mem _ hp)
     have em:p.1=18->p.2=[]:=fun h=>by
      have:=hk.view p hpr
      rw [h] at this
      exact this.uniq hk.view.empty
     rcases new q hq with h | h | h
     ·exact absurd (he.trans h) (hcf p hpr)
     ·rcases hlf with ⟨_,h'⟩ | h'
      ·exact em (by rw [he,h,h'])
      ·exact absurd (he.trans h) (h' p hpr)
     ·exact em (he.trans h)
  ·
   have hsh:=hk.shape
   have hm0:=hsh.many0
   constructor
   ·exact hsh.rest
   ·simp only [KV.addC,List.length_append];omega
   ·simp only [KV.addC,List.length_append,List.length_cons,List.length_nil];omega
   ·exact hsh.globs
   ·intro h0
    have h0':0<v.cls.length:=by omega
    simp only [KV.addC,List.getElem_append_left h0']
    exact hsh.up0 h0'
   ·intro i hi hpos
    simp only [KV.addC,List.length_append,List.length_cons,List.length_nil] at hi
    by_cases hlt':i<v.cls.length
    ·obtain ⟨j',hj',h5,h6⟩:=hsh.ups i hlt' hpos
     refine ⟨j',by simp only [KV.addC,List.length_append];omega,h5,?_⟩
     simp only [KV.addC,List.getElem_append_left hlt',List.getElem_append_left hj']
     exact h6
    ·have hie:i=v.cls.length:=by omega
     subst hie
     refine ⟨j,by simp only [KV.addC,List.length_append];omega,hj,?_⟩
     simp only [KV.addC,List.getElem_append_left hj]
     rw [List.getElem_append_right (Nat.le_refl _)]
     simp
   ·intro i hi h14
    have hlt':i<v.cls.length:=by omega
    simp only [KV.addC,List.getElem_append_left hlt']
    exact hsh.kern i hlt' h14
   ·intro x hx
    simp only [KV.addC,List.mem_append,List.mem_singleton] at hx
    rcases hx with hx | rfl
    ·exact hsh.lay x hx
    ·simp
 ·rw [if_pos (by simpa using he)]
  exact ⟨h2.mono fun k hk=>hk.1,rfl,⟨m,h3,h3'⟩,fun _=>⟨h1,h2⟩,fun h=>absurd h he⟩
structure DefR (s:SP) (v:KV) (t:TB) (j:Nat) (name:ByteArray) (own:List ByteArray) (R:(Int × Int) × SP × TB):Prop where
 wft:WFT R.2.2
 most:R.2.2.most=t.most
 pre:∃ l,R.2.2.texts=t.texts++l
 stack:∃ m,R.2.1.stack=s.stack++m∧m.length<=3
 bad:R.1.2≠0->KS R.2.1 v∧bd s.h R.2.1.h (Reaches s.h s.roots)
 good:R.1.2=0->∃ c n ns l d,∃ hj:j<v.cls.length,R.1.1=c∧KS R.2.1 (v.addC ⟨c,n,(v.cls[j]).oop,ns,l,18,18,[],[],0⟩ d)∧R.2.2.texts[n]?=some name∧ns.map (fun n=>R.2.2.texts[n]?)=own.map some
 keep:bd s.h R.2.1.h (fun k=>Reaches s.h s.roots k∧k≠19)
theorem uY {s:SP}{v:KV}{t:TB} (hk:KS s v) (hst:s.stack.length<60000){n:Nat}{ns:List Nat}{j:Nat} (hj:j<v.cls.length) (hlt:v.cls.length<256) (hwt:WFT t) (hn:n<t.texts.length) (hns:∀ n∈ns,n<t.texts.length)
  {name:ByteArray}{own:List ByteArray} (e1:t.texts[n]?=some name) (e2:ns.map (fun n=>t.texts[n]?)=own.map some) :
  DefR s v t j name own (fE s t v.clsW (d9 n) (v.cls[j]).oop (ns.map d9)):=by
 have hws:∀ w∈ns.map d9,cR w:=fun w hw=>by
  obtain ⟨x,hx,rfl⟩:=List.mem_map.1 hw
  exact kO hwt (hns x hx)
 obtain ⟨a1,a2,⟨m1,a3,a3'⟩,a4⟩:=eU hk (by omega) hws
 unfold fE
 by_cases he:(s.array (ns.map d9)).1.2=0
 ·rw [if_neg (by simpa using he)]
  obtain ⟨l,el,l1,l2,hla,hlr,hlf⟩:=a4 he
  rw [el]
  generalize (s.array (ns.map d9)).2=s1 at *
  have hl1:s1.stack.length<64000:=by rw [a3,List.length_append];omega
  have hup:=oa hk hj
  have hcw:v.clsW.length=v.cls.length:=by simp [KV.clsW]
  obtain ⟨b1,b2,b3,b4⟩:=ie a1 (by omega) (cls:=12) (by decide) (ws:=bv (d9 n) (v.cls[j]).oop (4*l) v.clsW.length) (dI (kO hwt hn) (bB hup.1 hup.2) (bB l1 l2) (by omega))
  have hrs:∀ k,Reaches s.h s.roots k->Reaches s1.h s1.roots k:=fun k hk'=>Reaches.mono hk.wf.h a2 (ku hk a1 a3) hk'
  unfold ee
  by_cases hf:(s1.make 12 (bv (d9 n) (v.cls[j]).oop (4*l) v.clsW.length)).1.2=0
  ·rw [if_neg (by simpa using hf)]
   obtain ⟨c,ec,est,c1,c2,hca,hcn⟩:=b4 hf
   rw [ec]
   generalize (s1.make 12 (bv (d9 n) (v.cls[j]).oop (4*l) v.clsW.length)).2=s2 at *
   have hrs2:∀ k,Reaches s1.h s1.roots k->Reaches s2.h s2.roots k:=fun k hk'=>Reaches.mono a1.wf.h b2 (ku a1 b1 est) hk'
   have hcr:Reaches s2.h s2.roots c:=Reaches.of_root c1 c2 hca.there (by rw [b1.roots,est];simp)
   have hlf':ns=[]∧l=18∨∀ p∈v.roles,p.1≠l:=by
    rcases hlf with h | h
    ·have hnil:ns=[]:=by simpa using h
     subst hnil
     left
     refine ⟨rfl,?_⟩
     have:(s.array (([]:List Nat).map d9)).1.1=72:=by simp [SP.array]
     omega
    ·exact .inr (hk.fresh h)
   obtain ⟨d1,d2,⟨m,d3,d3'⟩,d4,d5⟩:=wq (t:=t) b1 (by rw [est,List.length_append];simp;omega) (c:=c) (l:=l) (n:=n) (ns:=ns) hj hlt c1 c2 hcr (hrs2 l hlr) (by rw [hcw] at hca;exact hca) (hla.keep b2 hlr) (a1.fresh hcn) hlf' (fun e=>hcn (e ▸ hlr))
   generalize cF s2 t v.clsW (4*c)=R at *
   refine ⟨by rw [d2];exact hwt,by rw [d2],⟨[],by rw [d2];simp⟩,⟨m1++[4*c]++m,by rw [d3,est,a3];simp,by simp;omega⟩,fun h=>?_,fun h=>?_,((a2.trans (b2.mono hrs)).mono fun k hk'=>hk'.1).trans (d1.mono fun k hk'=>⟨hrs2 k (hrs k hk'.1),hk'.2⟩)⟩
   ·exact ⟨(d4 h).1,(a2.trans (b2.mono hrs)).trans ((d4 h).2.mono fun k hk'=>hrs2 k (hrs k hk'))⟩
   ·obtain ⟨e3,d,e4⟩:=d5 h
    rw [d2]
    exact ⟨c,n,ns,l,d,hj,e3,e4,e1,e2⟩
  ·rw [if_pos (by simpa using hf)]
   exact ⟨hwt,rfl,⟨[],by simp⟩,⟨m1,by rw [(b3 hf).1,a3],by omega⟩,fun _=>⟨b1,a2.trans (b2.mono hrs)⟩,fun h=>absurd h hf,(a2.trans (b2.mono hrs)).mono fun k hk'=>hk'.1⟩
 ·rw [if_pos (by simpa using he)]
  exact ⟨hwt,rfl,⟨[],by simp⟩,⟨m1,a3,by omega⟩,fun _=>⟨a1,a2⟩,fun h=>absurd h he,a2.mono fun k hk'=>hk'.1⟩
theorem nO {s:SP}{v:KV}{t:TB} (hk:KS s v) (hst:s.stack.length<60000){j:Nat} (hj:j<v.cls.length) (hlt:v.cls.length<256) (hwt:WFT t) (name:ByteArray) (own:List ByteArray) :
  DefR s v t j name own (dO s t v.clsW name (v.cls[j]).oop own):=by
 unfold dO
 have p1:=nZ t name
 have w1:=fo hwt name
 by_cases h1:(t.add name).1.2=0
 ·rw [if_neg (by simpa using h1)]
  obtain ⟨n,e1,e2,_⟩:=lh name h1
  generalize (t.add name).2=t1 at *
  have p2:=ge t1 [] own
  have w2:=rp w1 [] own
  have pre:∃ l,(t1.addAll [] own).2.texts=t.texts++l:=by
   obtain ⟨l,e⟩:=p1.2
   obtain ⟨l',e'⟩:=p2.2
   exact ⟨l++l',by rw [e',e];simp⟩
  by_cases h2:(t1.addAll [] own).1.2=0
  ·rw [if_neg (by simpa using h2)]
   obtain ⟨ns,e3,e4⟩:=jV [] own h2
   rw [e3,e1]
   generalize (t1.addAll [] own).2=t2 at *
   have e5:t2.texts[n]?=some name:=by
    obtain ⟨l',e'⟩:=p2.2
    rw [e',List.getElem?_append_left (eH e2).2,e2]
   have hns:∀ n∈ns,n<t2.texts.length:=fun n hn=>by
    have:t2.texts[n]?∈own.map some:=by rw [←e4];exact List.mem_map.2 ⟨n,hn,rfl⟩
    obtain ⟨s,_,hs⟩:=List.mem_map.1 this
    exact (eH hs.symm).2
   have:=uY hk hst hj hlt w2 (eH e5).2 hns e5 e4
   have hpre:∃ l,(fE s t2 v.clsW (d9 n) (v.cls[j]).oop (ns.map d9)).2.2.texts=t.texts++l:=by
    obtain ⟨l,e⟩:=pre
    obtain ⟨l',e'⟩:=this.pre
    exact ⟨l++l',e'.trans (by rw [e];simp)⟩
   exact { this with most:=this.most.trans (p2.1.trans p1.1),pre:=hpre }
  ·rw [if_pos (by simpa using h2)]
   exact ⟨w2,p2.1.trans p1.1,pre,⟨[],by simp,by simp⟩,fun _=>⟨hk,bd.refl _ _⟩,fun h=>absurd h h2,bd.refl _ _⟩
 ·rw [if_pos (by simpa using h1)]
  exact ⟨w1,p1.1,p1.2,⟨[],by simp,by simp⟩,fun _=>⟨hk,bd.refl _ _⟩,fun h=>absurd h h1,bd.refl _ _⟩
end Kw
namespace Kw
open Go
structure KAll (s:SP) (t:TB) (v:KV):Prop where
 ks:KS s v
 names:KNames v t
 stack:s.stack=[]
structure KAllW (s:SP) (t:TB) (v:KV):Prop where
 ks:KS s v
 names:KNames v t
 top:s.stack.length<=65536
theorem KAll.w {s:SP}{t:TB}{v:KV} (h:KAll s t v):KAllW s t v:=⟨h.ks,h.names,by rw [h.stack];decide⟩
theorem wt {s:SP}{m:List Int} (h:s.stack=m):(s.drop ((s.stack.length:Int)-0)).2={ s with stack:=[] }:=by
 unfold SP.drop
 rw [if_neg (by omega)]
 simp
theorem KS.nostack {s:SP}{v:KV} (h:KS s v):KS { s with stack:=[] } v:=⟨{ h.wf with many:=by simp,words:=by simp },h.gc,h.op,h.king,h.view,h.sep,h.shape⟩
theorem KS.marks {s:SP}{v:KV} (h:KS s v) (k:Int):KS { s with h:=(s.h.marks k).2 } v :=
 ⟨{ h.wf with h:=wU h.wf.h k },wx h.gc k,h.op,h.king,h.view.keep (gE k) fun _ _=>trivial,h.sep,h.shape⟩
theorem qE {s:SP}{v:KV}{t:TB} (h:KAll s t v){j:Nat} (hj:j<v.cls.length) (hlt:v.cls.length<256){name:ByteArray}{own:List ByteArray} (hf:∀ c∈v.cls,tx t c.name≠name) :
  ((bn s t v.clsW name (v.cls[j]).oop own).1.2≠0->(bn s t v.clsW name (v.cls[j]).oop own).1.1=0∧KAll (bn s t v.clsW name (v.cls[j]).oop own).2.1 (bn s t v.clsW name (v.cls[j]).oop own).2.2 v∧(bn s t v.clsW name (v.cls[j]).oop own).2.2=t ∧
   bd s.h (bn s t v.clsW name (v.cls[j]).oop own).2.1.h (Reaches s.h s.roots)) ∧
  ((bn s t v.clsW name (v.cls[j]).oop own).1.2=0->∃ n ns l d,KAll (bn s t v.clsW name (v.cls[j]).oop own).2.1 (bn s t v.clsW name (v.cls[j]).oop own).2.2 (v.addC ⟨(bn s t v.clsW name (v.cls[j]).oop own).1.1,n,(v.cls[j]).oop,ns,l,18,18,[],[],0⟩ d) ∧
   (∃ m,(bn s t v.clsW name (v.cls[j]).oop own).2.2.texts=t.texts++m)∧tx (bn s t v.clsW name (v.cls[j]).oop own).2.2 n=name∧ns.map (tx (bn s t v.clsW name (v.cls[j]).oop own).2.2)=own):=by
 obtain ⟨hk,hn,hst⟩:=h
 have D:=nO hk (by rw [hst];simp) hj hlt hn.wf name own
 unfold bn
 generalize dO s t v.clsW name (v.cls[j]).oop own=R at D ⊢
 obtain ⟨m,hm,hm'⟩:=D.stack
 have hd:=wt (s:=R.2.1) (m:=R.2.1.stack) rfl
 simp only [hst,List.length_nil]
 by_cases he:R.1.2=0
 ·refine ⟨fun h=>absurd he h,fun _=>?_⟩
  obtain ⟨c,n,ns,l,d,_,e1,e2,e3,e4⟩:=D.good he
  unfold nX
  rw [if_pos he,if_pos he]
  simp only [Int.natCast_zero,hd]
  have hg:=hn.grow D.wft D.pre
  have t1:=eH e3
  have t2:ns.map (tx R.2.2)=own:=by
   have h2:∀ (ns:List Nat) (own:List ByteArray),ns.map (fun n=>R.2.2.texts[n]?)=own.map some->ns.map (tx R.2.2)=own:=by
    intro ns
    induction ns with
    | nil=>intro own h;simp only [List.map_nil] at h;simpa using h.symm
    | cons a ns ih =>
     intro own h
     cases own with
     | nil=>simp at h
     | cons b own =>
      simp only [List.map_cons,List.cons.injEq] at h
      rw [List.map_cons,(eH h.1).1,ih own h.2]
   exact h2 ns own e4
  have t3:∀ x∈ns,x<R.2.2.texts.length:=fun x hx=>by
   have:R.2.2.texts[x]?∈own.map some:=by rw [←e4];exact List.mem_map.2 ⟨x,hx,rfl⟩
   obtain ⟨_,_,hs⟩:=List.mem_map.1 this
   exact (eH hs.symm).2
  refine ⟨n,ns,l,d,⟨by rw [e1];exact e2.nostack,?_,rfl⟩,D.pre,t1.1,t2⟩
  refine ⟨D.wft,fun x hx=>?_,fun x hx=>?_,hg.glob,?_⟩
  ·simp only [KV.addC,List.mem_append,List.mem_singleton] at hx
   rcases hx with hx | rfl
   ·exact hg.name x hx
   ·exact t1.2
  ·simp only [KV.addC,List.mem_append,List.mem_singleton] at hx
   rcases hx with hx | rfl
   ·exact hg.own x hx
   ·exact t3
  ·simp only [KV.addC,List.map_append,List.map_cons,List.map_nil]
   rw [List.nodup_append]
   refine ⟨hg.nodup,by simp,fun a ha b hb hab=>?_⟩
   simp only [List.mem_singleton] at hb
   subst hb
   subst hab
   obtain ⟨x,hx,hxn⟩:=List.mem_map.1 ha
   have:=hf x hx
   rw [←E7 D.pre (hn.name x hx),hxn] at this
   exact this t1.1
 ·refine ⟨fun _=>?_,fun h=>absurd h he⟩
  obtain ⟨b1,b2⟩:=D.bad he
  unfold nX
  rw [if_neg he,if_neg he]
  simp only [Int.natCast_zero,hd]
  have hb:=wL D.most D.pre
  rw [hb]
  by_cases h24:R.1.2=24
  ·rw [if_pos h24]
   exact ⟨trivial,⟨b1.nostack,hn,rfl⟩,rfl,b2⟩
  ·rw [if_neg h24]
   exact ⟨trivial,⟨b1.nostack.marks _,hn,rfl⟩,rfl,b2.trans ((gE _).mono fun _ _=>trivial)⟩
theorem KAll.marks {s:SP}{t:TB}{v:KV} (h:KAll s t v) (k:Int):KAll { s with h:=(s.h.marks k).2 } t v:=⟨h.ks.marks k,h.names,h.stack⟩
theorem KAll.collect {s:SP}{t:TB}{v:KV} (h:KAll s t v):KAll s.collect.2 t v:=by
 have hr:=oF s
 exact ⟨⟨rt h.ks.wf,qJ h.ks.gc,hr.2.2.trans h.ks.op,hr.1.trans h.ks.king,h.ks.view.keep (mF h.ks.wf.h) h.ks.reach,h.ks.sep,h.ks.shape⟩,h.names,hr.2.1.trans h.stack⟩
end Kw
namespace Kw
open Go
def iO (w:Int):Int:=if aD w=3 then w / 4 else 0
def eT (w:Int):Int:=if aD w=1 then w / 2 else 0
def sE (t:TB) (w:Int):ByteArray:=if aD w=2 then tx t (w / 4).toNat else ⟨#[]⟩
def kslot (r:RH) (o i:Int):Int:=(r.at o i).1
def gt (r:RH) (o i:Int):Int:=iO (kslot r o i)
def oH (r:RH) (o i:Int):Int:=eT (kslot r o i)
def iw (r:RH) (t:TB) (o i:Int):ByteArray:=sE t (kslot r o i)
def ksize (r:RH) (o:Int):Int:=(r.size o).1
theorem eQ {o:Int} (h0:1<=o) (h1:o<=65536):iO (4*o)=o:=by
 unfold iO
 have:=aS (4*o)
 rw [if_pos (by omega)];omega
theorem vE {n:Int} (h0:-1073741824<=n) (h1:n<=1073741823):eT (2*n+1)=n:=by
 unfold eT
 have:=aS (2*n+1)
 rw [if_pos (by omega)];omega
theorem jO {t:TB} (hw:WFT t){n:Nat} (h:n<t.texts.length):sE t (d9 n)=tx t n:=by
 unfold sE d9
 have h1:=hw.m1
 have h2:=hw.len
 have:=aS (4*(n:Int)+2)
 rw [if_pos (by omega)]
 congr 1;omega
theorem eq.kslot {r:RH}{o:Int}{ws:List Int} (h:eq r o ws){i:Nat} (hi:i<ws.length):kslot r o i=ws[i]:=by
 unfold Kw.kslot
 rw [h.at (by omega) (by omega)]
 simp
theorem eq.ksize {r:RH}{o:Int}{ws:List Int} (h:eq r o ws):ksize r o=ws.length:=by unfold Kw.ksize;rw [h.size]
theorem kx {r:RH} (o:Int):0<=ksize r o:=by
 unfold ksize RH.size
 cases am r.objs o with
 | none=>exact Int.le_refl 0
 | some x=>exact Int.natCast_nonneg _
theorem sJ {r:RH} (hw:WFH r) (o:Int):ksize r o<=8192:=by
 unfold ksize RH.size
 cases ho:am r.objs o with
 | none=>exact Int.le_of_lt (by decide)
 | some x=>have:=(hw.objs.good x (au ho).1).many;simp only;omega
def kwords (r:RH) (o:Int):List Int:=(List.range (ksize r o).toNat).map fun i:Nat=>kslot r o i
theorem eq.kwords {r:RH}{o:Int}{ws:List Int} (h:eq r o ws):kwords r o=ws:=by
 unfold Kw.kwords
 rw [h.ksize,Int.toNat_natCast]
 apply List.ext_getElem (by simp)
 intro i h1 h2
 simp only [List.getElem_map,List.getElem_range]
 exact h.kslot h2
section
variable {s:SP}{v:KV}{t:TB}
theorem KS.root0 (h:KS s v):gt s.h 19 0=v.clsA:=by
 have hb:=h.view.all.bnd h.wf.h
 have hr:=h.view.root
 unfold gt
 rw [show (0:Int)=((0:Nat):Int) from rfl,hr.kslot (by simp [KV.rootW])]
 exact eQ hb.1 hb.2.1
theorem KS.root1 (h:KS s v):gt s.h 19 1=v.globA:=by
 have hb:=h.view.globs.bnd h.wf.h
 have hr:=h.view.root
 unfold gt
 rw [show (1:Int)=((1:Nat):Int) from rfl,hr.kslot (by simp [KV.rootW])]
 exact eQ hb.1 hb.2.1
theorem KS.size0 (h:KS s v):ksize s.h v.clsA=v.cls.length:=by rw [h.view.all.ksize];simp [KV.clsW]
theorem KS.size1 (h:KS s v):ksize s.h v.globA=2*v.glob.length:=by rw [h.view.globs.ksize,mR];simp
theorem KS.clsAt (h:KS s v){i:Nat} (hi:i<v.cls.length):kslot s.h v.clsA i=4*(v.cls[i]).oop∧gt s.h v.clsA i=(v.cls[i]).oop:=by
 have hb:=(h.view.cls hi).bnd h.wf.h
 have e:kslot s.h v.clsA i=4*(v.cls[i]).oop:=by rw [h.view.all.kslot (by simpa [KV.clsW] using hi)];simp [KV.clsW]
 exact ⟨e,by unfold gt;rw [e];exact eQ hb.1 hb.2.1⟩
theorem KS.globAt (h:KS s v){i:Nat} (hi:i<v.glob.length):kslot s.h v.globA (2*i:Nat)=d9 v.glob[i].1∧kslot s.h v.globA (2*i+1:Nat)=v.glob[i].2:=by
 have hg:=tG hi
 have hl:=mR v.glob
 refine ⟨?_,?_⟩
 ·rw [h.view.globs.kslot (by omega)]
  have:=hg.1
  rw [List.getElem?_eq_getElem (by omega)] at this
  simpa using this
 ·rw [h.view.globs.kslot (by omega)]
  have:=hg.2
  rw [List.getElem?_eq_getElem (by omega)] at this
  simpa using this
theorem KS.c0 (h:KS s v){i:Nat} (hi:i<v.cls.length):kslot s.h (v.cls[i]).oop 0=d9 (v.cls[i]).name:=(h.view.cls hi).kslot (i:=0) (by simp [CV.slots])
theorem KS.c1 (h:KS s v){i:Nat} (hi:i<v.cls.length):kslot s.h (v.cls[i]).oop 1=4*(v.cls[i]).up:=(h.view.cls hi).kslot (i:=1) (by simp [CV.slots])
theorem KS.c2 (h:KS s v){i:Nat} (hi:i<v.cls.length):kslot s.h (v.cls[i]).oop 2=4*(v.cls[i]).ownA:=(h.view.cls hi).kslot (i:=2) (by simp [CV.slots])
theorem KS.c3 (h:KS s v){i:Nat} (hi:i<v.cls.length):kslot s.h (v.cls[i]).oop 3=4*(v.cls[i]).selA:=(h.view.cls hi).kslot (i:=3) (by simp [CV.slots])
theorem KS.c4 (h:KS s v){i:Nat} (hi:i<v.cls.length):kslot s.h (v.cls[i]).oop 4=4*(v.cls[i]).metA:=(h.view.cls hi).kslot (i:=4) (by simp [CV.slots])
theorem KS.c5 (h:KS s v){i:Nat} (hi:i<v.cls.length):kslot s.h (v.cls[i]).oop 5=2*(v.cls[i]).lay+1:=(h.view.cls hi).kslot (i:=5) (by simp [CV.slots])
theorem KS.c6 (h:KS s v){i:Nat} (hi:i<v.cls.length):kslot s.h (v.cls[i]).oop 6=2*((i:Int)+1)+1:=(h.view.cls hi).kslot (i:=6) (by simp [CV.slots])
theorem KS.upB (h:KS s v){i:Nat} (hi:i<v.cls.length):1<=(v.cls[i]).up∧(v.cls[i]).up<=65536:=by
 by_cases h0:i=0
 ·subst h0;rw [(h.shape.up0 hi).1];decide
 ·obtain ⟨j,hj,_,e⟩:=h.shape.ups i hi (by omega)
  rw [←e]
  have:=(h.view.cls hj).bnd h.wf.h
  exact ⟨this.1,this.2.1⟩
theorem KS.up (h:KS s v){i:Nat} (hi:i<v.cls.length):gt s.h (v.cls[i]).oop 1=(v.cls[i]).up:=by
 unfold gt;rw [h.c1 hi];exact eQ (h.upB hi).1 (h.upB hi).2
theorem KS.up1 (h:KS s v){i:Nat} (hi:i<v.cls.length):(v.cls[i]).up=1↔i=0:=by
 constructor
 ·intro e
  by_cases h0:i=0
  ·exact h0
  ·obtain ⟨j,hj,_,e'⟩:=h.shape.ups i hi (by omega)
   exact absurd (e'.trans e) (h.view.ne1 hj)
 ·rintro rfl;exact (h.shape.up0 hi).1
theorem KS.ownO (h:KS s v){i:Nat} (hi:i<v.cls.length):gt s.h (v.cls[i]).oop 2=(v.cls[i]).ownA:=by
 have hb:=(h.view.own hi).bnd h.wf.h
 unfold gt;rw [h.c2 hi];exact eQ hb.1 hb.2.1
theorem KS.num (h:KS s v){i:Nat} (hi:i<v.cls.length):oH s.h (v.cls[i]).oop 6=(i:Int)+1:=by
 have:=h.shape.many1
 unfold oH;rw [h.c6 hi];exact vE (by omega) (by omega)
theorem KAllW.name (h:KAllW s t v){i:Nat} (hi:i<v.cls.length):iw s.h t (v.cls[i]).oop 0=tx t (v.cls[i]).name:=by
 unfold iw;rw [h.ks.c0 hi];exact jO h.names.wf (h.names.name _ (List.getElem_mem hi))
theorem KAllW.gname (h:KAllW s t v){i:Nat} (hi:i<v.glob.length):iw s.h t v.globA (2*i:Nat)=tx t v.glob[i].1:=by
 unfold iw;rw [(h.ks.globAt hi).1];exact jO h.names.wf (h.names.glob _ (List.getElem_mem hi))
theorem KAllW.ownT (h:KAllW s t v){i:Nat} (hi:i<v.cls.length){j:Nat} (hj:j<(v.cls[i]).own.length):iw s.h t (v.cls[i]).ownA j=tx t (v.cls[i]).own[j]:=by
 unfold iw
 rw [(h.ks.view.own hi).kslot (i:=j) (by simpa using hj)]
 simp only [List.getElem_map]
 exact jO h.names.wf (h.names.own _ (List.getElem_mem hi) _ (List.getElem_mem hj))
theorem KS.ownL (h:KS s v){i:Nat} (hi:i<v.cls.length):ksize s.h (v.cls[i]).ownA=(v.cls[i]).own.length:=by rw [(h.view.own hi).ksize];simp
end
def dw (v:KV) (o:Int):Option Nat:=v.cls.findIdx? fun c=>decide (c.oop=o)
theorem dm {v:KV}{o:Int}{i:Nat} (h:dw v o=some i):∃ hi:i<v.cls.length,(v.cls[i]).oop=o:=by
 unfold dw at h
 rw [List.findIdx?_eq_some_iff_getElem] at h
 obtain ⟨hi,h1,_⟩:=h
 exact ⟨hi,by simpa using h1⟩
theorem pM {v:KV}{o:Int} (h:dw v o=none):∀ i (hi:i<v.cls.length),(v.cls[i]).oop≠o:=by
 unfold dw at h
 rw [List.findIdx?_eq_none_iff] at h
 intro i hi
 simpa using h _ (List.getElem_mem hi)
theorem KS.idx {s:SP}{v:KV} (h:KS s v){i:Nat} (hi:i<v.cls.length):dw v (v.cls[i]).oop=some i:=by
 cases hx:dw v (v.cls[i]).oop with
 | none=>exact absurd rfl (pM hx i hi)
 | some j =>
  obtain ⟨hj,e⟩:=dm hx
  rw [h.view.inj hj hi e]
def eh (v:KV) (t:TB) (name:ByteArray):Int × Int:=match v.cls.findIdx? (fun c=>decide (tx t c.name=name)) with
 | some i=>((v.cls.getD i ⟨0,0,0,[],0,0,0,[],[],0⟩).oop,0)
 | none=>(0,130)
def di (v:KV) (i:Nat):Int:=match v.cls[i]? with
 | some c=>if c.up=1 then 0 else c.up
 | none=>0
def upIdx (v:KV) (i:Nat):Option Nat:=dw v (di v i)
def bp (v:KV) (i:Nat):List Nat:=match v.cls[i]? with
 | none=>[]
 | some c=>match upIdx v i with
  | some j=>if j<i then bp v j++c.own else c.own
  | none=>c.own
termination_by i
theorem KS.upI {s:SP}{v:KV} (h:KS s v){i:Nat} (hi:i<v.cls.length):(i=0∧di v i=0∧upIdx v i=none)∨(∃ j,∃ hj:j<v.cls.length,j<i∧di v i=(v.cls[j]).oop∧(v.cls[i]).up=(v.cls[j]).oop∧upIdx v i=some j):=by
 have e:di v i=if (v.cls[i]).up=1 then 0 else (v.cls[i]).up:=by unfold di;rw [List.getElem?_eq_getElem hi]
 by_cases h0:i=0
 ·left
  have hu:(v.cls[i]).up=1:=(h.up1 hi).2 h0
  rw [if_pos hu] at e
  refine ⟨h0,e,?_⟩
  unfold Kw.upIdx
  rw [e]
  cases hx:dw v 0 with
  | none=>rfl
  | some j =>
   obtain ⟨hj,e'⟩:=dm hx
   have:=((h.view.cls hj).bnd h.wf.h).1
   omega
 ·right
  obtain ⟨j,hj,hlt,e'⟩:=h.shape.ups i hi (by omega)
  have hu:(v.cls[i]).up≠1:=fun hx=>h0 ((h.up1 hi).1 hx)
  rw [if_neg hu] at e
  refine ⟨j,hj,hlt,by rw [e,e'],e'.symm,?_⟩
  unfold Kw.upIdx
  rw [e,←e']
  exact h.idx hj
theorem KS.fields0 {s:SP}{v:KV} (h:KS s v) (h0:0<v.cls.length):bp v 0=(v.cls[0]).own:=by
 rw [bp,List.getElem?_eq_getElem h0]
 rcases h.upI h0 with ⟨_,_,e⟩ | ⟨j,_,hlt,_⟩
 ·simp only [e]
 ·omega
theorem KS.fieldsS {s:SP}{v:KV} (h:KS s v){i j:Nat} (hi:i<v.cls.length) (hj:j<i) (e:Kw.upIdx v i=some j):bp v i=bp v j++(v.cls[i]).own:=by
 rw [bp,List.getElem?_eq_getElem hi]
 simp only [e,if_pos hj]
def eP (v:KV) (t:TB):List ByteArray:=v.glob.map fun p=>tx t p.1
end Kw
namespace Kw
open Go
def uM (r:RH) (w:Int):Int × Int :=
 if aD w=1 then (8,0) else if aD w=2 then (9,0) else if aD w=3 then
  match r.clsAt (w / 4) with
  | (c,e)=>if e=0 then (iO c,0) else (0,e)
 else (0,10)
theorem lQ {s:SP}{v:KV} (h:KS s v):∀ i:Nat,i<v.cls.length->(bp v i).length<=8192*(i+1):=by
 intro i
 induction i using Nat.strongRecOn with
 | ind i ih =>
  intro hi
  have hb:(v.cls[i]).own.length<=8192:=by have:=((h.view.own hi).bnd h.wf.h).2.2.1;simpa using this
  rcases h.upI hi with ⟨h0,_,_⟩ | ⟨j,hj,hlt,_,_,e⟩
  ·subst h0;rw [h.fields0 hi];omega
  ·rw [h.fieldsS hi hlt e,List.length_append]
   have:=ih j hlt hj
   omega
end Kw
namespace Go.Proofs.YtgjfejoohojokaaGreatDoor
open Kw
theorem la {H:ae}{x v:Value}{t:TypeId}{fr:Nat × Nat}:av (H.push (.cells #[x] t fr)) ⟨H.size,0,none⟩ v=H.push (.cells #[v] t fr):=by
 rw [aq];rfl
theorem Fr.late {H H2:ae} (h:Fr [] H H2){b o:Nat}{v:Value} (hb:H.size<=b):Fr [] H (av H2 ⟨b,o,none⟩ v) :=
 ⟨Nat.le_trans h.1 (Fr.set (F:=[b]) (H:=H2) (a:=⟨b,o,none⟩) (v:=v) (by simp)).1,fun c hc _=>by rw [ce (by simp only;omega)];exact h.2 c hc (by simp)⟩
def PK (H:ae) (b:Nat) (F:az) (s:SP) (t:TB):Prop:=∃ sb tb F1 F2,F=b :: (F1++F2)∧b∉F1∧b∉F2∧cA F1 F2∧b≠ax∧ax∉F2 ∧
 aV H b #[.pointer (some ⟨sb,0,none⟩),.pointer (some ⟨tb,0,none⟩)]∧eS H sb F1 s∧lJ H tb F2 t
theorem PK.lt {H:ae}{b:Nat}{F:az}{s:SP}{t:TB} (h:PK H b F s t):∀ x∈F,x<H.size:=by
 obtain ⟨sb,tb,F1,F2,rfl,h1,h2,h3,k1,k2,hB,hS,hT⟩:=h
 intro x hx
 rcases List.mem_cons.1 hx with rfl | hx
 ·exact hB.lt
 ·rcases List.mem_append.1 hx with hx | hx
  ·exact hS.lt x hx
  ·exact hT.lt x hx
theorem PK.bmem {H:ae}{b:Nat}{F:az}{s:SP}{t:TB} (h:PK H b F s t):b∈F:=by obtain ⟨_,_,_,_,rfl,_⟩:=h;simp
theorem PK.kinds {H:ae}{b:Nat}{F:az}{s:SP}{t:TB} (h:PK H b F s t):cq H:=by obtain ⟨_,_,_,_,_,_,_,_,_,_,_,hS,_⟩:=h;exact hS.kinds
theorem PK.gk {H:ae}{b:Nat}{F:az}{s:SP}{t:TB} (h:PK H b F s t):ax∉F:=by
 obtain ⟨sb,tb,F1,F2,rfl,h1,h2,h3,k1,k2,hB,hS,hT⟩:=h
 simp only [List.mem_cons,List.mem_append,not_or]
 exact ⟨fun e=>k1 e.symm,hS.gk,k2⟩
theorem PK.fr {H H':ae}{b:Nat}{F G:az}{s:SP}{t:TB} (h:PK H b F s t) (hf:Fr G H H') (hd:cA F G) (hg:ax∉G):PK H' b F s t:=by
 obtain ⟨sb,tb,F1,F2,rfl,h1,h2,h3,k1,k2,hB,hS,hT⟩:=h
 exact ⟨sb,tb,F1,F2,rfl,h1,h2,h3,k1,k2,hB.fr hf (hd b (by simp)),hS.fr hf (hd.mono (fun x hx=>by simp [hx]) fun _ h=>h) hg,hT.fr hf (hd.mono (fun x hx=>by simp [hx]) fun _ h=>h)⟩
theorem PK.nil {H H':ae}{b:Nat}{F:az}{s:SP}{t:TB} (h:PK H b F s t) (hf:Fr [] H H'):PK H' b F s t:=h.fr hf (cA.nil_right _) (by simp)
theorem PK.wfs {H:ae}{b:Nat}{F:az}{s:SP}{t:TB} (h:PK H b F s t):WFS s:=by obtain ⟨_,_,_,_,_,_,_,_,_,_,_,hS,_⟩:=h;exact hS.wf
theorem PK.wft {H:ae}{b:Nat}{F:az}{s:SP}{t:TB} (h:PK H b F s t):WFT t:=by obtain ⟨_,_,_,_,_,_,_,_,_,_,_,_,hT⟩:=h;exact hT.wf
theorem PK.sp {H:ae}{b:Nat}{F:az}{s:SP}{t:TB} (h:PK H b F s t):∃ sb F1,aa H ⟨b,0,none⟩=some (.pointer (some ⟨sb,0,none⟩))∧eS H sb F1 s∧(∀ x∈F1,x∈F)∧b∉F1 ∧
  (∀ H' F1' s',eS H' sb F1' s'->Up F1 H F1' H'->∃ F',PK H' b F' s' t∧Up F H F' H')∧(∀ H' s',eS H' sb F1 s'->Fr F1 H H'->PK H' b F s' t):=by
 have hlt:=h.lt
 have hgl:=h.kinds.lt
 obtain ⟨sb,tb,F1,F2,rfl,h1,h2,h3,k1,k2,hB,hS,hT⟩:=h
 refine ⟨sb,F1,hB.cell 0,hS,fun x hx=>by simp [hx],h1,fun H' F1' s' hS' hu=>⟨b :: (F1'++F2),⟨sb,tb,F1',F2,rfl,fun hx=>?_,h2,fun x hx hx2=>?_,k1,k2,hB.fr hu.1 h1,hS',hT.fr hu.1 h3.symm⟩,hu.1.mono fun x hx=>by simp [hx],fun x hx=>?_⟩,fun H' s' hS' hf=>⟨sb,tb,F1,F2,rfl,h1,h2,h3,k1,k2,hB.fr hf h1,hS',hT.fr hf h3.symm⟩⟩
 ·rcases hu.2 b hx with h4 | h4
  ·exact h1 h4
  ·have:=hlt b (by simp);omega
 ·rcases hu.2 x hx with h4 | h4
  ·exact h3 x h4 hx2
  ·have:=hlt x (by simp [hx2]);omega
 ·rcases List.mem_cons.1 hx with rfl | hx
  ·exact .inl (by simp)
  ·rcases List.mem_append.1 hx with hx | hx
   ·exact (hu.2 x hx).imp (fun h4=>by simp [h4]) id
   ·exact .inl (by simp [hx])
theorem PK.tb {H:ae}{b:Nat}{F:az}{s:SP}{t:TB} (h:PK H b F s t):∃ tb F2,aa H ⟨b,1,none⟩=some (.pointer (some ⟨tb,0,none⟩))∧lJ H tb F2 t∧(∀ x∈F2,x∈F)∧b∉F2 ∧
  (∀ H' F2' t',lJ H' tb F2' t'->Up F2 H F2' H'->∃ F',PK H' b F' s t'∧Up F H F' H')∧(∀ H' t',lJ H' tb F2 t'->Fr F2 H H'->PK H' b F s t'):=by
 have hlt:=h.lt
 have hgl:=h.kinds.lt
 obtain ⟨sb,tb,F1,F2,rfl,h1,h2,h3,k1,k2,hB,hS,hT⟩:=h
 have hgS:=hS.gk
 refine ⟨tb,F2,hB.cell 1,hT,fun x hx=>by simp [hx],h2,fun H' F2' t' hT' hu=>⟨b :: (F1++F2'),⟨sb,tb,F1,F2',rfl,h1,fun hx=>?_,fun x hx hx2=>?_,k1,fun hx=>?_,hB.fr hu.1 h2,hS.fr hu.1 h3 k2,hT'⟩,hu.1.mono fun x hx=>by simp [hx],fun x hx=>?_⟩,fun H' t' hT' hf=>⟨sb,tb,F1,F2,rfl,h1,h2,h3,k1,k2,hB.fr hf h2,hS.fr hf h3 k2,hT'⟩⟩
 ·rcases hu.2 b hx with h4 | h4
  ·exact h2 h4
  ·have:=hlt b (by simp);omega
 ·rcases hu.2 x hx2 with h4 | h4
  ·exact h3 x hx h4
  ·have:=hlt x (by simp [hx]);omega
 ·rcases hu.2 _ hx with h4 | h4
  ·exact k2 h4
  ·omega
 ·rcases List.mem_cons.1 hx with rfl | hx
  ·exact .inl (by simp)
  ·rcases List.mem_append.1 hx with hx | hx
   ·exact .inl (by simp [hx])
   ·exact (hu.2 x hx).imp (fun h4=>by simp [h4]) id
abbrev rd (b:Nat):Value:=.agg #[.pointer (some ⟨b,0,none⟩)]
section
variable {H:ae}{b:Nat}{F:az}{s:SP}{t:TB}{Q:QT}
theorem ii (hK:PK H b F s t) (h:Q (.bool true) H):ac PP IP #[.pointer (some ⟨b,0,none⟩)] Q H:=by
 obtain ⟨sb,F1,hc,_⟩:=hK.sp
 apply BU
 unfold Mf pV
 exact ⟨_,rfl,_,hc,h⟩
theorem oA (hK:PK H b F s t){o i:Int} (h:∀ H',Fr [] H H'->Q (.int .i64 (kslot s.h o i)) H'):ac PP DD #[rd b,.int .i64 o,.int .i64 i] Q H:=by
 apply zY
 unfold HM A0 iV pV cS
 have hf:Fr [] H (H.push (.cells #[.pointer (some ⟨b,0,none⟩)] 203)):=Fr.push _ _ _
 obtain ⟨sb,F1,hc,hS,_⟩:=(hK.nil hf).sp
 refine ⟨_,(aV.new _ _ _).cell 0,_,rfl,_,hc,cE hS fun hb F2 hR _ _=>⟨_,rfl,qp hR ⟨_,_,rfl,h _ hf⟩⟩⟩
theorem ny (hK:PK H b F s t){o i:Int} (h:∀ H',Fr [] H H'->Q (.int .i64 (gt s.h o i)) H'):ac PP wR #[rd b,.int .i64 o,.int .i64 i] Q H:=by
 apply yM
 unfold FV A0 iV pV cS
 have hf:Fr [] H (H.push (.cells #[.pointer (some ⟨b,0,none⟩)] 203)):=Fr.push _ _ _
 have hK1:=hK.nil hf
 refine ⟨_,(aV.new _ _ _).cell 0,oA hK1 fun H' hf'=>⟨_,rfl,fG (hK1.nil hf').kinds ?_⟩⟩
 have:=h H' (hf.trans hf')
 unfold gt iO at this
 unfold iE
 split
 ·rename_i hk;rw [if_pos hk] at this;exact ⟨_,_,rfl,this⟩
 ·rename_i hk;rw [if_neg hk] at this;exact ⟨_,_,rfl,this⟩
theorem wy (hK:PK H b F s t){o i:Int} (h:∀ H',Fr [] H H'->Q (.int .i64 (oH s.h o i)) H'):ac PP EV #[rd b,.int .i64 o,.int .i64 i] Q H:=by
 apply xk
 unfold Kj A0 iV pV cS
 have hf:Fr [] H (H.push (.cells #[.pointer (some ⟨b,0,none⟩)] 203)):=Fr.push _ _ _
 have hK1:=hK.nil hf
 refine ⟨_,(aV.new _ _ _).cell 0,oA hK1 fun H' hf'=>⟨_,rfl,lP (hK1.nil hf').kinds ?_⟩⟩
 have:=h H' (hf.trans hf')
 unfold oH eT at this
 unfold iE
 split
 ·rename_i hk;rw [if_pos hk] at this;exact ⟨_,_,rfl,this⟩
 ·rename_i hk;rw [if_neg hk] at this;exact ⟨_,_,rfl,this⟩
theorem rT (hK:PK H b F s t){o i:Int} (h:∀ H',Fr [] H H'->Q (.string (iw s.h t o i)) H'):ac PP Cc #[rd b,.int .i64 o,.int .i64 i] Q H:=by
 apply yR
 unfold Hv A0 iV pV sV cS
 have hf:Fr [] H (H.push (.cells #[.pointer (some ⟨b,0,none⟩)] 203)):=Fr.push _ _ _
 have hK1:=hK.nil hf
 refine ⟨_,(aV.new _ _ _).cell 0,oA hK1 fun H' hf'=>⟨_,rfl,oN (hK1.nil hf').kinds ?_⟩⟩
 have hB':=(aV.new H #[.pointer (some ⟨b,0,none⟩)] 203).fr hf' (by simp)
 have:=h H' (hf.trans hf')
 unfold iw sE at this
 unfold iE
 split
 ·rename_i hk
  rw [if_pos hk] at this
  refine ⟨_,_,rfl,?_⟩
  simp only [show ((0:Int) != 0)=false from rfl,cond_false]
  obtain ⟨tb,F2,hc,hT,_⟩:=(hK1.nil hf').tb
  refine ⟨_,hB'.cell 0,_,rfl,_,hc,pK hT ?_⟩
  unfold pF
  by_cases hlt:0<=kslot s.h o i / 4∧kslot s.h o i / 4<t.texts.length
  ·rw [dif_pos hlt]
   refine ⟨_,_,rfl,?_⟩
   have e:t.texts[(kslot s.h o i / 4).toNat]'(by omega)=tx t (kslot s.h o i / 4).toNat:=by
    unfold tx
    rw [List.getD_eq_getElem?_getD,List.getElem?_eq_getElem (by omega)];rfl
   rw [e];exact this
  ·rw [dif_neg hlt]
   refine ⟨_,_,rfl,?_⟩
   have hk':=aS (kslot s.h o i)
   have e:tx t (kslot s.h o i / 4).toNat=⟨#[]⟩:=by
    unfold tx
    rw [List.getD_eq_getElem?_getD,List.getElem?_eq_none (by omega)];rfl
   rw [e] at this;exact this
 ·rename_i hk
  rw [if_neg hk] at this
  exact ⟨_,_,rfl,this⟩
theorem iM (hK:PK H b F s t){o:Int} (h:∀ H',Fr [] H H'->Q (.int .i64 (ksize s.h o)) H'):ac PP EO #[rd b,.int .i64 o] Q H:=by
 apply AP
 unfold Kd A0 iV pV cS
 have hf:Fr [] H (H.push (.cells #[.pointer (some ⟨b,0,none⟩)] 203)):=Fr.push _ _ _
 obtain ⟨sb,F1,hc,hS,_⟩:=(hK.nil hf).sp
 refine ⟨_,(aV.new _ _ _).cell 0,_,rfl,_,hc,cE hS fun hb F2 hR _ _=>⟨_,rfl,kS hR ⟨_,_,_,rfl,h _ hf⟩⟩⟩
theorem jJ (hK:PK H b F s t){i:Int} (h:∀ H',Fr [] H H'->Q (.int .i64 (gt s.h 19 i)) H'):ac PP Eh #[rd b,.int .i64 i] Q H:=by
 apply Aq
 unfold Iz A0 iV pV cS
 have hf:Fr [] H (H.push (.cells #[.pointer (some ⟨b,0,none⟩)] 203)):=Fr.push _ _ _
 exact ⟨_,(aV.new _ _ _).cell 0,ny (hK.nil hf) fun H' hf'=>⟨_,rfl,h _ (hf.trans hf')⟩⟩
theorem sr (hK:PK H b F s t){o:Int} (h:∀ H',Fr [] H H'->Q (.int .i64 (if gt s.h o 1=1 then 0 else gt s.h o 1)) H'):ac PP Fe #[rd b,.int .i64 o] Q H:=by
 apply xD
 unfold Kx A0 iV pV cS
 have hf:Fr [] H (H.push (.cells #[.pointer (some ⟨b,0,none⟩)] 203)):=Fr.push _ _ _
 refine ⟨_,(aV.new _ _ _).cell 0,ny (hK.nil hf) fun H' hf'=>⟨_,rfl,?_⟩⟩
 have:=h _ (hf.trans hf')
 rw [aY,af]
 refine ap (fun h1=>?_) fun h1=>?_
 ·rw [if_neg h1] at this;exact this
 ·rw [if_pos (Classical.byContradiction h1)] at this;exact this
def fU (r:RH) (t:TB) (o:Int):List ByteArray:=(List.range (ksize r o).toNat).map fun i:Nat=>iw r t o i
theorem y8 (hK:PK H b F s t){o:Int} (h:∀ a l c G H',bK 1 H' a l c (bg (fU s.h t o)) G->Fr [] H H'->(∀ x∈G,H.size<=x)->Q (.slice a l c) H'):ac PP uP #[rd b,.int .i64 o] Q H:=by
 have hs1:aI PP 61=some (1,16,some (.string (⟨#[]⟩:ByteArray))):=by kernel_rfl
 have hn0:=kx (r:=s.h) o
 have hn1:=sJ hK.wfs.h o
 apply xN
 unfold Gh A0 iV wW pV sV lV cS
 have hf:Fr [] H (H.push (.cells #[.pointer (some ⟨b,0,none⟩)] 203)):=Fr.push _ _ _
 refine ⟨_,(aV.new _ _ _).cell 0,iM (hK.nil hf) fun H0 hf0=>⟨_,rfl,?_⟩⟩
 have hB0:=(aV.new H #[.pointer (some ⟨b,0,none⟩)] 203).fr hf0 (by simp)
 refine ⟨fun w H'=>∃(i:Nat) (a:Option Addr) (l' c:Nat) (G:az),w=[.slice a l' c,.int .i64 i]∧(i:Int)<=ksize s.h o∧bK 1 H' a l' c (bg ((fU s.h t o).take i)) G∧Fr [] H0 H'∧(∀ x∈G,H0.size<=x),fun w _=>match w with
  | [_,.int _ i]=>(ksize s.h o-i).toNat
  | _=>0,⟨0,none,0,0,[],rfl,hn0,by simpa [bg] using bK.nil 1 H0,Fr.refl _ _,by simp⟩,?_⟩
 rintro w H1 ⟨i,a1,l1,c1,G,rfl,hi,ho,hf1,hG⟩ _
 have hlen:(fU s.h t o).length=(ksize s.h o).toNat:=by simp [fU]
 have hl1:l1=i:=by have:=ho.len;simp only [bg,List.length_map,List.length_take] at this;omega
 have hF1:Fr [] H H1:=(hf.trans hf0).trans hf1
 refine ⟨_,_,_,_,rfl,?_⟩
 rw [af]
 refine ap (fun hlt=>?_) fun hlt=>?_
 ·have htk:(fU s.h t o).take (i+1)=(fU s.h t o).take i++[iw s.h t o i]:=by
   rw [List.take_add_one,List.getElem?_eq_getElem (by omega)];simp [fU]
  have e:IntKind.wrap .i64 ((i:Int)+1)=((i+1:Nat):Int):=by rw [ah (by omega) (by omega)];omega
  refine ⟨_,(hB0.fr hf1 (by simp)).cell 0,rT (hK.nil hF1) fun H2 hf2=>⟨_,rfl,?_⟩⟩
  refine bJ hs1 rfl (by kernel_rfl) (ho.fr hf2 (by simp)) rfl (by simp [dC]) (by omega) (by decide) (by decide) fun a' c' G2 H3 g1 g2 g3=>⟨_,_,_,rfl,?_⟩
  have hfr:=Up.fresh (hf1.trans hf2) g2 hG
  rw [e]
  refine ⟨⟨i+1,a',l1+1,c',G2,rfl,by omega,?_,hfr.1,hfr.2⟩,by simp;omega⟩
  rw [htk,eK];exact g1
 ·rw [List.take_of_length_le (by omega)] at ho
  exact h _ _ _ _ H1 ho hF1 fun x hx=>Nat.le_trans (hf.trans hf0).1 (hG x hx)
end
section
variable {H:ae}{b:Nat}{F:az}{s:SP}{t:TB}{v:KV}{Q:QT}
theorem yw (hK:PK H b F s t) (hv:KAllW s t v){o:Int} (h:∀ H',Fr [] H H'->Q (.bool (dw v o).isSome) H'):ac PP BF #[rd b,.int .i64 o] Q H:=by
 have hm1:=hv.ks.shape.many1
 apply yl
 unfold GI A0 iV wW pV cS
 have hf:Fr [] H (H.push (.cells #[.pointer (some ⟨b,0,none⟩)] 203)):=Fr.push _ _ _
 have hB:=aV.new H #[.pointer (some ⟨b,0,none⟩)] 203
 refine ⟨_,hB.cell 0,wy (hK.nil hf) fun H1 hf1=>⟨_,rfl,_,(hB.fr hf1 (by simp)).cell 0,?_⟩⟩
 have hF1:=hf.trans hf1
 refine jJ (hK.nil hF1) fun H2 hf2=>⟨_,rfl,?_⟩
 rw [hv.ks.root0]
 have hF2:=hF1.trans hf2
 have hB2:=(hB.fr hf1 (by simp)).fr hf2 (by simp)
 cases hp:dw v o with
 | some i =>
  rw [hp] at h
  obtain ⟨hi,he⟩:=dm hp
  have hb:=(oa hv.ks hi).1
  have hn:oH s.h o 6=(i:Int)+1:=by rw [←he];exact hv.ks.num hi
  rw [hn,af,if_pos (by omega),af,if_pos (by omega)]
  refine ⟨_,hB2.cell 0,iM (hK.nil hF2) fun H3 hf3=>⟨_,rfl,?_⟩⟩
  rw [hv.ks.size0,af,if_pos (by omega)]
  refine ⟨_,(hB2.fr hf3 (by simp)).cell 0,ny (hK.nil (hF2.trans hf3)) fun H4 hf4=>⟨_,rfl,?_⟩⟩
  have e:IntKind.wrap .i64 ((i:Int)+1-1)=(i:Nat):=by rw [ah (by omega) (by omega)];omega
  rw [e,(hv.ks.clsAt hi).2,he]
  have:=h H4 ((hF2.trans hf3).trans hf4)
  simpa using this
 | none =>
  rw [hp] at h
  rw [af]
  refine ap (fun h1=>?_) fun h1=>h _ hF2
  rw [af]
  refine ap (fun h2=>?_) fun h2=>h _ hF2
  refine ⟨_,hB2.cell 0,iM (hK.nil hF2) fun H3 hf3=>⟨_,rfl,?_⟩⟩
  rw [hv.ks.size0,af]
  refine ap (fun h3=>?_) fun h3=>h _ (hF2.trans hf3)
  refine ⟨_,(hB2.fr hf3 (by simp)).cell 0,ny (hK.nil (hF2.trans hf3)) fun H4 hf4=>⟨_,rfl,?_⟩⟩
  have hi:(oH s.h o 6-1).toNat<v.cls.length:=by omega
  have e:IntKind.wrap .i64 (oH s.h o 6-1)=((oH s.h o 6-1).toNat:Nat):=by rw [ah (by omega) (by omega)];omega
  have hne:=pM hp _ hi
  rw [e,(hv.ks.clsAt hi).2]
  have:=h H4 ((hF2.trans hf3).trans hf4)
  rw [aX,decide_eq_false hne];exact this
theorem rl (hK:PK H b F s t) (hv:KAllW s t v){o:Int} (h1:∀ i,dw v o=some i->∀ H',Fr [] H H'->Q (.tuple #[rd b,.int .i64 0]) H') (h2:dw v o=none->∀ H',Fr [] H H'->Q (.tuple #[.agg #[.pointer none],.int .i64 130]) H'):ac PP By #[.pointer (some ⟨b,0,none⟩),.int .i64 o] Q H:=by
 apply x7
 unfold KQ A0 iV pV cS;dsimp only [shH]
 have hf:Fr [] H (H.push (.cells #[.pointer none] 203)):=Fr.push _ _ _
 have hB:=aV.new H #[.pointer none] 203
 have hK1:=hK.nil hf
 generalize (H.push (.cells #[.pointer none] 203))=H1 at hf hB hK1 ⊢
 refine ii hK1 ⟨_,rfl,?_⟩
 simp only [Bool.not_true,cond_false]
 rw [la]
 have hf1:Fr [] H1 (H1.push (.cells #[.pointer (some ⟨b,0,none⟩)] 203)):=Fr.push _ _ _
 have hB1:=aV.new H1 #[.pointer (some ⟨b,0,none⟩)] 203
 refine ⟨aA.2 (by simp),_,hB1.cell 0,yw (hK1.nil hf1) hv fun H2 hf2=>⟨_,rfl,?_⟩⟩
 have hB2:=(hB.fr hf1 (by simp)).fr hf2 (by simp)
 have hF2:=(hf.trans hf1).trans hf2
 have hset:∀ x,Fr [] H (av H2 ⟨H.size,0,none⟩ x):=fun x=>Fr.late hF2 (Nat.le_refl _)
 cases hp:dw v o with
 | none =>
  simp only [Option.isSome_none,Bool.not_false,cond_true]
  exact ⟨hB2.wr (by simp),_,(hB2.set 0 _).cell 0,h2 hp _ (hset _)⟩
 | some i =>
  simp only [Option.isSome_some,Bool.not_true,cond_false]
  exact ⟨_,(hB1.fr hf2 (by simp)).cell 0,hB2.wr (by simp),_,(hB2.set 0 _).cell 0,h1 i hp _ (hset _)⟩
theorem pY (hK:PK H b F s t) (hv:KAllW s t v){o:Int} (h:∀ H',Fr [] H H'->Q (match dw v o with | some i=>.tuple #[.int .i64 ((i:Int)+1),.int .i64 0] | none=>.tuple #[.int .i64 0,.int .i64 130]) H'):ac PP Cw #[.pointer (some ⟨b,0,none⟩),.int .i64 o] Q H:=by
 apply zb
 unfold Ii A0 iV pV cS;dsimp only [shH]
 refine rl hK hv (fun i hp H1 hf=>?_) fun hp H1 hf=>?_
 ·refine ⟨_,_,rfl,aA.2 (by simp),?_⟩
  rw [hp] at h
  simp only [show ((0:Int) != 0)=false from rfl,cond_false]
  rw [la]
  have hf1:Fr [] H1 (H1.push (.cells #[.pointer (some ⟨b,0,none⟩)] 203)):=Fr.push _ _ _
  obtain ⟨hi,he⟩:=dm hp
  refine ⟨_,(aV.new H1 _ _).cell 0,wy (hK.nil (hf.trans hf1)) fun H2 hf2=>⟨_,rfl,?_⟩⟩
  have hn:oH s.h o 6=(i:Int)+1:=by rw [←he];exact hv.ks.num hi
  rw [hn];exact h _ ((hf.trans hf1).trans hf2)
 ·refine ⟨_,_,rfl,aA.2 (by simp),?_⟩
  rw [hp] at h
  simp only [show ((130:Int) != 0)=true from rfl,cond_true]
  rw [la]
  exact h _ hf.more
theorem wg (hK:PK H b F s t) (hv:KAllW s t v){o:Int} (h:∀ H',Fr [] H H'->Q (match dw v o with | some i=>.tuple #[.int .i64 (di v i),.int .i64 0] | none=>.tuple #[.int .i64 0,.int .i64 130]) H'):ac PP BM #[.pointer (some ⟨b,0,none⟩),.int .i64 o] Q H:=by
 apply yu
 unfold GN A0 iV pV cS;dsimp only [shH]
 refine rl hK hv (fun i hp H1 hf=>?_) fun hp H1 hf=>?_
 ·refine ⟨_,_,rfl,aA.2 (by simp),?_⟩
  rw [hp] at h
  simp only [show ((0:Int) != 0)=false from rfl,cond_false]
  rw [la]
  have hf1:Fr [] H1 (H1.push (.cells #[.pointer (some ⟨b,0,none⟩)] 203)):=Fr.push _ _ _
  obtain ⟨hi,he⟩:=dm hp
  refine ⟨_,(aV.new H1 _ _).cell 0,sr (hK.nil (hf.trans hf1)) fun H2 hf2=>⟨_,rfl,?_⟩⟩
  have hn:gt s.h o 1=(v.cls[i]).up:=by rw [←he];exact hv.ks.up hi
  have:=h _ ((hf.trans hf1).trans hf2)
  simp only [di,List.getElem?_eq_getElem hi] at this
  rw [hn];exact this
 ·refine ⟨_,_,rfl,aA.2 (by simp),?_⟩
  rw [hp] at h
  simp only [show ((130:Int) != 0)=true from rfl,cond_true]
  rw [la]
  exact h _ hf.more
theorem qh (hK:PK H b F s t) (hv:KS s v) (h:∀ H',Fr [] H H'->Q (.int .i64 (v.cls.length:Int)) H'):ac PP vt #[.pointer (some ⟨b,0,none⟩)] Q H:=by
 apply yW
 unfold HK A0 iV pV cS;dsimp only [shH]
 refine ii hK ⟨_,rfl,?_⟩
 simp only [Bool.not_true,cond_false]
 rw [la]
 have hf1:Fr [] H (H.push (.cells #[.pointer (some ⟨b,0,none⟩)] 203)):=Fr.push _ _ _
 have hB:=aV.new H #[.pointer (some ⟨b,0,none⟩)] 203
 refine ⟨aA.2 (by simp),_,hB.cell 0,_,hB.cell 0,jJ (hK.nil hf1) fun H2 hf2=>⟨_,rfl,⟨⟨(hB.fr hf2 (by simp)).cell 0,trivial⟩,trivial⟩,?_⟩⟩
 rw [hv.root0]
 refine iM (hK.nil (hf1.trans hf2)) fun H3 hf3=>⟨_,rfl,trivial,?_⟩
 rw [hv.size0];exact h _ ((hf1.trans hf2).trans hf3)
theorem Ab (hK:PK H b F s t) (hv:KAllW s t v) (h:∀ H',Fr [] H H'->Q (.int .i64 (v.cls.length:Int)) H'):ac PP vt #[.pointer (some ⟨b,0,none⟩)] Q H:=qh hK hv.ks h
theorem sZ (hK:PK H b F s t) (hv:KAllW s t v){name:ByteArray} (h:∀ H',Fr [] H H'->Q (.tuple #[.int .i64 (eh v t name).1,.int .i64 (eh v t name).2]) H'):ac PP Dm #[.pointer (some ⟨b,0,none⟩),.string name] Q H:=by
 have hm1:=hv.ks.shape.many1
 apply zJ
 unfold Hi A0 iV wW pV sV cS;dsimp only [shH]
 refine ii hK ⟨_,rfl,?_⟩
 simp only [Bool.not_true,cond_false]
 rw [la]
 have hf1:Fr [] H (H.push (.cells #[.pointer (some ⟨b,0,none⟩)] 203)):=Fr.push _ _ _
 have hB:=aV.new H #[.pointer (some ⟨b,0,none⟩)] 203
 refine ⟨aA.2 (by simp),_,hB.cell 0,jJ (hK.nil hf1) fun H2 hf2=>⟨_,rfl,?_⟩⟩
 rw [hv.ks.root0]
 have hF2:=hf1.trans hf2
 have hB2:=hB.fr hf2 (by simp)
 refine ⟨_,hB2.cell 0,iM (hK.nil hF2) fun H3 hf3=>⟨_,rfl,?_⟩⟩
 rw [hv.ks.size0]
 have hF3:=hF2.trans hf3
 have hB3:=hB2.fr hf3 (by simp)
 refine ⟨fun w H'=>∃ i:Nat,w=[.int .i64 i]∧i<=v.cls.length∧Fr [] H3 H'∧∀ j (hj:j<v.cls.length),j<i->tx t (v.cls[j]).name≠name,fun w _=>match w with
  | [.int _ i]=>(v.cls.length-i).toNat
  | _=>0,⟨0,rfl,Nat.zero_le _,Fr.refl _ _,fun j _ hj=>by omega⟩,?_⟩
 rintro w H4 ⟨i,rfl,hi,hf4,hno⟩ _
 have hF4:=hF3.trans hf4
 have hB4:=hB3.fr hf4 (by simp)
 refine ⟨_,rfl,?_⟩
 rw [af]
 refine ap (fun hlt=>?_) fun hlt=>?_
 ·have hlt':i<v.cls.length:=by omega
  refine ⟨_,hB4.cell 0,ny (hK.nil hF4) fun H5 hf5=>⟨_,rfl,_,(hB4.fr hf5 (by simp)).cell 0,?_⟩⟩
  rw [(hv.ks.clsAt hlt').2]
  refine rT (hK.nil (hF4.trans hf5)) fun H6 hf6=>⟨_,rfl,?_⟩
  rw [hv.name hlt',dS,af]
  refine ap (fun he=>?_) fun he=>?_
  ·have hfd:eh v t name=((v.cls[i]).oop,0):=by
    unfold eh
    have:v.cls.findIdx? (fun c=>decide (tx t c.name=name))=some i:=by
     rw [List.findIdx?_eq_some_iff_getElem]
     exact ⟨hlt',by simpa using he,fun j hj=>by simpa using hno j (by omega) hj⟩
    rw [this]
    simp [hlt']
   rw [hfd] at h
   exact h _ ((hF4.trans hf5).trans hf6)
  ·have e:IntKind.wrap .i64 ((i:Int)+1)=((i+1:Nat):Int):=by rw [ah (by omega) (by omega)];omega
   rw [e]
   refine ⟨⟨i+1,rfl,by omega,(hf4.trans hf5).trans hf6,fun j hj hji=>?_⟩,by simp;omega⟩
   rcases Nat.lt_or_ge j i with h1 | h1
   ·exact hno j hj h1
   ·have:j=i:=by omega
    subst this;exact he
 ·have hfd:eh v t name=(0,130):=by
   unfold eh
   have:v.cls.findIdx? (fun c=>decide (tx t c.name=name))=none:=by
    rw [List.findIdx?_eq_none_iff]
    intro c hc
    obtain ⟨j,hj,rfl⟩:=hv.ks.view.idx hc
    simpa using hno j hj (by omega)
   rw [this]
  rw [hfd] at h
  exact h _ hF4
end
section
variable {H:ae}{b:Nat}{F:az}{s:SP}{t:TB}{v:KV}{Q:QT}
theorem nI (hK:PK H b F s t){o:Int} (h:∀ a l c G H',bK 1 H' a l c (ag (kwords s.h o)) G->Fr [] H H'->(∀ x∈G,H.size<=x)->Q (.slice a l c) H'):ac PP CB #[rd b,.int .i64 o] Q H:=by
 have hs1:aI PP 30=some (1,8,some (.int .i64 0)):=by kernel_rfl
 have hn0:=kx (r:=s.h) o
 have hn1:=sJ hK.wfs.h o
 apply zf
 unfold Ir A0 iV wW pV lV cS
 have hf:Fr [] H (H.push (.cells #[.pointer (some ⟨b,0,none⟩)] 203)):=Fr.push _ _ _
 refine ⟨_,(aV.new _ _ _).cell 0,iM (hK.nil hf) fun H0 hf0=>⟨_,rfl,?_⟩⟩
 have hB0:=(aV.new H #[.pointer (some ⟨b,0,none⟩)] 203).fr hf0 (by simp)
 refine ⟨fun w H'=>∃(i:Nat) (a:Option Addr) (l' c:Nat) (G:az),w=[.slice a l' c,.int .i64 i]∧(i:Int)<=ksize s.h o∧bK 1 H' a l' c (ag ((kwords s.h o).take i)) G∧Fr [] H0 H'∧(∀ x∈G,H0.size<=x),fun w _=>match w with
  | [_,.int _ i]=>(ksize s.h o-i).toNat
  | _=>0,⟨0,none,0,0,[],rfl,hn0,by simpa [ag] using bK.nil 1 H0,Fr.refl _ _,by simp⟩,?_⟩
 rintro w H1 ⟨i,a1,l1,c1,G,rfl,hi,ho,hf1,hG⟩ _
 have hlen:(kwords s.h o).length=(ksize s.h o).toNat:=by simp [kwords]
 have hl1:l1=i:=by have:=ho.len;simp only [ag,List.length_map,List.length_take] at this;omega
 have hF1:Fr [] H H1:=(hf.trans hf0).trans hf1
 refine ⟨_,_,_,_,rfl,?_⟩
 rw [af]
 refine ap (fun hlt=>?_) fun hlt=>?_
 ·have htk:(kwords s.h o).take (i+1)=(kwords s.h o).take i++[kslot s.h o i]:=by
   rw [List.take_add_one,List.getElem?_eq_getElem (by omega)];simp [kwords]
  have e:IntKind.wrap .i64 ((i:Int)+1)=((i+1:Nat):Int):=by rw [ah (by omega) (by omega)];omega
  refine ⟨_,(hB0.fr hf1 (by simp)).cell 0,oA (hK.nil hF1) fun H2 hf2=>⟨_,rfl,?_⟩⟩
  refine bJ hs1 rfl (by kernel_rfl) (ho.fr hf2 (by simp)) rfl (by simp [dC]) (by omega) (by decide) (by decide) fun a' c' G2 H3 g1 g2 g3=>⟨_,_,_,rfl,?_⟩
  have hfr:=Up.fresh (hf1.trans hf2) g2 hG
  rw [e]
  refine ⟨⟨i+1,a',l1+1,c',G2,rfl,by omega,?_,hfr.1,hfr.2⟩,by simp;omega⟩
  rw [htk,bX];exact g1
 ·rw [List.take_of_length_le (by omega)] at ho
  exact h _ _ _ _ H1 ho hF1 fun x hx=>Nat.le_trans (hf.trans hf0).1 (hG x hx)
theorem tP (hK:PK H b F s t) (hv:KAllW s t v) (h:∀ a l c G H',bK 1 H' a l c (bg (eP v t)) G->Fr [] H H'->(∀ x∈G,H.size<=x)->Q (.slice a l c) H'):ac PP De #[.pointer (some ⟨b,0,none⟩)] Q H:=by
 have hs1:aI PP 61=some (1,16,some (.string (⟨#[]⟩:ByteArray))):=by kernel_rfl
 have hg:=hv.ks.shape.globs
 apply zF
 unfold IX A0 iV wW pV sV lV cS;dsimp only [shH]
 refine ii hK ⟨_,rfl,?_⟩
 simp only [Bool.not_true,cond_false]
 rw [la]
 have hf1:Fr [] H (H.push (.cells #[.pointer (some ⟨b,0,none⟩)] 203)):=Fr.push _ _ _
 have hB:=aV.new H #[.pointer (some ⟨b,0,none⟩)] 203
 refine ⟨aA.2 (by simp),_,hB.cell 0,jJ (hK.nil hf1) fun H2 hf2=>⟨_,rfl,?_⟩⟩
 rw [hv.ks.root1]
 have hF2:=hf1.trans hf2
 have hB2:=hB.fr hf2 (by simp)
 refine ⟨_,hB2.cell 0,iM (hK.nil hF2) fun H0 hf0=>⟨_,rfl,?_⟩⟩
 rw [hv.ks.size1]
 have hF0:=hF2.trans hf0
 have hB0:=hB2.fr hf0 (by simp)
 have ed:IntKind.wrap .i64 (Int.tdiv (2*(v.glob.length:Int)) 2)=v.glob.length:=by
  rw [show Int.tdiv (2*(v.glob.length:Int)) 2=v.glob.length by rw [Int.tdiv_eq_ediv_of_nonneg (by omega)];omega]
  exact ah (by omega) (by omega)
 have hlen:(eP v t).length=v.glob.length:=by simp [eP]
 refine ⟨fun w H'=>∃(i:Nat) (a:Option Addr) (l' c:Nat) (G:az),w=[.slice a l' c,.int .i64 i]∧i<=v.glob.length∧bK 1 H' a l' c (bg ((eP v t).take i)) G∧Fr [] H0 H'∧(∀ x∈G,H0.size<=x),fun w _=>match w with
  | [_,.int _ i]=>(v.glob.length-i).toNat
  | _=>0,⟨0,none,0,0,[],rfl,Nat.zero_le _,by simpa [bg] using bK.nil 1 H0,Fr.refl _ _,by simp⟩,?_⟩
 rintro w H1 ⟨i,a1,l1,c1,G,rfl,hi,ho,hf3,hG⟩ _
 have hl1:l1=i:=by have:=ho.len;simp only [bg,List.length_map,List.length_take] at this;omega
 have hF1:Fr [] H H1:=hF0.trans hf3
 refine ⟨_,_,_,_,rfl,?_⟩
 rw [ed,af]
 refine ap (fun hlt=>?_) fun hlt=>?_
 ·have hlt':i<v.glob.length:=by omega
  have htk:(eP v t).take (i+1)=(eP v t).take i++[tx t v.glob[i].1]:=by
   rw [List.take_add_one,List.getElem?_eq_getElem (by omega)];simp [eP]
  have e:IntKind.wrap .i64 ((i:Int)+1)=((i+1:Nat):Int):=by rw [ah (by omega) (by omega)];omega
  have e2:IntKind.wrap .i64 (2*(i:Int))=((2*i:Nat):Int):=by rw [ah (by omega) (by omega)];omega
  rw [e2]
  refine ⟨_,(hB0.fr hf3 (by simp)).cell 0,rT (hK.nil hF1) fun H2 hf4=>⟨_,rfl,?_⟩⟩
  rw [hv.gname hlt']
  refine bJ hs1 rfl (by kernel_rfl) (ho.fr hf4 (by simp)) rfl (by simp [dC]) (by omega) (by decide) (by decide) fun a' c' G2 H3 g1 g2 g3=>⟨_,_,_,rfl,?_⟩
  have hfr:=Up.fresh (hf3.trans hf4) g2 hG
  rw [e]
  refine ⟨⟨i+1,a',l1+1,c',G2,rfl,by omega,?_,hfr.1,hfr.2⟩,by simp;omega⟩
  rw [htk,eK];exact g1
 ·rw [List.take_of_length_le (by omega)] at ho
  exact h _ _ _ _ H1 ho hF1 fun x hx=>Nat.le_trans hF0.1 (hG x hx)
theorem Li (hK:PK H b F s t) (hv:KAllW s t v){w:Int} (h:Q (.tuple #[.int .i64 (uM s.h w).1,.int .i64 (uM s.h w).2]) H):ac PP Ep #[.pointer (some ⟨b,0,none⟩),.int .i64 w] Q H:=by
 apply yk
 unfold Fo iV pV cS
 unfold uM at h
 refine ii hK ⟨_,rfl,?_⟩
 simp only [Bool.not_true,cond_false]
 refine fS hK.kinds ⟨_,rfl,?_⟩
 rw [aX,aX,aX,af]
 refine ap (fun h1=>?_) fun h1=>?_
 ·rw [if_pos h1] at h;exact h
 rw [if_neg h1] at h
 rw [af]
 refine ap (fun h2=>?_) fun h2=>?_
 ·rw [if_pos h2] at h;exact h
 rw [if_neg h2] at h
 rw [af]
 refine ap (fun h3=>?_) fun h3=>?_
 ·rw [if_pos h3] at h
  refine fG hK.kinds ?_
  unfold iE
  rw [if_pos h3]
  obtain ⟨sb,F1,hc,hS,_⟩:=hK.sp
  refine ⟨_,_,rfl,_,rfl,_,hc,cE hS fun hb F2 hR _ _=>⟨_,rfl,fO hR ?_⟩⟩
  unfold RH.clsAt at h ⊢
  cases ho:am s.h.objs (w / 4) with
  | none=>rw [ho] at h;exact ⟨_,_,rfl,h⟩
  | some x =>
   rw [ho] at h
   refine ⟨_,_,rfl,?_⟩
   have hc:=hv.ks.gc x (au ho).1
   simp only [show ((0:Int) != 0)=false from rfl,cond_false]
   refine fG hK.kinds ?_
   unfold iE
   rw [if_pos hc]
   refine ⟨_,_,rfl,?_⟩
   simp only [iO,if_pos hc] at h
   exact h
 ·rw [if_neg h3] at h;exact h
end
section
variable {H:ae}{b:Nat}{F:az}{s:SP}{t:TB}{v:KV}{Q:QT}
theorem rn (hv:KAllW s t v){i:Nat} (hi:i<v.cls.length):fU s.h t (v.cls[i]).ownA=(v.cls[i]).own.map (tx t):=by
 unfold fU
 rw [hv.ks.ownL hi,Int.toNat_natCast]
 apply List.ext_getElem (by simp)
 intro j h1 h2
 simp only [List.getElem_map,List.getElem_range]
 exact hv.ownT hi (by simpa using h2)
theorem pZ (hv:KAllW s t v):∀ (i:Nat){H:ae}{Q:QT} (hK:PK H b F s t) (hi:i<v.cls.length) (h:∀ a l c G H',bK 1 H' a l c (bg ((bp v i).map (tx t))) G->Fr [] H H'->(∀ x∈G,H.size<=x)->Q (.slice a l c) H'),ac PP wV #[rd b,.int .i64 (v.cls[i]).oop] Q H:=by
 intro i
 induction i using Nat.strongRecOn with
 | ind i ih =>
  intro H Q hK hi h
  have hs1:aI PP 61=some (1,16,some (.string (⟨#[]⟩:ByteArray))):=by kernel_rfl
  have hm1:=hv.ks.shape.many1
  have hb:=oa hv.ks hi
  have hfl:=lQ hv.ks i hi
  apply rY
  unfold BQ A0 iV pV lV cS
  rw [aX,af,if_neg (by omega)]
  have hf:Fr [] H (H.push (.cells #[.pointer (some ⟨b,0,none⟩)] 203)):=Fr.push _ _ _
  have hB:=aV.new H #[.pointer (some ⟨b,0,none⟩)] 203
  refine ⟨_,hB.cell 0,_,hB.cell 0,_,hB.cell 0,_,hB.cell 0,sr (hK.nil hf) fun H1 hf1=>⟨_,rfl,?_⟩⟩
  have hB1:=hB.fr hf1 (by simp)
  have hF1:=hf.trans hf1
  refine ⟨⟨⟨hB1.cell 0,trivial⟩,⟨hB1.cell 0,trivial⟩,⟨hB1.cell 0,trivial⟩,trivial⟩,?_⟩
  have es:(if gt s.h (v.cls[i]).oop 1=1 then 0 else gt s.h (v.cls[i]).oop 1)=di v i:=by
   rw [hv.ks.up hi];unfold di;rw [List.getElem?_eq_getElem hi]
  rw [es]
  have fin:∀ (l:List Nat) (hl:bp v i=l++(v.cls[i]).own) (a:Option Addr) (n c:Nat) (G:az) (H2:ae),bK 1 H2 a n c (bg (l.map (tx t))) G->Fr [] H1 H2->(∀ x∈G,H1.size<=x) ->
    ∃ a10 l10 c10,Value.slice a n c=.slice a10 l10 c10∧((aa H2 ⟨H.size,0,none⟩=some (.pointer (some ⟨b,0,none⟩))∧True)∧((aa H2 ⟨H.size,0,none⟩=some (.pointer (some ⟨b,0,none⟩))∧True)∧True))∧ac PP wR #[rd b,.int .i64 (v.cls[i]).oop,.int .i64 2] (fun v11 H3=>∃ n12:Int,v11=.int .i64 n12∧((aa H3 ⟨H.size,0,none⟩=some (.pointer (some ⟨b,0,none⟩))∧True)∧True)∧ac PP uP #[rd b,.int .i64 n12] (fun v13 H4=>∃ a14:Option Addr,∃ l14:Nat,∃ c14:Nat,v13=.slice a14 l14 c14∧True∧aK PP (Builtin.append_ #[61,61] 61 #[.slice a10 l10 c10,.slice a14 l14 c14]) (fun v15 H5=>∃ a16:Option Addr,∃ l16:Nat,∃ c16:Nat,v15=.slice a16 l16 c16∧True∧Q (.slice a16 l16 c16) H5) H4) H3) H2:=by
   intro l hl a n c G H2 ho hf2 hG
   have hB2:=hB1.fr hf2 (by simp)
   refine ⟨_,_,_,rfl,⟨⟨hB2.cell 0,trivial⟩,⟨hB2.cell 0,trivial⟩,trivial⟩,ny (hK.nil (hF1.trans hf2)) fun H3 hf3=>⟨_,rfl,⟨⟨(hB2.fr hf3 (by simp)).cell 0,trivial⟩,trivial⟩,?_⟩⟩
   rw [hv.ks.ownO hi]
   refine y8 (hK.nil ((hF1.trans hf2).trans hf3)) fun a3 l3 c3 G3 H4 ho3 hf4 hG3=>⟨_,_,_,rfl,trivial,?_⟩
   rw [rn hv hi] at ho3
   have hlen:n+l3<=8192*(i+1):=by
    have h1:=ho.len
    have h2:=ho3.len
    rw [hl,List.length_append] at hfl
    simp only [bg,List.length_map] at h1 h2
    omega
   refine dn hs1 rfl (by kernel_rfl) (ho.fr (hf3.trans hf4) (by simp)) ho3.rd tV (by omega) (by decide) (by decide) fun a' c' G4 H5 g1 g2 g3=>⟨_,_,_,rfl,trivial,?_⟩
   have hfr:=Up.fresh ((hf2.trans hf3).trans hf4) g2 hG
   refine h _ _ _ G4 H5 ?_ (hF1.trans hfr.1) fun x hx=>Nat.le_trans hF1.1 (hfr.2 x hx)
   rw [hl,List.map_append,eK];exact g1
  rcases hv.ks.upI hi with ⟨h0,e0,_⟩ | ⟨j,hj,hlt,e0,_,e⟩
  ·rw [e0]
   show ac PP wV #[rd b,.int .i64 0] _ H1
   apply rY
   unfold BQ A0 iV pV lV cS
   simp only [show ((0:Int) == 0)=true from rfl,cond_true]
   subst h0
   exact fin [] (by rw [hv.ks.fields0 hi];rfl) none 0 0 [] _ (by simpa [bg] using bK.nil 1 _) (Fr.push _ _ _) (by simp)
  ·rw [e0]
   exact ih j hlt (hK.nil hF1) hj fun a n c G H2 ho hf2 hG=>fin (bp v j) (hv.ks.fieldsS hi hlt e) a n c G H2 ho hf2 hG
theorem uJ (hK:PK H b F s t) (hv:KAllW s t v){o:Int} (h1:∀ i,dw v o=some i->∀ a l c G H',bK 1 H' a l c (bg ((bp v i).map (tx t))) G->Fr [] H H'->(∀ x∈G,H.size<=x)->Q (.tuple #[.slice a l c,.int .i64 0]) H')
  (h2:dw v o=none->∀ H',Fr [] H H'->Q (.tuple #[.slice none 0 0,.int .i64 130]) H'):ac PP D9 #[.pointer (some ⟨b,0,none⟩),.int .i64 o] Q H:=by
 apply Al
 unfold Iv A0 iV pV lV cS;dsimp only [shH]
 refine rl hK hv (fun i hp H1 hf=>?_) fun hp H1 hf=>?_
 ·refine ⟨_,_,rfl,aA.2 (by simp),?_⟩
  simp only [show ((0:Int) != 0)=false from rfl,cond_false]
  rw [la]
  have hf1:Fr [] H1 (H1.push (.cells #[.pointer (some ⟨b,0,none⟩)] 203)):=Fr.push _ _ _
  obtain ⟨hi,he⟩:=dm hp
  refine ⟨_,(aV.new H1 _ _).cell 0,?_⟩
  rw [←he]
  refine pZ hv i (hK.nil (hf.trans hf1)) hi fun a l c G H2 ho hf2 hG=>⟨_,_,_,rfl,h1 i hp _ _ _ G H2 ho ((hf.trans hf1).trans hf2) fun x hx=>Nat.le_trans (hf.trans hf1).1 (hG x hx)⟩
 ·refine ⟨_,_,rfl,aA.2 (by simp),?_⟩
  simp only [show ((130:Int) != 0)=true from rfl,cond_true]
  rw [la]
  exact h2 hp _ hf.more
end
end Go.Proofs.YtgjfejoohojokaaGreatDoor
namespace Kw
open Go
def gB (s:ByteArray) (i:Nat):Nat:=(s[i]?.getD 0).toNat
theorem yg {s:ByteArray}{i:Nat}{u:UInt8} (h:s[i]?=some u):gB s i=u.toNat:=by unfold gB;rw [h];rfl
def dg (n:Nat):Prop:=(97<=n∧n<=122)∨(65<=n∧n<=90)∨(48<=n∧n<=57)
instance (n:Nat):Decidable (dg n):=inferInstanceAs (Decidable (_∨_∨_))
def fX (lo hi:Nat) (s:ByteArray):Prop:=1<=s.size∧s.size<=32∧lo<=gB s 0∧gB s 0<=hi∧∀ i,i<s.size->dg (gB s i)
noncomputable instance (lo hi:Nat) (s:ByteArray):Decidable (fX lo hi s):=Classical.propDecidable _
def wv (s:ByteArray):Prop:=s=⟨#[115,101,108,102]⟩∨s=⟨#[115,117,112,101,114]⟩∨s=⟨#[110,105,108]⟩∨s=⟨#[116,114,117,101]⟩∨s=⟨#[102,97,108,115,101]⟩
instance (s:ByteArray):Decidable (wv s):=inferInstanceAs (Decidable (_∨_))
def fw (s:ByteArray):Prop:=¬ wv s∧fX 97 122 s
noncomputable instance (s:ByteArray):Decidable (fw s):=Classical.propDecidable _
noncomputable instance memBA (s:ByteArray) (l:List ByteArray):Decidable (s∈l):=Classical.propDecidable _
noncomputable def ma (inh pre:List ByteArray):List ByteArray->Int
 | []=>0
 | s :: l=>if ¬ fw s then 133 else if s∈pre then 134 else if s∈inh then 135 else ma inh (pre++[s]) l
def gA (v:KV) (t:TB) (name:ByteArray):Prop:=(eh v t name).2=0∨name∈eP v t
noncomputable instance (v:KV) (t:TB) (name:ByteArray):Decidable (gA v t name):=Classical.propDecidable _
noncomputable def jM (v:KV) (t:TB) (name sup:ByteArray) (own:List ByteArray):Int × Int :=
 if ¬ fX 65 90 name then (0,133)
 else if gA v t name then (0,131)
 else if (eh v t sup).2≠0 then (0,(eh v t sup).2)
 else match dw v (eh v t sup).1 with
  | none=>(0,130)
  | some j=>if 1<=j∧j<14 then (0,132)
   else if ma ((bp v j).map (tx t)) [] own≠0 then (0,ma ((bp v j).map (tx t)) [] own)
   else if 32<(bp v j).length+own.length then (0,137)
   else if 256<=v.cls.length then (0,138)
   else ((eh v t sup).1,0)
theorem gN (v:KV) (t:TB) (name:ByteArray):(eh v t name=(0,130)∧∀ c∈v.cls,tx t c.name≠name)∨∃ i,∃ hi:i<v.cls.length,eh v t name=((v.cls[i]).oop,0)∧tx t (v.cls[i]).name=name:=by
 unfold eh
 cases hx:v.cls.findIdx? (fun c=>decide (tx t c.name=name)) with
 | none =>
  left
  rw [List.findIdx?_eq_none_iff] at hx
  exact ⟨rfl,fun c hc=>by simpa using hx c hc⟩
 | some i =>
  right
  rw [List.findIdx?_eq_some_iff_getElem] at hx
  obtain ⟨hi,h1,_⟩:=hx
  exact ⟨i,hi,by simp [hi],by simpa using h1⟩
noncomputable def bc (s:SP) (v:KV) (t:TB) (name sup:ByteArray) (own:List ByteArray):(Int × Int) × SP × TB :=
 if (jM v t name sup own).2≠0 then ((0,(jM v t name sup own).2),s,t) else bn s t v.clsW name (jM v t name sup own).1 own
theorem zW {s:SP}{v:KV}{t:TB} (hv:KAllW s t v){name sup:ByteArray}{own:List ByteArray} (h:(jM v t name sup own).2=0) :
  ∃ j,∃ hj:j<v.cls.length,(jM v t name sup own).1=(v.cls[j]).oop∧v.cls.length<256∧(∀ c∈v.cls,tx t c.name≠name)∧eh v t sup=((v.cls[j]).oop,0)∧dw v (v.cls[j]).oop=some j:=by
 unfold jM at h ⊢
 split at h
 ·cases h
 rename_i h1
 split at h
 ·cases h
 rename_i h2
 split at h
 ·rename_i h3;exact absurd h h3
 rename_i h3
 rw [if_neg h1,if_neg h2,if_neg h3]
 rcases gN v t sup with ⟨e,_⟩ | ⟨j,hj,e,_⟩
 ·rw [e] at h3;simp at h3
 rw [e] at h ⊢
 have hp:=hv.ks.idx hj
 simp only [hp] at h ⊢
 split at h
 ·cases h
 rename_i h4
 split at h
 ·rename_i h5;exact absurd h h5
 rename_i h5
 split at h
 ·cases h
 rename_i h6
 split at h
 ·cases h
 rename_i h7
 rw [if_neg h4,if_neg h5,if_neg h6,if_neg h7]
 refine ⟨j,hj,rfl,by omega,?_,rfl,hp⟩
 rcases gN v t name with ⟨_,h8⟩ | ⟨i,hi,e',_⟩
 ·exact h8
 ·exact absurd (.inl (by rw [e'])) h2
theorem xd {v:KV}{t:TB}{name sup:ByteArray}{own:List ByteArray} (h:(jM v t name sup own).2=0):own.length<=32:=by
 unfold jM at h
 split at h
 ·cases h
 split at h
 ·cases h
 split at h
 ·rename_i h3;exact absurd h h3
 split at h
 ·cases h
 split at h
 ·cases h
 split at h
 ·rename_i h5;exact absurd h h5
 split at h
 ·cases h
 ·omega
end Kw
namespace Go.Proofs.YtgjfejoohojokaaGreatDoor
open Kw
theorem DJ {s:ByteArray}{i:Nat} (h:i<s.size):s[i]?=some s[i]∧(s[i]).toNat=gB s i:=by
 have:s[i]?=some s[i]:=by simp [h]
 exact ⟨this,by rw [yg this]⟩
section
variable {H:ae}{b:Nat}{F:az}{s:SP}{t:TB}{v:KV}{Q:QT}
theorem rV {x:ByteArray}{lo up:Nat} (h:∀ H',Fr [] H H'->Q (.bool (decide (fX lo up x))) H'):ac PP BC #[.string x,.int .u8 lo,.int .u8 up] Q H:=by
 apply yj
 unfold GH iV wW sV lV
 have no:¬ fX lo up x->∀ H',Fr [] H H'->Q (.bool false) H':=fun hn H' hf=>by have:=h H' hf;rw [decide_eq_false hn] at this;exact this
 rw [dS,af]
 refine ap (fun h1=>no (fun hn=>?_) _ (Fr.refl _ _)) fun h1=>?_
 ·have:=hn.1;rw [h1] at this;exact absurd this (by decide)
 have hpos:0<x.size:=by
  rcases Nat.eq_zero_or_pos x.size with h0 | h0
  ·exfalso;apply h1
   obtain ⟨d⟩:=x
   have:d=#[]:=Array.eq_empty_of_size_eq_zero h0
   rw [this]
  ·exact h0
 rw [af]
 refine ap (fun h2=>no (fun hn=>by have:=hn.2.1;omega) _ (Fr.refl _ _)) fun h2=>?_
 obtain ⟨g1,g2⟩:=DJ hpos
 refine ⟨_,⟨Int.le_refl 0,g1⟩,?_⟩
 rw [g2,af]
 refine ap (fun h3=>no (fun hn=>by have:=hn.2.2.1;omega) _ (Fr.refl _ _)) fun h3=>⟨_,⟨Int.le_refl 0,g1⟩,?_⟩
 rw [g2,af]
 refine ap (fun h4=>no (fun hn=>by have:=hn.2.2.2.1;omega) _ (Fr.refl _ _)) fun h4=>?_
 refine uh (e:=5) (by kernel_rfl) (by kernel_rfl) (by kernel_rfl) fun cap H0 hf0 hcell=>⟨_,_,_,rfl,?_⟩
 refine ⟨fun w H'=>H'=H0∧∃ i:Nat,w=[.int .i64 i]∧i<=x.size∧∀ j,j<i->dg (gB x j),fun w _=>match w with
  | [.int _ i]=>(x.size-i).toNat
  | _=>0,⟨rfl,0,rfl,Nat.zero_le _,fun j hj=>by omega⟩,?_⟩
 rintro w H1 ⟨rfl,i,rfl,hi,hall⟩ _
 refine ⟨_,rfl,?_⟩
 rw [af]
 refine ap (fun hlt=>?_) fun hlt=>?_
 ·have hlt':i<x.size:=by omega
  have e:IntKind.wrap .i64 ((i:Int)+1)=((i+1:Nat):Int):=by rw [ah (by omega) (by omega)];omega
  have hc:=hcell i hlt'
  have hgb:((x[i]?.getD 0).toNat:Int)=(gB x i:Int):=rfl
  rw [hgb] at hc
  refine ⟨⟨by omega,hlt⟩,_,rfl,_,by rw [Int.toNat_natCast,Nat.mul_one,al,Nat.zero_add];exact hc,?_⟩
  have go:dg (gB x i)->(True∧∃ i_1:Nat,[Value.int .i64 (IntKind.wrap .i64 ((i:Int)+1))]=[.int .i64 i_1]∧i_1<=x.size∧∀ j,j<i_1->dg (gB x j))∧((x.size:Int)-(IntKind.wrap .i64 ((i:Int)+1))).toNat<((x.size:Int)-(i:Int)).toNat:=fun ha=>by
   rw [e]
   refine ⟨⟨trivial,i+1,rfl,by omega,fun j hj=>?_⟩,by omega⟩
   rcases Nat.lt_or_ge j i with h5 | h5
   ·exact hall j h5
   ·have:j=i:=by omega
    rw [this];exact ha
  have bad:¬ dg (gB x i)->Q (.bool false) H1:=fun ha=>no (fun hn=>ha (hn.2.2.2.2 i hlt')) _ hf0
  simp only [af]
  refine ap (fun c1=>ap (fun c2=>ap (fun c3=>bad (by unfold dg;omega)) fun c3=>ap (fun c4=>bad (by unfold dg;omega)) fun c4=>go (by unfold dg;omega)) fun c2=>ap (fun c3=>ap (fun c4=>bad (by unfold dg;omega)) fun c4=>ap (fun c5=>bad (by unfold dg;omega)) fun c5=>go (by unfold dg;omega)) fun c3=>go (by unfold dg;omega)) fun c1=>ap (fun c2=>ap (fun c3=>ap (fun c4=>bad (by unfold dg;omega)) fun c4=>ap (fun c5=>bad (by unfold dg;omega)) fun c5=>go (by unfold dg;omega)) fun c3=>ap (fun c4=>ap (fun c5=>bad (by unfold dg;omega)) fun c5=>ap (fun c6=>bad (by unfold dg;omega)) fun c6=>go (by unfold dg;omega)) fun c4=>go (by unfold dg;omega)) fun c2=>go (by unfold dg;omega)
 ·have:i=x.size:=by omega
  subst this
  have:=h H1 hf0
  have hok:fX lo up x:=⟨hpos,by omega,by omega,by omega,hall⟩
  rw [decide_eq_true hok] at this
  exact this
theorem yf {x:ByteArray} (h:∀ H',Fr [] H H'->Q (.bool (decide (fw x))) H'):ac PP CU #[.string x] Q H:=by
 apply zy
 unfold GM sV cS
 have no:¬ fw x->Q (.bool false) H:=fun hn=>by have:=h H (Fr.refl _ _);rw [decide_eq_false hn] at this;exact this
 simp only [dS,af]
 refine ap (fun h1=>no fun hn=>hn.1 (.inl h1)) fun h1=>ap (fun h2=>no fun hn=>hn.1 (.inr (.inl h2))) fun h2=>ap (fun h3=>no fun hn=>hn.1 (.inr (.inr (.inl h3)))) fun h3=>ap (fun h4=>no fun hn=>hn.1 (.inr (.inr (.inr (.inl h4))))) fun h4=>ap (fun h5=>no fun hn=>hn.1 (.inr (.inr (.inr (.inr h5))))) fun h5=>?_
 refine rV (lo:=97) (up:=122) fun H' hf=>⟨_,rfl,?_⟩
 have:=h H' hf
 have e:decide (fw x)=decide (fX 97 122 x):=by
  rw [decide_eq_decide]
  unfold fw wv
  constructor
  ·exact fun h=>h.2
  ·exact fun hn=>⟨fun h=>by rcases h with h | h | h | h | h <;> contradiction,hn⟩
 rw [e] at this;exact this
theorem iK {a:Option Addr}{l c:Nat}{xs:List ByteArray}{x:ByteArray} (hk:Rd 1 H a l (bg xs)) (hlk:l<=1000000000000000) (h:Q (.bool (decide (x∈xs))) H):ac PP EC #[.slice a l c,.string x] Q H:=by
 have hl:l=xs.length:=by have:=hk.1;simpa [bg] using this.symm
 apply AG
 unfold IW iV sV lV
 apply xi
 unfold Ki iV wW sV
 refine ⟨fun w H'=>H'=H∧∃ i:Nat,w=[.int .i64 i]∧i<=l∧∀ j (hj:j<xs.length),j<i->xs[j]≠x,fun w _=>match w with
  | [.int _ i]=>(l-i).toNat
  | _=>0,⟨rfl,0,rfl,Nat.zero_le _,fun j _ hj=>by omega⟩,?_⟩
 rintro w H1 ⟨rfl,i,rfl,hi,hall⟩ _
 refine ⟨_,rfl,?_⟩
 rw [af]
 refine ap (fun hlt=>?_) fun hlt=>?_
 ·obtain ⟨p,hlt2,rfl,hcell⟩:=hk.str (i:=(i:Int)) (by omega) hlt
  simp only [Int.toNat_natCast] at hcell hlt2
  have e:IntKind.wrap .i64 ((i:Int)+1)=((i+1:Nat):Int):=by rw [ah (by omega) (by omega)];omega
  refine ⟨⟨by omega,hlt⟩,_,rfl,_,by rw [Int.toNat_natCast,Nat.mul_one];exact hcell,?_⟩
  rw [dS,af]
  refine ap (fun he=>⟨_,rfl,?_⟩) fun he=>?_
  ·rw [decide_eq_true (show x∈xs by rw [he];exact List.getElem_mem _)] at h
   rw [decide_eq_true (show (i:Int) ≥ 0 by omega)];exact h
  ·rw [e]
   refine ⟨⟨rfl,i+1,rfl,by omega,fun j hj hji=>?_⟩,by simp;omega⟩
   rcases Nat.lt_or_ge j i with h5 | h5
   ·exact hall j hj h5
   ·have:j=i:=by omega
    subst this;exact fun e=>he e.symm
 ·refine ⟨_,rfl,?_⟩
  have:x∉xs:=fun hm=>by
   obtain ⟨j,hj,he⟩:=List.getElem_of_mem hm
   exact hall j hj (by omega) he
  rw [decide_eq_false this] at h
  exact h
theorem yO (hK:PK H b F s t) (hv:KAllW s t v){name:ByteArray} (h:∀ H',Fr [] H H'->Q (.bool (decide (gA v t name))) H'):ac PP BW #[.pointer (some ⟨b,0,none⟩),.string name] Q H:=by
 have hg:=hv.ks.shape.globs
 apply yA
 unfold GW iV pV sV lV cS
 refine sZ hK hv fun H1 hf1=>⟨_,_,rfl,?_⟩
 rw [aX,af]
 refine ap (fun h1=>?_) fun h1=>?_
 ·have:=h H1 hf1
  rw [decide_eq_true (show gA v t name from .inl h1)] at this
  exact this
 ·refine tP (hK.nil hf1) hv fun a l c G H2 ho hf2 hG=>⟨_,_,_,rfl,iK ho.rd ?_ ⟨_,rfl,?_⟩⟩
  ·have:=ho.len
   simp only [bg,eP,List.length_map] at this
   omega
  ·have:=h H2 (hf1.trans hf2)
   have e:decide (gA v t name)=decide (name∈eP v t):=by
    rw [decide_eq_decide];unfold gA
    exact ⟨fun h=>h.resolve_left h1,.inr⟩
   rw [e] at this;exact this
theorem pp (hK:PK H b F s t) (hv:KAllW s t v){name sup:ByteArray}{a:Option Addr}{l c:Nat}{own:List ByteArray} (hk:Rd 1 H a l (bg own)) (hlc:l<=c) (hlk:l<=1000000000000000)
  (h:∀ H',Fr [] H H'->Q (.tuple #[.int .i64 (jM v t name sup own).1,.int .i64 (jM v t name sup own).2]) H'):ac PP Fz #[.pointer (some ⟨b,0,none⟩),.string name,.string sup,.slice a l c] Q H:=by
 have hm1:=hv.ks.shape.many1
 have hl:l=own.length:=by have:=hk.1;simpa [bg] using this.symm
 apply B0
 unfold LP A0 iV wW pV sV lV cS;dsimp only [shH]
 unfold jM at h
 refine rV (lo:=65) (up:=90) fun H1 hf1=>⟨_,rfl,?_⟩
 rw [←decide_not,af]
 refine ap (fun h1=>?_) fun h1=>?_
 ·rw [if_pos h1] at h;exact h H1 hf1
 rw [if_neg h1] at h
 refine yO (hK.nil hf1) hv fun H2 hf2=>⟨_,rfl,?_⟩
 have hF2:=hf1.trans hf2
 rw [af]
 refine ap (fun h2=>?_) fun h2=>?_
 ·rw [if_pos h2] at h;exact h H2 hF2
 rw [if_neg h2] at h
 refine sZ (hK.nil hF2) hv fun H3 hf3=>⟨_,_,rfl,?_⟩
 have hF3:=hF2.trans hf3
 rw [aY,af]
 refine ap (fun h3=>?_) fun h3=>?_
 ·rw [if_pos h3] at h;exact h H3 hF3
 rw [if_neg h3] at h
 rcases gN v t sup with ⟨e,_⟩ | ⟨j,hj,e,_⟩
 ·rw [e] at h3;simp at h3
 have hfl:=lQ hv.ks j hj
 rw [e] at h ⊢
 simp only [hv.ks.idx hj] at h
 rw [la]
 have hf4:Fr [] H3 (H3.push (.cells #[.pointer (some ⟨b,0,none⟩)] 203)):=Fr.push _ _ _
 have hB:=aV.new H3 #[.pointer (some ⟨b,0,none⟩)] 203
 have hF4:=hF3.trans hf4
 generalize (H3.push (.cells #[.pointer (some ⟨b,0,none⟩)] 203))=H4 at hf4 hB hF4 ⊢
 have hW:Wr (H3.push (.cells #[.pointer none] 203)) ⟨H3.size,0,none⟩:=aA.2 (by simp)
 refine ⟨hW,fun w H'=>w=[]∧Fr [] H4 H'∧¬ (1<=j∧j<14),⟨_,hB.cell 0,wy (hK.nil hF4) fun H5 hf5=>⟨_,rfl,?_⟩⟩,?_⟩
 ·rw [hv.ks.num hj,af]
  refine ap (fun h4=>?_) fun h4=>⟨rfl,hf5,by omega⟩
  rw [af]
  refine ap (fun h5=>?_) fun h5=>⟨rfl,hf5,by omega⟩
  rw [if_pos (by omega)] at h
  exact h H5 (hF4.trans hf5)
 rintro w H5 ⟨rfl,hf5,h4⟩ _
 rw [if_neg h4] at h
 have hF5:=hF4.trans hf5
 refine ⟨rfl,_,(hB.fr hf5 (by simp)).cell 0,pZ hv j (hK.nil hF5) hj fun a6 l6 c6 G H6 ho6 hf6 hG=>⟨_,_,_,rfl,?_⟩⟩
 have hF6:=hF5.trans hf6
 have hl6:l6=(bp v j).length:=by have:=ho6.len;simpa [bg] using this.symm
 refine ⟨fun w H'=>∃ i:Nat,w=[.int .i64 i]∧i<=l∧Fr [] H6 H'∧ma ((bp v j).map (tx t)) (own.take i) (own.drop i)=ma ((bp v j).map (tx t)) [] own,fun w _=>match w with
  | [.int _ i]=>(l-i).toNat
  | _=>0,⟨0,rfl,Nat.zero_le _,Fr.refl _ _,by simp⟩,?_⟩
 rintro w H7 ⟨i,rfl,hi,hf7,hown⟩ _
 have hF7:=hF6.trans hf7
 refine ⟨_,rfl,?_⟩
 rw [af]
 refine ap (fun hlt=>?_) fun hlt=>?_
 ·have hlt':i<own.length:=by omega
  obtain ⟨p,hlt2,rfl,hcell⟩:=(hk.fr' hF7 (by simp)).str (i:=(i:Int)) (by omega) hlt
  simp only [Int.toNat_natCast] at hcell hlt2
  have e1:IntKind.wrap .i64 ((i:Int)+1)=((i+1:Nat):Int):=by rw [ah (by omega) (by omega)];omega
  have ed:own.drop i=own[i] :: own.drop (i+1):=List.drop_eq_getElem_cons hlt'
  have et:own.take (i+1)=own.take i++[own[i]]:=by rw [List.take_add_one];simp [hlt']
  rw [ed] at hown
  rw [ma] at hown
  refine ⟨⟨by omega,hlt⟩,_,rfl,_,by rw [Int.toNat_natCast,Nat.mul_one];exact hcell,yf fun H8 hf8=>⟨_,rfl,?_⟩⟩
  rw [←decide_not,af]
  refine ap (fun h5=>?_) fun h5=>?_
  ·rw [if_pos h5] at hown
   rw [if_pos (by rw [←hown];decide),←hown] at h
   exact h H8 (hF7.trans hf8)
  rw [if_neg h5] at hown
  have hF8:=hF7.trans hf8
  refine ⟨⟨by omega,by omega⟩,iK (xs:=own.take i) ?_ (by simp;omega) ⟨_,rfl,?_⟩⟩
  ·have:=hk.fr' hF8 (by simp)
   refine ⟨by simp [bg];omega,(fun hn=>by cases hn),fun q hq k hk'=>?_⟩
   rw [Int.toNat_natCast] at hk'
   have h6:=this.2.2 q hq k (by omega)
   rw [h6]
   simp only [bg,List.getElem?_map]
   rw [List.getElem?_take_of_lt (by omega)]
  rw [af]
  refine ap (fun h6=>?_) fun h6=>?_
  ·rw [if_pos h6] at hown
   rw [if_pos (by rw [←hown];decide),←hown] at h
   exact h H8 hF8
  rw [if_neg h6] at hown
  refine iK ((ho6.fr hf7 (by simp)).fr hf8 (by simp)).rd (by omega) ⟨_,rfl,?_⟩
  rw [af]
  refine ap (fun h7=>?_) fun h7=>?_
  ·rw [if_pos h7] at hown
   rw [if_pos (by rw [←hown];decide),←hown] at h
   exact h H8 hF8
  rw [if_neg h7] at hown
  rw [e1]
  exact ⟨⟨i+1,rfl,by omega,hf7.trans hf8,by rw [et];exact hown⟩,by simp;omega⟩
 ·have hil:i=own.length:=by omega
  rw [hil,List.drop_length] at hown
  have h0:ma ((bp v j).map (tx t)) [] own=0:=by rw [←hown];rfl
  rw [if_neg (by rw [h0];decide)] at h
  have ew:IntKind.wrap .i64 ((l6:Int)+(l:Int))=(l6:Int)+l:=ah (by omega) (by omega)
  rw [ew,af]
  refine ap (fun h5=>?_) fun h5=>?_
  ·rw [if_pos (by omega)] at h;exact h H7 hF7
  rw [if_neg (by omega)] at h
  refine Ab (hK.nil hF7) hv fun H8 hf8=>⟨_,rfl,?_⟩
  rw [af]
  refine ap (fun h6=>?_) fun h6=>?_
  ·rw [if_pos (by omega)] at h;exact h H8 (hF7.trans hf8)
  rw [if_neg (by omega)] at h
  exact h H8 (hF7.trans hf8)
end
structure PM (H:ae) (mb b:Nat) (F:az) (s:SP) (t:TB) (cnt mk kp:Int):Prop where
 k:PK H b F s t
 m:aV H mb #[.pointer (some ⟨b,0,none⟩),.int .i64 cnt,.int .i64 mk,.int .i64 kp]
 out:mb∉F
theorem Up.out {F F':az}{H H':ae} (h:Up F H F' H'){x:Nat} (hx:x∉F) (hl:x<H.size):x∉F':=fun hm=>by
 rcases h.2 x hm with h1 | h1
 ·exact hx h1
 ·omega
theorem PM.up {H H':ae}{mb b:Nat}{F F':az}{s s':SP}{t t':TB}{cnt mk kp:Int} (h:PM H mb b F s t cnt mk kp) (hk:PK H' b F' s' t') (hu:Up F H F' H'):PM H' mb b F' s' t' cnt mk kp :=
 ⟨hk,h.m.fr hu.1 h.out,Up.out hu h.out h.m.lt⟩
theorem PM.nil {H H':ae}{mb b:Nat}{F:az}{s:SP}{t:TB}{cnt mk kp:Int} (h:PM H mb b F s t cnt mk kp) (hf:Fr [] H H'):PM H' mb b F s t cnt mk kp:=⟨h.k.nil hf,h.m.fr hf (by simp),h.out⟩
theorem Up.of_nil {F:az}{H H':ae} (h:Fr [] H H'):Up F H F H':=⟨Kw.Fr.of_nil h,fun _ h=>.inl h⟩
theorem sT {r:RH} (k i w j:Int){y:RO} (h:am (r.put k i w).2.objs j=some y):∃ x,am r.objs j=some x∧y.fmt=x.fmt:=by
 unfold RH.put at h
 split at h
 ·exact ⟨y,h,rfl⟩
 split at h
 ·exact ⟨y,h,rfl⟩
 split at h
 ·exact ⟨y,h,rfl⟩
 ·simp only at h
  rw [bZ (f:=cM i w) (fun o=>rfl)] at h
  cases hx:am r.objs j with
  | none=>rw [hx] at h;cases h
  | some x =>
   rw [hx] at h
   simp only [Option.map_some,Option.some.injEq] at h
   refine ⟨x,rfl,?_⟩
   rw [←h]
   split <;> rfl
section
variable {H:ae}{mb b:Nat}{F:az}{s:SP}{t:TB}{v:KV}{cnt mk kp:Int}{Q:QT}
theorem mQ (hM:PM H mb b F s t cnt mk kp){x:ByteArray} (h:∀ H' F',PM H' mb b F' s (t.add x).2 cnt mk kp->Up F H F' H'->Q (.tuple #[.int .i64 (if (t.add x).1.2=0 then 4*(t.add x).1.1+2 else 0),.int .i64 (t.add x).1.2]) H'):ac PP DL #[.pointer (some ⟨mb,0,none⟩),.string x] Q H:=by
 apply z8
 unfold HT iV pV sV cS
 obtain ⟨tb,F2,hc,hT,hsub,hnb,hup,_⟩:=hM.k.tb
 refine ⟨_,rfl,_,hM.m.cell 0,_,rfl,_,hc,oD hT fun H1 F1 hT1 hu1=>⟨_,_,rfl,?_⟩⟩
 obtain ⟨F',hK',hu'⟩:=hup H1 F1 _ hT1 hu1
 have hM':=hM.up hK' hu'
 rw [aY,af]
 refine ap (fun h1=>?_) fun h1=>?_
 ·have:=h _ _ hM' hu'
  rw [if_neg h1] at this;exact this
 ·have hz:(t.add x).1.2=0:=Classical.byContradiction h1
  obtain ⟨n,e1,e2,_⟩:=lh x hz
  have hw:=hK'.wft
  have h2:=(eH e2).2
  have h3:=hw.m1
  have h4:=hw.len
  rw [e1]
  refine vO ⟨by omega,by omega⟩ ⟨_,_,rfl,?_⟩
  have:=h _ _ hM' hu'
  rw [if_pos hz,e1,hz] at this;exact this
theorem sv (hM:PM H mb b F s t cnt mk kp){cls:Int} (hcls:1<=cls∧cls<=65536){a:Option Addr}{l c:Nat}{ws:List Int} (hk:Rd 1 H a l (ag ws)) (hd:∀ p,a=some p->p.block∉F) (hlk:l<=1000000000)
  (h:∀ H' F',PM H' mb b F' (s.make cls ws).2 t cnt mk kp->Up F H F' H'->Q (.tuple #[.int .i64 (s.make cls ws).1.1,.int .i64 (s.make cls ws).1.2]) H'):ac PP Bp #[.pointer (some ⟨mb,0,none⟩),.int .i64 cls,.slice a l c] Q H:=by
 have hl:l=ws.length:=by have:=hk.1;simpa [ag] using this.symm
 apply xR
 unfold Gk A0 iV wW pV lV cS
 unfold SP.make at h
 obtain ⟨sb,F1,hc,hS,hsub,hnb,_,hup⟩:=hM.k.sp
 refine ⟨_,rfl,_,hM.m.cell 0,_,rfl,_,hc,cg hcls ⟨_,rfl,⟨⟨hc,trivial⟩,⟨hM.m.cell 0,trivial⟩,trivial⟩,?_⟩⟩
 rw [hl]
 refine fI hS fun H1 hS1 hf1=>⟨_,_,rfl,trivial,?_⟩
 have hfF:=hf1.mono hsub
 have hu':Up F H F H1:=⟨hfF,fun _ h=>.inl h⟩
 have hM':=hM.up (hup H1 _ hS1 hf1) hu'
 have hd':=hk.fr' hfF hd
 rw [aY,af]
 refine ap (fun h1=>?_) fun h1=>?_
 ·rw [if_pos h1] at h;exact h _ _ hM' hu'
 rw [if_neg h1] at h
 have hz:(s.alloc (4*cls) ws.length 0).1.2=0:=Classical.byContradiction h1
 obtain ⟨o,e1,o1,o2,_,_,harr,_⟩:=mO hM.k.wfs hz
 rw [if_pos hz]
 rw [e1] at h ⊢
 have e2:4*o / 4=o:=by omega
 rw [e2] at h
 generalize (s.alloc (4*cls) ws.length 0).2=s1 at *
 have hk3:aD (4*o)=3:=by have:=aS (4*o);omega
 refine fG hM'.k.kinds ?_
 unfold iE
 rw [if_pos hk3]
 simp only [e2]
 refine ⟨_,_,rfl,?_⟩
 refine ⟨fun w H'=>∃(i:Nat) (r:RH),w=[.int .i64 i]∧i<=ws.length∧PM H' mb b F { s1 with h:=r } t cnt mk kp∧Fr F H1 H'∧r.lay o i (ws.drop i)=s1.h.lay o 0 ws∧∀ x,am r.objs o=some x->x.fmt=0,fun w _=>match w with
  | [.int _ i]=>(ws.length-i).toNat
  | _=>0,⟨0,s1.h,rfl,Nat.zero_le _,hM',Fr.refl _ _,rfl,fun x hx=>by obtain ⟨y,h2,h3,_⟩:=harr;rw [h2] at hx;cases hx;exact h3⟩,?_⟩
 rintro w H4 ⟨i,r,rfl,hi,hM4,hf4,hlay,hfmt⟩ _
 refine ⟨_,rfl,?_⟩
 rw [af]
 refine ap (fun hlt=>?_) fun hlt=>?_
 ·obtain ⟨p,rfl,hcell,hlt2⟩:=(hd'.fr' hf4 hd).int (i:=(i:Int)) (by omega) (by omega)
  rw [Int.toNat_natCast] at hcell hlt2
  have hx:ws.getD i 0=ws[i]:=by simp [hlt2]
  rw [hx] at hcell
  have ed:ws.drop i=ws[i] :: ws.drop (i+1):=List.drop_eq_getElem_cons hlt2
  have e:IntKind.wrap .i64 ((i:Int)+1)=((i+1:Nat):Int):=by rw [ah (by omega) (by omega)];omega
  obtain ⟨sb4,F4,hc4,hS4,hsub4,_,_,hup4⟩:=hM4.k.sp
  refine ⟨⟨by omega,hlt⟩,_,rfl,_,by rw [Int.toNat_natCast,Nat.mul_one];exact hcell,_,rfl,_,hM4.m.cell 0,_,rfl,_,hc4,cE hS4 fun hb F5 hR hsub5 hup5=>⟨_,rfl,lR hR hfmt fun H6 hR6 hf6=>⟨_,rfl,?_⟩⟩⟩
  have hS6:=hup5 H6 _ hR6 hf6
  have hK6:=hup4 H6 _ hS6 (hf6.mono hsub5)
  have hf6':Fr F H4 H6:=(hf6.mono hsub5).mono hsub4
  have hM6:=hM4.up hK6 ⟨hf6',fun _ h=>.inl h⟩
  rw [e]
  refine ⟨⟨i+1,(r.put o i ws[i]).2,rfl,by omega,hM6,hf4.trans hf6',?_,fun x hx=>?_⟩,by simp;omega⟩
  ·rw [←hlay,ed]
   simp only [RH.lay]
   congr 1
   all_goals omega
  ·obtain ⟨y,h2,h3⟩:=sT o i ws[i] o hx
   rw [h3];exact hfmt y h2
 ·have hil:i=ws.length:=by omega
  subst hil
  rw [List.drop_length] at hlay
  simp only [RH.lay] at hlay
  rw [hlay] at hM4
  obtain ⟨sb4,F4,hc4,hS4,hsub4,_,hup4,_⟩:=hM4.k.sp
  refine ⟨_,rfl,_,hM4.m.cell 0,_,rfl,_,hc4,?_⟩
  have fp:Fr [] H4 (H4.push (.cells #[.int .i64 (4*o)] 26)):=Fr.push _ _ _
  have hM5:=hM4.nil fp
  obtain ⟨sb5,F5,hc5,hS5,hsub5,_,hup5,_⟩:=hM5.k.sp
  have hsb:sb5=sb4:=by
   have:aa (H4.push (.cells #[.int .i64 (4*o)] 26)) ⟨b,0,none⟩=aa H4 ⟨b,0,none⟩:=fz (hM4.k.lt b hM4.k.bmem)
   rw [this,hc4] at hc5
   simpa using hc5.symm
  subst hsb
  refine lE hS5 (ws:=[4*o]) ?_ (by omega) fun H7 F7 hS7 hu7=>⟨_,rfl,?_⟩
  ·refine ⟨rfl,(fun h=>by cases h),fun p hp k hk=>?_⟩
   cases hp
   have:k=0:=by omega
   subst this
   rw [al]
   exact (aV.new H4 _ _).cell 0
  ·obtain ⟨F',hK7,hu7'⟩:=hup5 H7 F7 _ hS7 hu7
   have hM7:=hM5.up hK7 hu7'
   exact h H7 F' hM7 ((hu'.trans ⟨hf4,fun _ h=>.inl h⟩).trans ((Up.of_nil fp).trans hu7'))
theorem pj (hM:PM H mb b F s t cnt mk kp){a:Option Addr}{l c:Nat}{ws:List Int} (hk:Rd 1 H a l (ag ws)) (hd:∀ p,a=some p->p.block∉F) (hlk:l<=1000000000)
  (h:∀ H' F',PM H' mb b F' (s.array ws).2 t cnt mk kp->Up F H F' H'->Q (.tuple #[.int .i64 (s.array ws).1.1,.int .i64 (s.array ws).1.2]) H'):ac PP uO #[.pointer (some ⟨mb,0,none⟩),.slice a l c] Q H:=by
 have hl:l=ws.length:=by have:=hk.1;simpa [ag] using this.symm
 apply xL
 unfold KB iV pV lV cS
 unfold SP.array at h
 rw [aX,af]
 refine ap (fun h0=>?_) fun h0=>?_
 ·have:ws=[]:=List.eq_nil_of_length_eq_zero (by omega)
  rw [if_pos this] at h
  exact cg (by decide) ⟨_,rfl,h H F hM (Up.refl _ _)⟩
 ·have:ws≠[]:=fun e=>h0 (by rw [hl,e];rfl)
  rw [if_neg this] at h
  exact sv hM (by decide) hk hd hlk fun H' F' hM' hu=>⟨_,_,rfl,h H' F' hM' hu⟩
end
def uK (H:ae) (a:Option Addr) (F:az):Prop:=∀ p,a=some p->p.block<H.size∧p.block∉F
theorem uK.up {H H':ae}{a:Option Addr}{F F':az} (h:uK H a F) (hu:Up F H F' H'):uK H' a F':=fun p hp=>⟨Nat.lt_of_lt_of_le (h p hp).1 hu.1.1,Up.out hu (h p hp).2 (h p hp).1⟩
theorem uK.rd {H H':ae}{a:Option Addr}{F F':az}{l:Nat}{ys:List Value} (h:uK H a F) (hu:Up F H F' H') (hk:Rd 1 H a l ys):Rd 1 H' a l ys:=hk.fr' hu.1 fun p hp=>(h p hp).2
def rA (H:ae) (a:Option Addr) (l:Nat) (F:az):Prop:=l=0∨uK H a F
theorem rA.up {H H':ae}{a:Option Addr}{l:Nat}{F F':az} (h:rA H a l F) (hu:Up F H F' H'):rA H' a l F':=h.imp id fun h=>h.up hu
theorem rA.rd {H H':ae}{a:Option Addr}{F F':az}{l:Nat}{ys:List Value} (h:rA H a l F) (hu:Up F H F' H') (hk:Rd 1 H a l ys):Rd 1 H' a l ys:=by
 rcases h with h | h
 ·subst h
  exact ⟨hk.1,hk.2.1,fun p _ i hi=>by simp at hi⟩
 ·exact h.rd hu hk
theorem bK.out {H:ae}{a:Option Addr}{l c:Nat}{xs:List Value}{F G:az} (h:bK 1 H a l c xs G) (hd:cA G F):uK H a F:=fun p hp=>by
 have hlt:=h.lt
 rcases h.2.2 with ⟨h1,_⟩ | ⟨b',cs,h1,rfl,_⟩
 ·rw [h1] at hp;cases hp
 ·rw [h1] at hp;cases hp
  exact ⟨hlt _ (by simp),hd _ (by simp)⟩
theorem cQ {F:az}{H H':ae}{b o:Nat} (hf:Fr F H H') (hb:b∉F) (hl:b<H.size):aa H' ⟨b,o,none⟩=aa H ⟨b,o,none⟩:=by
 unfold aa;rw [hf.2 b hl hb]
theorem lf {H:ae}{cs:List Int}{t:TypeId}:Rd 1 (H.push (.cells (ag cs).toArray t)) (some ⟨H.size,0,none⟩) cs.length (ag cs):=by
 refine ⟨by simp [ag],(fun h=>by cases h),fun p hp k hk=>?_⟩
 cases hp
 rw [al,Nat.zero_add,(aV.new H _ _).cell]
 simp
section
variable {H:ae}{mb b:Nat}{F:az}{s:SP}{t:TB}{v:KV}{cnt mk kp:Int}{Q:QT}
theorem ze (hK:PK H b F s t) (h:∀ H' mb,PM H' mb b F s t t.texts.length s.h.mark s.stack.length->Fr [] H H'->Q (.pointer (some ⟨mb,0,none⟩)) H'):ac PP Hc #[.pointer (some ⟨b,0,none⟩)] Q H:=by
 apply Dr
 unfold LZ A0 iV pV lV cS
 obtain ⟨tb,F2,hc2,hT,_⟩:=hK.tb
 obtain ⟨sb,F1,hc,hS,_⟩:=hK.sp
 refine ⟨_,rfl,_,hc2,_,rfl,_,hc,_,rfl,_,hc,ng hT ⟨_,rfl,⟨⟨hc,trivial⟩,⟨hc,trivial⟩,trivial⟩,cE hS fun hb F3 hR _ _=>⟨_,rfl,⟨⟨hc,trivial⟩,trivial⟩,tt hR ⟨_,rfl,⟨⟨hc,trivial⟩,trivial⟩,?_⟩⟩⟩⟩
 refine qd hS fun a c H1 _ hf=>⟨_,_,_,rfl,trivial,trivial,?_⟩
 have hf2:=hf.more (o:=.cells #[.pointer (some ⟨b,0,none⟩),.int .i64 (t.texts.length:Int),.int .i64 s.h.mark,.int .i64 (s.stack.length:Int)] 207)
 refine h _ H1.size ⟨hK.nil hf2,aV.new _ _ _,fun hm=>?_⟩ hf2
 have:=(hK.nil hf).lt _ hm
 omega
theorem GZ (hM:PM H mb b F s t cnt mk kp) (hkp:0<=kp∧kp<=1000000){e:Int} (h:∀ H',PK H' b F (nX s t mk cnt kp e).1 (nX s t mk cnt kp e).2->Fr F H H'->Q (.int .i64 e) H'):ac PP Kl #[.pointer (some ⟨mb,0,none⟩),.int .i64 e] Q H:=by
 have hmany:=hM.k.wfs.many
 apply Ch
 unfold LE iV wW pV lV cS
 unfold nX at h
 obtain ⟨sb,F1,hc,hS,hsub,hbF1,_,hup⟩:=hM.k.sp
 refine ⟨_,rfl,_,hM.m.cell 0,_,rfl,_,hc,_,rfl,_,hM.m.cell 3,qd hS fun a c H1 _ hf=>⟨_,_,_,rfl,⟨⟨(hM.m.fr hf (by simp)).cell 3,trivial⟩,trivial⟩,?_⟩⟩
 have ew:IntKind.wrap .i64 ((s.stack.length:Int)-kp)=(s.stack.length:Int)-kp:=ah (by omega) (by omega)
 rw [ew]
 refine me (hS.nilfr hf) ⟨by omega,by omega⟩ fun H2 hS2 hf2=>⟨_,rfl,trivial,?_⟩
 have hf12:Fr F1 H H2:=hf.of_nil.trans hf2
 have hfF:Fr F H H2:=hf12.mono hsub
 have hM2:=hM.up (hup H2 _ hS2 hf12) ⟨hfF,fun _ h=>.inl h⟩
 rw [aX,af]
 refine ap (fun h1=>?_) fun h1=>?_
 ·rw [if_pos h1] at h;exact h H2 hM2.k hfF
 rw [if_neg h1] at h
 obtain ⟨tb,F3,hc3,hT,hsub3,hbF3,_,hup3⟩:=hM2.k.tb
 refine ⟨_,rfl,_,hM2.m.cell 0,_,rfl,_,hc3,_,rfl,_,hM2.m.cell 1,vp hT fun H3 hT3 hf3=>⟨_,rfl,trivial,?_⟩⟩
 have hf3':Fr F H2 H3:=hf3.mono hsub3
 have hM3:=hM2.up (hup3 H3 _ hT3 hf3) ⟨hf3',fun _ h=>.inl h⟩
 rw [aY,af]
 refine ap (fun h2=>?_) fun h2=>?_
 ·rw [if_neg h2] at h
  obtain ⟨sb4,F4,hc4,hS4,hsub4,_,_,hup4⟩:=hM3.k.sp
  have hsb:sb4=sb:=by
   have hbl:=hM.k.lt b hM.k.bmem
   have e1:aa H3 ⟨b,0,none⟩=some (.pointer (some ⟨sb,0,none⟩)):=by
    rw [cQ hf3 hbF3 (Nat.lt_of_lt_of_le hbl hf12.1),cQ hf12 hbF1 hbl,hc]
   rw [hc4] at e1;simpa using e1
  subst hsb
  refine ⟨_,rfl,_,hM3.m.cell 2,cE hS4 fun hb F5 hR hsub5 hup5=>⟨_,rfl,⟨⟨hM3.m.cell 2,trivial⟩,trivial⟩,DP hR fun H5 hR5 hf5=>⟨_,rfl,trivial,?_⟩⟩⟩
  have hS5:=hup5 H5 _ hR5 hf5
  have hK5:=hup4 H5 _ hS5 (hf5.mono hsub5)
  have:=h H5 ?_ ((hfF.trans hf3').trans ((hf5.mono hsub5).mono hsub4))
  ·exact this
  ·have ed:(s.drop ((s.stack.length:Int)-kp)).2.h=s.h:=by unfold SP.drop;split <;> rfl
   simp only [ed] at hK5
   exact hK5
 ·have h24:e=24:=Classical.byContradiction h2
  rw [if_pos h24] at h
  refine h H3 ?_ (hfF.trans hf3')
  have ed:(s.drop ((s.stack.length:Int)-kp)).2.h=s.h:=by unfold SP.drop;split <;> rfl
  have hK3:=hM3.k
  generalize (s.drop ((s.stack.length:Int)-kp)).2=s' at *
  cases s'
  simp only at ed
  subst ed
  exact hK3
theorem KS.words {s:SP}{v:KV} (h:KS s v):kwords s.h v.clsA=v.clsW:=h.view.all.kwords
theorem jR {H0:ae} (hM:PM H0 mb b F s t cnt mk kp) (hf:Fr [] H0 H){a a2:Option Addr}{l c c2 l2:Nat}{G:az}{ws xs:List Int}{Q:QT} (ho:bK 1 H a l c (ag ws) G) (hG:∀ x∈G,H0.size<=x) (hws:ws.length<=8192) (h2:Rd 1 H a2 l2 (ag xs)) (hxs:l2<=8192)
  (h:∀ H' F',PM H' mb b F' (s.array (ws++xs)).2 t cnt mk kp->Up F H0 F' H'->Q (.tuple #[.int .i64 (s.array (ws++xs)).1.1,.int .i64 (s.array (ws++xs)).1.2]) H') :
  aK PP (Builtin.append_ #[30,30] 30 #[.slice a l c,.slice a2 l2 c2]) (fun v H'=>∃ a3:Option Addr,∃ l3:Nat,∃ c3:Nat,v=.slice a3 l3 c3∧True∧ac PP uO #[.pointer (some ⟨mb,0,none⟩),.slice a3 l3 c3] Q H') H:=by
 have hs1:aI PP 30=some (1,8,some (.int .i64 0)):=by kernel_rfl
 have hl:l=ws.length:=by have:=ho.len;simpa [ag] using this.symm
 have hlt:=hM.k.lt
 refine dn hs1 rfl (by kernel_rfl) ho h2 fM (by omega) (by decide) (by decide) fun a' c' G' H' g1 g2 g3=>⟨_,_,_,rfl,trivial,?_⟩
 obtain ⟨hf',hG'⟩:=Up.fresh hf g2 hG
 have ho':uK H' a' F:=bK.out g1 fun x hx hm=>by have:=hG' x hx;have:=hlt x hm;omega
 rw [←bX] at g1
 exact pj (hM.nil hf') g1.rd (fun p hp=>(ho' p hp).2) (by omega) fun H2 F' hM2 hu=>h H2 F' hM2 ((Up.of_nil hf').trans hu)
theorem rJ (hM:PM H mb b F s t cnt mk kp) (hk:KS s v){c:Int} (hc:1<=c∧c<=65536) (hst:s.stack.length<65000)
  (h:∀ H' F',PM H' mb b F' (cF s t v.clsW (4*c)).2.1 t cnt mk kp->Up F H F' H'->Q (.tuple #[.int .i64 (cF s t v.clsW (4*c)).1.1,.int .i64 (cF s t v.clsW (4*c)).1.2]) H') :
  ∃ J37:List Value->ae->Prop,(∃ q38,(some ⟨mb,0,none⟩:Option Addr)=some q38∧∃ p39:Option Addr,aa H q38=some (.pointer p39)∧∃ q40,(some ⟨mb,0,none⟩:Option Addr)=some q40∧∃ p41:Option Addr,aa H q40=some (.pointer p41)∧(ac PP 161 #[.agg #[.pointer p41],.int .i64 0] (fun v42 H12=>∃ n43:Int,v42=.int .i64 n43∧((aa H12 q38=some (.pointer p39)∧True)∧True)∧(ac PP 160 #[.agg #[.pointer p39],.int .i64 n43] (fun v44 H13=>∃ a45:Option Addr,∃ l45:Nat,∃ c45:Nat,v44=.slice a45 l45 c45∧True∧True∧aK PP (Builtin.append_ #[30,30] 30 #[.slice a45 l45 c45,.slice (some (⟨H13.size,0,none⟩:Addr)) 1 1]) (fun v46 H14=>∃ a47:Option Addr,∃ l47:Nat,∃ c47:Nat,v46=.slice a47 l47 c47∧True∧ac PP 158 #[.pointer (some ⟨mb,0,none⟩:Option Addr),.slice a47 l47 c47] (fun v48 H15=>∃ n49:Int,∃ n50:Int,v48=.tuple #[.int .i64 n49,.int .i64 n50]∧True∧J37 [.int .i64 n50,.int .i64 n49] H15) H14) (H13.push (.cells #[.int .i64 (4*c)] 26))) H12)∧(((aa (H12.push (.cells #[.int .i64 (4*c)] 26)) q38=some (.pointer p39)∧True)∧True)∧ac PP 160 #[.agg #[.pointer p39],.int .i64 n43] (fun v51 H16=>∃ a52:Option Addr,∃ l52:Nat,∃ c52:Nat,v51=.slice a52 l52 c52∧True∧aK PP (Builtin.append_ #[30,30] 30 #[.slice a52 l52 c52,.slice (some (⟨H12.size,0,none⟩:Addr)) 1 1]) (fun v53 H17=>∃ a54:Option Addr,∃ l54:Nat,∃ c54:Nat,v53=.slice a54 l54 c54∧True∧ac PP 158 #[.pointer (some ⟨mb,0,none⟩:Option Addr),.slice a54 l54 c54] (fun v55 H18=>∃ n56:Int,∃ n57:Int,v55=.tuple #[.int .i64 n56,.int .i64 n57]∧True∧J37 [.int .i64 n57,.int .i64 n56] H18) H17) H16) (H12.push (.cells #[.int .i64 (4*c)] 26)))) H)∧(((aa (H.push (.cells #[.int .i64 (4*c)] 26)) q40=some (.pointer p41)∧True)∧((aa (H.push (.cells #[.int .i64 (4*c)] 26)) q38=some (.pointer p39)∧True)∧True))∧ac PP 161 #[.agg #[.pointer p41],.int .i64 0] (fun v58 H19=>∃ n59:Int,v58=.int .i64 n59∧((aa H19 q38=some (.pointer p39)∧True)∧True)∧ac PP 160 #[.agg #[.pointer p39],.int .i64 n59] (fun v60 H20=>∃ a61:Option Addr,∃ l61:Nat,∃ c61:Nat,v60=.slice a61 l61 c61∧True∧aK PP (Builtin.append_ #[30,30] 30 #[.slice a61 l61 c61,.slice (some (⟨H.size,0,none⟩:Addr)) 1 1]) (fun v62 H21=>∃ a63:Option Addr,∃ l63:Nat,∃ c63:Nat,v62=.slice a63 l63 c63∧True∧ac PP 158 #[.pointer (some ⟨mb,0,none⟩:Option Addr),.slice a63 l63 c63] (fun v64 H22=>∃ n65:Int,∃ n66:Int,v64=.tuple #[.int .i64 n65,.int .i64 n66]∧True∧J37 [.int .i64 n66,.int .i64 n65] H22) H21) H20) H19) (H.push (.cells #[.int .i64 (4*c)] 26))))∧∀ w67 H23,J37 w67 H23->∀ _g:Nat->Value,∃ n68:Int,∃ n69:Int,w67=[.int .i64 n68,.int .i64 n69]∧cond (n68 != 0) (Q (.tuple #[.int .i64 0,.int .i64 n68]) H23) (∃ q70,(some ⟨mb,0,none⟩:Option Addr)=some q70∧∃ p71:Option Addr,aa H23 q70=some (.pointer p71)∧∃ q72,p71=some q72∧∃ p73:Option Addr,aa H23 q72=some (.pointer p73)∧ac PP 162 #[.pointer p73,.int .i64 0,.int .i64 n69] (fun v74 H24=>∃ n75:Int,v74=.int .i64 n75∧ac PP 89 #[.int .i64 (4*c)] (fun v76 H25=>∃ n77:Int,∃ n78:Int,v76=.tuple #[.int .i64 n77,.int .i64 n78]∧Q (.tuple #[.int .i64 n77,.int .i64 n78]) H25) H24) H23):=by
 have hm1:=hk.shape.many1
 have hcw:v.clsW.length<=8192:=by simp [KV.clsW];omega
 have hws:∀ w∈v.clsW++[4*c],cR w:=fun w hw=>by
  rcases List.mem_append.1 hw with hw | hw
  ·exact gh hk w hw
  ·simp only [List.mem_singleton] at hw;rw [hw];exact bB hc.1 hc.2
 obtain ⟨h1,h2,⟨m,h3,h3'⟩,h4⟩:=eU hk (by omega) hws
 refine ⟨fun w H'=>∃ F',w=[.int .i64 (s.array (v.clsW++[4*c])).1.2,.int .i64 (s.array (v.clsW++[4*c])).1.1]∧PM H' mb b F' (s.array (v.clsW++[4*c])).2 t cnt mk kp∧Up F H F' H',?_,?_⟩
 ·have hB:=hM.m
  have mc:∀ {H':ae},Fr [] H H'->aa H' ⟨mb,0,none⟩=some (.pointer (some ⟨b,0,none⟩)):=fun hf=>(hB.fr hf (by simp)).cell 0
  have one:∀ {H':ae},Rd 1 (H'.push (.cells #[.int .i64 (4*c)] 26)) (some ⟨H'.size,0,none⟩) 1 (ag [4*c]):=fun {H'}=>lf (H:=H') (cs:=[4*c])
  refine ⟨_,rfl,_,hB.cell 0,_,rfl,_,hB.cell 0,?_,?_⟩
  ·refine jJ hM.k fun H12 f12=>⟨_,rfl,⟨⟨mc f12,trivial⟩,trivial⟩,?_,?_⟩
   ·rw [hk.root0]
    refine nI (hM.k.nil f12) fun a l cc G H13 ho f13 hG=>⟨_,_,_,rfl,trivial,trivial,?_⟩
    rw [KS.words hk] at ho
    have fp:=(Fr.push [] H13 (.cells #[.int .i64 (4*c)] 26))
    refine jR hM ((f12.trans f13).trans fp) (ho.fr fp (by simp)) (fun x hx=>Nat.le_trans f12.1 (hG x hx)) hcw one (by decide) fun H' F' hM' hu=>⟨_,_,rfl,trivial,F',rfl,hM',hu⟩
   ·have fp:=(Fr.push [] H12 (.cells #[.int .i64 (4*c)] 26))
    refine ⟨⟨⟨mc (f12.trans fp),trivial⟩,trivial⟩,?_⟩
    rw [hk.root0]
    refine nI (hM.k.nil (f12.trans fp)) fun a l cc G H13 ho f13 hG=>⟨_,_,_,rfl,trivial,?_⟩
    rw [KS.words hk] at ho
    refine jR hM ((f12.trans fp).trans f13) ho (fun x hx=>Nat.le_trans (f12.trans fp).1 (hG x hx)) hcw (one.fr' f13 (by simp)) (by decide) fun H' F' hM' hu=>⟨_,_,rfl,trivial,F',rfl,hM',hu⟩
  ·have fp:=(Fr.push [] H (.cells #[.int .i64 (4*c)] 26))
   refine ⟨⟨⟨mc fp,trivial⟩,⟨mc fp,trivial⟩,trivial⟩,?_⟩
   refine jJ (hM.k.nil fp) fun H12 f12=>⟨_,rfl,⟨⟨mc (fp.trans f12),trivial⟩,trivial⟩,?_⟩
   rw [hk.root0]
   refine nI (hM.k.nil (fp.trans f12)) fun a l cc G H13 ho f13 hG=>⟨_,_,_,rfl,trivial,?_⟩
   rw [KS.words hk] at ho
   refine jR hM ((fp.trans f12).trans f13) ho (fun x hx=>Nat.le_trans (fp.trans f12).1 (hG x hx)) hcw (one.fr' (f12.trans f13) (by simp)) (by decide) fun H' F' hM' hu=>⟨_,_,rfl,trivial,F',rfl,hM',hu⟩
 ·rintro w H23 ⟨F',rfl,hM',hu⟩ _
  unfold cF at h
  refine ⟨_,_,rfl,?_⟩
  rw [aY,af]
  refine ap (fun he=>?_) fun he=>?_
  ·rw [if_pos he] at h;exact h _ _ hM' hu
  rw [if_neg he] at h
  obtain ⟨sb,F1,hcs,hS,hsub,_,_,hup⟩:=hM'.k.sp
  refine ⟨_,rfl,_,hM'.m.cell 0,_,rfl,_,hcs,oY hS (fun o ho=>?_) fun H4 hS4 hf4=>⟨_,rfl,?_⟩⟩
  ·obtain ⟨x,hx1,hx2,_⟩:=h1.view.root
   rw [h1.king] at ho
   rw [hx1] at ho;cases ho;exact hx2
  have hK4:=hup H4 _ hS4 hf4
  have hu4:Up F' H23 F' H4:=⟨hf4.mono hsub,fun _ h=>.inl h⟩
  have hM4:=hM'.up hK4 hu4
  refine fG hM4.k.kinds ?_
  unfold iE
  rw [if_pos (show aD (4*c)=3 by have:=aS (4*c);omega)]
  exact ⟨_,_,rfl,h _ _ hM4 (hu.trans hu4)⟩
theorem qu (hM:PM H mb b F s t cnt mk kp) (hk:KS s v){n up l:Int} (hn:cR n) (hup:1<=up∧up<=65536) (hl:cR l) (hst:s.stack.length<64000){n27 n31:Int} (e27:n27=72) (e31:n31=1)
  {n29:Int} (e29:n29=4*up){n33:Int} (e33:n33=2*((v.cls.length:Int)+1)+1)
  (h:∀ H' F',PM H' mb b F' (ee s t v.clsW n up l).2.1 t cnt mk kp->Up F H F' H'->Q (.tuple #[.int .i64 (ee s t v.clsW n up l).1.1,.int .i64 (ee s t v.clsW n up l).1.2]) H') :
  ac PP 159 #[.pointer (some ⟨mb,0,none⟩:Option Addr),.int .i64 12,.slice (some (⟨H.size,0,none⟩:Addr)) 7 7] (fun v34 H11=>∃ n35:Int,∃ n36:Int,v34=.tuple #[.int .i64 n35,.int .i64 n36]∧cond (n36 != 0) (Q (.tuple #[.int .i64 0,.int .i64 n36]) H11) (∃ J37:List Value->ae->Prop,(∃ q38,(some ⟨mb,0,none⟩:Option Addr)=some q38∧∃ p39:Option Addr,aa H11 q38=some (.pointer p39)∧∃ q40,(some ⟨mb,0,none⟩:Option Addr)=some q40∧∃ p41:Option Addr,aa H11 q40=some (.pointer p41)∧(ac PP 161 #[.agg #[.pointer p41],.int .i64 0] (fun v42 H12=>∃ n43:Int,v42=.int .i64 n43∧((aa H12 q38=some (.pointer p39)∧True)∧True)∧(ac PP 160 #[.agg #[.pointer p39],.int .i64 n43] (fun v44 H13=>∃ a45:Option Addr,∃ l45:Nat,∃ c45:Nat,v44=.slice a45 l45 c45∧True∧True∧aK PP (Builtin.append_ #[30,30] 30 #[.slice a45 l45 c45,.slice (some (⟨H13.size,0,none⟩:Addr)) 1 1]) (fun v46 H14=>∃ a47:Option Addr,∃ l47:Nat,∃ c47:Nat,v46=.slice a47 l47 c47∧True∧ac PP 158 #[.pointer (some ⟨mb,0,none⟩:Option Addr),.slice a47 l47 c47] (fun v48 H15=>∃ n49:Int,∃ n50:Int,v48=.tuple #[.int .i64 n49,.int .i64 n50]∧True∧J37 [.int .i64 n50,.int .i64 n49] H15) H14) (H13.push (.cells #[.int .i64 n35] 26))) H12)∧(((aa (H12.push (.cells #[.int .i64 n35] 26)) q38=some (.pointer p39)∧True)∧True)∧ac PP 160 #[.agg #[.pointer p39],.int .i64 n43] (fun v51 H16=>∃ a52:Option Addr,∃ l52:Nat,∃ c52:Nat,v51=.slice a52 l52 c52∧True∧aK PP (Builtin.append_ #[30,30] 30 #[.slice a52 l52 c52,.slice (some (⟨H12.size,0,none⟩:Addr)) 1 1]) (fun v53 H17=>∃ a54:Option Addr,∃ l54:Nat,∃ c54:Nat,v53=.slice a54 l54 c54∧True∧ac PP 158 #[.pointer (some ⟨mb,0,none⟩:Option Addr),.slice a54 l54 c54] (fun v55 H18=>∃ n56:Int,∃ n57:Int,v55=.tuple #[.int .i64 n56,.int .i64 n57]∧True∧J37 [.int .i64 n57,.int .i64 n56] H18) H17) H16) (H12.push (.cells #[.int .i64 n35] 26)))) H11)∧(((aa (H11.push (.cells #[.int .i64 n35] 26)) q40=some (.pointer p41)∧True)∧((aa (H11.push (.cells #[.int .i64 n35] 26)) q38=some (.pointer p39)∧True)∧True))∧ac PP 161 #[.agg #[.pointer p41],.int .i64 0] (fun v58 H19=>∃ n59:Int,v58=.int .i64 n59∧((aa H19 q38=some (.pointer p39)∧True)∧True)∧ac PP 160 #[.agg #[.pointer p39],.int .i64 n59] (fun v60 H20=>∃ a61:Option Addr,∃ l61:Nat,∃ c61:Nat,v60=.slice a61 l61 c61∧True∧aK PP (Builtin.append_ #[30,30] 30 #[.slice a61 l61 c61,.slice (some (⟨H11.size,0,none⟩:Addr)) 1 1]) (fun v62 H21=>∃ a63:Option Addr,∃ l63:Nat,∃ c63:Nat,v62=.slice a63 l63 c63∧True∧ac PP 158 #[.pointer (some ⟨mb,0,none⟩:Option Addr),.slice a63 l63 c63] (fun v64 H22=>∃ n5:Int,∃ n6:Int,v64=.tuple #[.int .i64 n5,.int .i64 n6]∧True∧J37 [.int .i64 n6,.int .i64 n5] H22) H21) H20) H19) (H11.push (.cells #[.int .i64 n35] 26))))∧∀ w67 H23,J37 w67 H23->∀ _g:Nat->Value,∃ n8:Int,∃ n9:Int,w67=[.int .i64 n8,.int .i64 n9]∧cond (n8 != 0) (Q (.tuple #[.int .i64 0,.int .i64 n8]) H23) (∃ q70,(some ⟨mb,0,none⟩:Option Addr)=some q70∧∃ p71:Option Addr,aa H23 q70=some (.pointer p71)∧∃ q72,p71=some q72∧∃ p73:Option Addr,aa H23 q72=some (.pointer p73)∧ac PP 162 #[.pointer p73,.int .i64 0,.int .i64 n9] (fun v74 H24=>∃ n75:Int,v74=.int .i64 n75∧ac PP 89 #[.int .i64 n35] (fun v76 H25=>∃ n77:Int,∃ n78:Int,v76=.tuple #[.int .i64 n77,.int .i64 n78]∧Q (.tuple #[.int .i64 n77,.int .i64 n78]) H25) H24) H23))) (H.push (.cells #[.int .i64 n,.int .i64 n29,.int .i64 l,.int .i64 n27,.int .i64 n27,.int .i64 n31,.int .i64 n33] 26)):=by
 have hm1:=hk.shape.many1
 have hcw:v.clsW.length=v.cls.length:=by simp [KV.clsW]
 subst e27 e31 e29 e33
 have hws:=dI (n:=n) (up:=up) (l:=l) (k:=v.clsW.length) hn (bB hup.1 hup.2) hl (by omega)
 obtain ⟨b1,b2,b3,b4⟩:=ie hk (by omega) (cls:=12) (by decide) hws
 have fp:=(Fr.push [] H (.cells (ag (bv n up l v.clsW.length)).toArray 26))
 have hlt:=hM.k.lt
 rw [←hcw]
 unfold ee at h
 refine sv (s:=s) (ws:=bv n up l v.clsW.length) (hM.nil fp) (by decide) lf (fun p hp hm=>?_) (by decide) fun H' F' hM' hu=>⟨_,_,rfl,?_⟩
 ·cases hp
  exact absurd (hlt _ hm) (Nat.lt_irrefl _)
 rw [aY,af]
 have hu':=(Up.of_nil fp).trans hu
 refine ap (fun he=>?_) fun he=>?_
 ·rw [if_pos he] at h
  have:=h _ _ hM' hu'
  have hz:=(b3 he).2
  exact this
 rw [if_neg he] at h
 have hz:(s.make 12 (bv n up l v.clsW.length)).1.2=0:=Classical.byContradiction he
 obtain ⟨c,ec,est,c1,c2,_⟩:=b4 hz
 rw [ec] at h ⊢
 exact rJ hM' b1 ⟨c1,c2⟩ (by rw [est,List.length_append];simp;omega) fun H2 F2 hM2 hu2=>h H2 F2 hM2 (hu'.trans hu2)
theorem Au (s:SP) (t:TB) (cw:List Int) (n up l:Int):(ee s t cw n up l).2.2=t:=by
 unfold ee
 split
 ·rfl
 ·unfold cF;split <;> rfl
theorem tv (hM:PM H mb b F s t cnt mk kp) (hk:KS s v){name:ByteArray}{up:Int} (hup:1<=up∧up<=65536) (hst:s.stack.length<60000){a:Option Addr}{l c:Nat}{own:List ByteArray} (hr:Rd 1 H a l (bg own)) (hout:rA H a l F) (hlk:l<=100000000)
  (h:∀ H' F',PM H' mb b F' (dO s t v.clsW name up own).2.1 (dO s t v.clsW name up own).2.2 cnt mk kp->Up F H F' H'->Q (.tuple #[.int .i64 (dO s t v.clsW name up own).1.1,.int .i64 (dO s t v.clsW name up own).1.2]) H') :
  ac PP Kh #[.pointer (some ⟨mb,0,none⟩),.string name,.int .i64 up,.slice a l c] Q H:=by
 have hs1:aI PP 30=some (1,8,some (.int .i64 0)):=by kernel_rfl
 have hm1:=hk.shape.many1
 have hl:l=own.length:=by have:=hr.1;simpa [bg] using this.symm
 apply EZ
 unfold L2 A0 iV wW pV sV lV cS
 unfold dO at h
 refine mQ hM fun H1 F1 hM1 hu1=>⟨_,_,rfl,?_⟩
 rw [aY,af]
 refine ap (fun h1=>?_) fun h1=>?_
 ·rw [if_pos h1] at h;exact h H1 F1 hM1 hu1
 rw [if_neg h1] at h
 have hz1:(t.add name).1.2=0:=Classical.byContradiction h1
 rw [if_pos hz1]
 obtain ⟨nn,en,en2,_⟩:=lh name hz1
 rw [en] at h ⊢
 generalize (t.add name).2=t1 at *
 have hout1:=hout.up hu1
 have hr1:=hout.rd hu1 hr
 refine ⟨fun w H'=>∃(i:Nat) (t':TB) (acc:List Int) (a':Option Addr) (l' c':Nat) (G F':az),w=[.slice a' l' c',.int .i64 i]∧i<=own.length∧PM H' mb b F' s t' cnt mk kp∧Up F1 H1 F' H'∧t'.addAll acc (own.drop i)=t1.addAll [] own∧bK 1 H' a' l' c' (ag acc) G∧(∀ x∈G,H1.size<=x∧x∉F')∧acc.length=i,fun w _=>match w with
  | [_,.int _ i]=>(own.length-i).toNat
  | _=>0,⟨0,t1,[],none,0,0,[],F1,rfl,Nat.zero_le _,hM1,Up.refl _ _,rfl,by simpa [ag] using bK.nil 1 H1,by simp,rfl⟩,?_⟩
 rintro w H2 ⟨i,t2,acc,a2,l2,c2,G,F2,rfl,hi,hM2,hu2,hadd,ho,hG,hacc⟩ _
 have hl2:l2=i:=by have:=ho.len;simp only [ag,List.length_map] at this;omega
 have hgm:=hM1.m.lt
 have hgk:=hM1.k.kinds.lt
 refine ⟨_,_,_,_,rfl,?_⟩
 rw [af]
 refine ap (fun hlt=>?_) fun hlt=>?_
 ·obtain ⟨p,hlt2,rfl,hcell⟩:=(hout1.rd hu2 hr1).str (i:=(i:Int)) (by omega) hlt
  simp only [Int.toNat_natCast] at hcell hlt2
  have e1:IntKind.wrap .i64 ((i:Int)+1)=((i+1:Nat):Int):=by rw [ah (by omega) (by omega)];omega
  have ed:own.drop i=own[i] :: own.drop (i+1):=List.drop_eq_getElem_cons hlt2
  rw [ed,TB.addAll] at hadd
  refine ⟨⟨by omega,hlt⟩,_,rfl,_,by rw [Int.toNat_natCast,Nat.mul_one];exact hcell,mQ hM2 fun H3 F3 hM3 hu3=>⟨_,_,rfl,?_⟩⟩
  rw [aY,af]
  refine ap (fun h3=>?_) fun h3=>?_
  ·rw [if_pos h3] at hadd
   rw [if_pos (by rw [←hadd];exact h3),←hadd] at h
   exact h H3 F3 hM3 ((hu1.trans hu2).trans hu3)
  rw [if_neg h3] at hadd
  have hz3:(t2.add own[i]).1.2=0:=Classical.byContradiction h3
  rw [if_pos hz3]
  have hoG:∀ x∈G,x<H2.size:=ho.lt
  have ho3:bK 1 H3 a2 l2 c2 (ag acc) G:=ho.fr hu3.1 fun x hx=>(hG x hx).2
  refine bJ hs1 rfl (by kernel_rfl) ho3 rfl (by simp [dC]) (by omega) (by decide) (by decide) fun a' c' G2 H4 g1 g2 g3=>⟨_,_,_,rfl,?_⟩
  rw [e1]
  have hG3:∀ x∈G,H1.size<=x∧x∉F3:=fun x hx=>⟨(hG x hx).1,Up.out hu3 (hG x hx).2 (hoG x hx)⟩
  have hF3lt:=hM3.k.lt
  have hM4:PM H4 mb b F3 s (t2.add own[i]).2 cnt mk kp:=⟨hM3.k.fr g2.1 (fun x hx hm=>(hG3 x hm).2 hx) (fun hm=>by have:=(hG3 _ hm).1;omega),hM3.m.fr g2.1 (fun hm=>by have:=(hG3 _ hm).1;omega),hM3.out⟩
  have hu4:Up F1 H1 F3 H4:=by
   have h12:=hu2.trans hu3
   refine ⟨⟨Nat.le_trans h12.1.1 g2.1.1,fun x hx hn=>?_⟩,h12.2⟩
   rw [g2.1.2 x (Nat.lt_of_lt_of_le hx h12.1.1) (fun hm=>by have:=(hG3 x hm).1;omega),h12.1.2 x hx hn]
  refine ⟨⟨i+1,_,_,a',l2+1,c',G2,F3,rfl,by omega,hM4,hu4,hadd,?_,fun x hx=>?_,by simp [hacc]⟩,by simp;omega⟩
  ·rw [bX];exact g1
  ·rcases g2.2 x hx with h5 | h5
   ·exact hG3 x h5
   ·exact ⟨Nat.le_trans (hu2.trans hu3).1.1 h5,fun hm=>by have:=hF3lt x hm;omega⟩
 ·have hil:i=own.length:=by omega
  rw [hil,List.drop_length,TB.addAll] at hadd
  rw [if_neg (by rw [←hadd];simp),←hadd] at h
  simp only at h
  unfold fE at h
  have hu12:=hu1.trans hu2
  have hall:=jV (t:=t1) [] own (by rw [←hadd])
  rw [←hadd] at hall
  simp only at hall
  obtain ⟨ns,ens,ens2⟩:=hall
  rw [List.nil_append] at ens
  have hwt2:=hM2.k.wft
  have hns:∀ n∈ns,n<t2.texts.length:=fun n hn=>by
   have:t2.texts[n]?∈own.map some:=by rw [←ens2];exact List.mem_map.2 ⟨n,hn,rfl⟩
   obtain ⟨s,_,hs⟩:=List.mem_map.1 this
   exact (eH hs.symm).2
  have hnn:nn<t2.texts.length:=by
   have h5:=(eH en2).2
   have h6:=(ge t1 [] own).2
   rw [←hadd] at h6
   obtain ⟨m,e⟩:=h6
   rw [e,List.length_append];omega
  have hws:∀ w∈acc,cR w:=fun w hw=>by
   rw [ens] at hw
   obtain ⟨x,hx,rfl⟩:=List.mem_map.1 hw
   exact kO hwt2 (hns x hx)
  obtain ⟨a1,a2',⟨m1,a3,a3'⟩,a4⟩:=eU hk (by omega) hws
  refine pj hM2 ho.rd (fun p hp=>?_) (by omega) fun H3 F3 hM3 hu3=>⟨_,_,rfl,?_⟩
  ·rcases ho.2.2 with ⟨h5,_⟩ | ⟨b',cs,h5,h6,_⟩
   ·rw [h5] at hp;cases hp
   ·rw [h5] at hp;cases hp
    exact (hG b' (by rw [h6];simp)).2
  have hu13:=hu12.trans hu3
  rw [aY,af]
  refine ap (fun h5=>?_) fun h5=>?_
  ·rw [if_pos h5] at h;exact h H3 F3 hM3 hu13
  rw [if_neg h5] at h
  have hz5:(s.array acc).1.2=0:=Classical.byContradiction h5
  obtain ⟨lo,elo,lo1,lo2,_⟩:=a4 hz5
  refine ⟨_,rfl,_,hM3.m.cell 0,qh hM3.k a1 fun H4 f4=>⟨_,rfl,cg (by decide) ⟨_,rfl,cg hup ⟨_,rfl,ib (by decide) ⟨_,rfl,?_⟩⟩⟩⟩⟩
  have ew:IntKind.wrap .i64 ((v.cls.length:Int)+1)=(v.cls.length:Int)+1:=ah (by omega) (by omega)
  rw [ew]
  refine ib ⟨by omega,by omega⟩ ⟨_,rfl,?_⟩
  have hu4:Up F3 H3 F3 H4:=Up.of_nil f4
  refine qu (hM3.nil f4) a1 (kO hwt2 hnn) hup (by rw [elo];exact bB lo1 lo2) (by rw [a3,List.length_append];omega) rfl rfl rfl rfl fun H5 F5 hM5 hu5=>?_
  have et:(ee (s.array acc).2 t2 v.clsW (4*(nn:Int)+2) up (s.array acc).1.1).2.2=t2:=Au _ _ _ _ _ _
  exact h H5 F5 (by rw [et];exact hM5) ((hu13.trans hu4).trans hu5)
end
section
variable {H:ae}{b:Nat}{F:az}{s:SP}{t:TB}{v:KV}{Q:QT}
theorem tZ (hK:PK H b F s t) (hv:KAllW s t v) (hst:s.stack.length<60000){name sup:ByteArray}{a:Option Addr}{l c:Nat}{own:List ByteArray} (hr:Rd 1 H a l (bg own)) (hout:rA H a l F) (hlc:l<=c) (hlk:l<=1000000000000000)
  (h:∀ H' F',PK H' b F' (bc s v t name sup own).2.1 (bc s v t name sup own).2.2->Up F H F' H'->Q (.tuple #[.int .i64 (bc s v t name sup own).1.1,.int .i64 (bc s v t name sup own).1.2]) H') :
  ac PP KJ #[.pointer (some ⟨b,0,none⟩),.string name,.string sup,.slice a l c] Q H:=by
 apply Bx
 unfold LI iV pV sV lV cS
 unfold bc at h
 refine ii hK ⟨_,rfl,?_⟩
 simp only [Bool.not_true,cond_false]
 refine pp hK hv hr hlc (by omega) fun H1 hf1=>⟨_,_,rfl,?_⟩
 rw [aY,af]
 refine ap (fun h1=>?_) fun h1=>?_
 ·rw [if_pos h1] at h;exact h H1 F (hK.nil hf1) (Up.of_nil hf1)
 rw [if_neg h1] at h
 obtain ⟨j,hj,ej,hlt,hno,_,_⟩:=zW hv (Classical.byContradiction h1)
 rw [ej] at h ⊢
 have hb:=oa hv.ks hj
 refine ze (hK.nil hf1) fun H2 mb hM2 hf2=>⟨_,rfl,?_⟩
 have hf12:=hf1.trans hf2
 have hu2:Up F H F H2:=Up.of_nil hf12
 have hl32:=xd (Classical.byContradiction h1)
 refine tv hM2 hv.ks hb hst (hout.rd hu2 hr) (hout.up hu2) (by have:=hr.1;simp only [bg,List.length_map] at this;omega) fun H3 F3 hM3 hu3=>⟨_,_,rfl,?_⟩
 refine GZ hM3 ⟨by omega,by omega⟩ fun H4 hK4 hf4=>⟨_,rfl,?_⟩
 have hu4:Up F H F3 H4:=(hu2.trans hu3).trans ⟨hf4,fun _ h=>.inl h⟩
 have:=h H4 F3 hK4 hu4
 unfold bn at this
 rw [aY,af]
 refine ap (fun h2=>?_) fun h2=>?_
 ·rw [if_neg h2] at this;exact this
 ·have hz:=Classical.byContradiction h2
  rw [if_pos hz] at this
  have e0:(dO s t v.clsW name (v.cls[j]).oop own).1.2=0:=hz
  rw [e0] at this
  exact this
theorem cG (hK:PK H b F s t) (h:∀ sb F1,aa H ⟨b,0,none⟩=some (.pointer (some ⟨sb,0,none⟩))->eS H sb F1 s->(∀ x∈F1,x∈F)->(∀ H' F1' s',eS H' sb F1' s'->Up F1 H F1' H'->∃ F',PK H' b F' s' t∧Up F H F' H')->(∀ H' s',eS H' sb F1 s'->Fr F1 H H'->PK H' b F s' t)->Q (.pointer (some ⟨sb,0,none⟩)) H):ac PP Dt #[.pointer (some ⟨b,0,none⟩)] Q H:=by
 obtain ⟨sb,F1,hc,hS,hsub,_,hup,hup2⟩:=hK.sp
 apply IJ
 unfold k7 pV
 exact ⟨_,rfl,_,hc,h sb F1 hc hS hsub hup hup2⟩
theorem kU (hK:PK H b F s t) (h:∀ tb F1,aa H ⟨b,1,none⟩=some (.pointer (some ⟨tb,0,none⟩))->lJ H tb F1 t->Q (.pointer (some ⟨tb,0,none⟩)) H):ac PP A3 #[.pointer (some ⟨b,0,none⟩)] Q H:=by
 obtain ⟨tb,F1,hc,hT,_⟩:=hK.tb
 apply vM
 unfold Lk pV
 exact ⟨_,rfl,_,hc,h tb F1 hc hT⟩
end
end Go.Proofs.YtgjfejoohojokaaGreatDoor
namespace Kw
open Go
theorem GR (s j:Nat):(255*2 ^ s).testBit j=(decide (s<=j) && decide (j-s<8)):=by
 rw [←Nat.shiftLeft_eq,Nat.testBit_shiftLeft]
 have:(255:Nat)=2 ^ 8-1:=rfl
 rw [this,Nat.testBit_two_pow_sub_one]
theorem Mz (w s j:Nat):(w*2 ^ s).testBit j=(decide (s<=j) && w.testBit (j-s)):=by
 rw [←Nat.shiftLeft_eq,Nat.testBit_shiftLeft]
theorem sG {w s:Nat} (hw:w<256) (hs:s<=24):eA .i64 (w:Int) (s:Int)=((w*2 ^ s:Nat):Int):=by
 have h1:2 ^ s<=2 ^ 24:=Nat.pow_le_pow_right (by decide) hs
 have h2:w*2 ^ s<=255*2 ^ 24:=Nat.mul_le_mul (by omega) h1
 have h3:((w:Int)*((2 ^ s:Nat):Int))=((w*2 ^ s:Nat):Int):=by rw [Int.natCast_mul]
 rw [jl _ _ (by omega) (by rw [h3];constructor <;> omega),h3]
theorem ip (n:Nat):BitVec.ofInt 64 (n:Int)=BitVec.ofNat 64 n:=by simp
def eE (n w s:Nat):Nat:=(BitVec.ofNat 64 n &&& ~~~(BitVec.ofNat 64 (255*2 ^ s)) ||| BitVec.ofNat 64 (w*2 ^ s)).toNat
theorem kd {n w s:Nat} (hn:n<4294967296) (hw:w<256) (hs:s<=24) (i:Nat):(eE n w s).testBit i=((n.testBit i && !(decide (s<=i) && decide (i-s<8))) || (decide (s<=i) && w.testBit (i-s))):=by
 unfold eE
 rw [BitVec.testBit_toNat,BitVec.getLsbD_or,BitVec.getLsbD_and,BitVec.getLsbD_not,BitVec.getLsbD_ofNat,BitVec.getLsbD_ofNat,BitVec.getLsbD_ofNat,GR,Mz]
 by_cases h:i<64
 ·simp [h]
 ·have h1:n.testBit i=false:=Nat.testBit_lt_two_pow (Nat.lt_of_lt_of_le hn (by
   have:2 ^ 32<=2 ^ i:=Nat.pow_le_pow_right (by decide) (by omega)
   exact this))
  have h2:w.testBit (i-s)=false:=Nat.testBit_lt_two_pow (Nat.lt_of_lt_of_le hw (by
   have:2 ^ 8<=2 ^ (i-s):=Nat.pow_le_pow_right (by decide) (by omega)
   exact this))
  simp [h,h1,h2]
theorem qc {n w s:Nat} (hn:n<4294967296) (hw:w<256) (hs:s<=24):eE n w s<4294967296:=by
 have:eE n w s<2 ^ 32:=by
  refine Nat.lt_pow_two_of_testBit _ fun i hi=>?_
  rw [kd hn hw hs]
  have h1:n.testBit i=false:=Nat.testBit_lt_two_pow (Nat.lt_of_lt_of_le hn (by
   have:2 ^ 32<=2 ^ i:=Nat.pow_le_pow_right (by decide) (by omega)
   exact this))
  have h2:w.testBit (i-s)=false:=Nat.testBit_lt_two_pow (Nat.lt_of_lt_of_le hw (by
   have:2 ^ 8<=2 ^ (i-s):=Nat.pow_le_pow_right (by decide) (by omega)
   exact this))
  simp [h1,h2]
 exact this
theorem qv {n w s:Nat} (hn:n<4294967296) (hw:w<256) (hs:s<=24):eE n w s / 2 ^ s % 256=w:=by
 have:eE n w s / 2 ^ s % 2 ^ 8=w:=by
  refine Nat.eq_of_testBit_eq fun i=>?_
  rw [Nat.testBit_mod_two_pow,Nat.testBit_div_two_pow,kd hn hw hs]
  by_cases h:i<8
  ·have h1:s<=i+s:=by omega
   have h2:i+s-s=i:=by omega
   simp [h,h1,h2]
  ·have h2:w.testBit i=false:=Nat.testBit_lt_two_pow (Nat.lt_of_lt_of_le hw (by
    have:2 ^ 8<=2 ^ i:=Nat.pow_le_pow_right (by decide) (by omega)
    exact this))
   simp [h,h2]
 exact this
theorem pi {n w s s':Nat} (hn:n<4294967296) (hw:w<256) (hs:s<=24) (hd:s'+8<=s∨s+8<=s'):eE n w s / 2 ^ s' % 256=n / 2 ^ s' % 256:=by
 have:eE n w s / 2 ^ s' % 2 ^ 8=n / 2 ^ s' % 2 ^ 8:=by
  refine Nat.eq_of_testBit_eq fun i=>?_
  rw [Nat.testBit_mod_two_pow,Nat.testBit_div_two_pow,kd hn hw hs,Nat.testBit_mod_two_pow,Nat.testBit_div_two_pow]
  by_cases h:i<8
  ·rcases hd with hd | hd
   ·have h1:¬ s<=i+s':=by omega
    simp [h,h1]
   ·have h1:¬ (i+s'-s<8):=by omega
    have h2:w.testBit (i+s'-s)=false:=Nat.testBit_lt_two_pow (Nat.lt_of_lt_of_le hw (by
     have:2 ^ 8<=2 ^ (i+s'-s):=Nat.pow_le_pow_right (by decide) (by omega)
     exact this))
    simp [h,h1,h2]
  ·simp [h]
 exact this
theorem vd {n w s:Nat} (hn:n<4294967296) (hw:w<256) (hs:s<=24):sy .i64 (jq .i64 (n:Int) (eA .i64 255 (s:Int))) (eA .i64 (w:Int) (s:Int))=(eE n w s:Int):=by
 have e255:eA .i64 255 (s:Int)=((255*2 ^ s:Nat):Int):=sG (w:=255) (by decide) hs
 have e1:jq .i64 (n:Int) (eA .i64 255 (s:Int))=((BitVec.ofNat 64 n &&& ~~~(BitVec.ofNat 64 (255*2 ^ s))).toNat:Int):=by
  unfold jq
  rw [e255]
  show IntKind.wrap .i64 ((BitVec.ofInt 64 (n:Int) &&& ~~~(BitVec.ofInt 64 ((255*2 ^ s:Nat):Int))).toNat:Int)=_
  rw [ip,ip]
  have h1:(BitVec.ofNat 64 n &&& ~~~(BitVec.ofNat 64 (255*2 ^ s))).toNat<=n:=by
   rw [BitVec.toNat_and]
   refine Nat.le_trans Nat.and_le_left ?_
   rw [BitVec.toNat_ofNat];exact Nat.mod_le _ _
  exact gn (by omega) (by omega)
 rw [e1,sG hw hs]
 unfold sy
 show IntKind.wrap .i64 ((BitVec.ofInt 64 ((BitVec.ofNat 64 n &&& ~~~(BitVec.ofNat 64 (255*2 ^ s))).toNat:Int) ||| BitVec.ofInt 64 ((w*2 ^ s:Nat):Int)).toNat:Int)=_
 rw [ip,ip,BitVec.ofNat_toNat,BitVec.setWidth_eq]
 have h2:=qc hn hw hs
 unfold eE at h2 ⊢
 exact gn (by omega) (by omega)
end Kw
namespace Go.Proofs.YtgjfejoohojokaaGreatDoor
open Kw
section
variable {H:ae}{hb:Nat}{W T B:Int->Int}{low:Int}{r:RH}{Q:QT}
theorem zp (hw:WFH r) (hs:SimH W T B low r){o:RO}{k i w:Int} (ho:am r.objs k=some o) (h0:0<=i) (h1:i<o.slots.length) (hf:o.fmt=1) (w0:0<=w) (w1:w<=255) :
  SimH (upd W (o.place+2+i / 4) (eE (W (o.place+2+i / 4)).toNat w.toNat (i % 4*8).toNat:Nat)) T B low { r with objs:=fg r.objs k (cM i w) }:=by
 have hom:=au ho
 have hlen:o.len=2+((o.slots.length:Int)+3) / 4:=by unfold RO.len lenOf;rw [if_pos hf]
 obtain ⟨n0,n1⟩:=hs.byr o hom.1 hf (o.place+2+i / 4) (by omega) (by omega)
 have hn:(W (o.place+2+i / 4)).toNat<4294967296:=by omega
 have hwn:w.toNat<256:=by omega
 have hsn:(i % 4*8).toNat<=24:=by omega
 have key:∀ o'∈fg r.objs k (cM i w),∃ a∈r.objs,(a.oop=k∧a=o∧o'=cM i w o)∨(a.oop≠k∧o'=a∧(a.place+a.len<=o.place∨o.place+o.len<=a.place)):=by
  intro o' ho'
  simp only [fg,List.mem_map] at ho'
  obtain ⟨a,ha,rfl⟩:=ho'
  refine ⟨a,ha,?_⟩
  split
  ·rename_i hk
   have:a=o:=by have:=ch hw.objs ha;rw [hk,ho] at this;exact (Option.some.inj this).symm
   exact .inl ⟨hk,this,by rw [this]⟩
  ·rename_i hk
   exact .inr ⟨hk,rfl,apart hw.objs ha hom.1 (by rw [hom.2];exact hk)⟩
 refine { tab:=fun j g0 g1=>?_,bor:=fun o' ho'=>?_,cls:=fun o' ho'=>?_,shp:=fun o' ho'=>?_,wrd:=fun o' ho' hf' j hj=>?_,byt:=fun o' ho' hf' j hj=>?_,byr:=fun o' ho' hf' j hj1 hj2=>?_,low1:=hs.low1,low2:=hs.low2,low3:=fun j g0 g1=>?_ }
 ·rw [hs.tab j g0 g1]
  have e:=bZ (l:=r.objs) (k:=k) (j:=j) (f:=cM i w) fun _=>rfl
  simp only [e]
  cases am r.objs j with
  | none=>rfl
  | some a=>simp only [Option.map_some];split <;> rfl
 ·obtain ⟨a,ha,⟨hk,rfl,rfl⟩ | ⟨hk,rfl,hd⟩⟩:=key o' ho'
  ·exact hs.bor a ha
  ·exact hs.bor _ ha
 ·obtain ⟨a,ha,⟨hk,rfl,rfl⟩ | ⟨hk,rfl,hd⟩⟩:=key o' ho'
  ·show upd W _ _ a.place=a.cls
   rw [upd,if_neg (by omega)];exact hs.cls _ ha
  ·have:=o'.len_pos
   rw [upd,if_neg (by omega)];exact hs.cls _ ha
 ·obtain ⟨a,ha,⟨hk,rfl,rfl⟩ | ⟨hk,rfl,hd⟩⟩:=key o' ho'
  ·show upd W _ _ (a.place+1)=2*(((a.slots.set i.toNat w).length:Nat):Int)+a.fmt
   rw [upd,if_neg (by omega),List.length_set];exact hs.shp _ ha
  ·have:=o'.len_pos
   rw [upd,if_neg (by omega)];exact hs.shp _ ha
 ·obtain ⟨a,ha,⟨hk,rfl,rfl⟩ | ⟨hk,rfl,hd⟩⟩:=key o' ho'
  ·have:a.fmt=0:=hf'
   omega
  ·have hl:o'.len=2+(o'.slots.length:Int):=by unfold RO.len lenOf;rw [if_neg (by omega)]
   rw [upd,if_neg (by omega)];exact hs.wrd _ ha hf' j hj
 ·obtain ⟨a,ha,⟨hk,rfl,rfl⟩ | ⟨hk,rfl,hd⟩⟩:=key o' ho'
  ·have hj':j<a.slots.length:=by simpa [cM] using hj
   show upd W _ _ (a.place+2+(j / 4:Nat)) / ((2 ^ (j % 4*8):Nat):Int) % 256=(a.slots.set i.toNat w).getD j 0
   have hold:=hs.byt _ ha hf j hj'
   unfold upd
   split
   ·rename_i he
    have e4:(j / 4:Nat)=i / 4:=by omega
    by_cases hji:i.toNat=j
    ·have es:j % 4*8=(i % 4*8).toNat:=by omega
     rw [es]
     have:=qv hn hwn hsn
     have h2:((eE (W (a.place+2+i / 4)).toNat w.toNat (i % 4*8).toNat:Nat):Int) / ((2 ^ (i % 4*8).toNat:Nat):Int) % 256=(w.toNat:Int):=by
      rw [←Int.natCast_ediv]
      have h3:=congrArg (fun x:Nat=>(x:Int)) this
      simp only [Int.natCast_emod] at h3
      exact h3
     rw [h2]
     simp [hji,hj']
     omega
    ·have:=pi (s':=j % 4*8) hn hwn hsn (by omega)
     have h2:((eE (W (a.place+2+i / 4)).toNat w.toNat (i % 4*8).toNat:Nat):Int) / ((2 ^ (j % 4*8):Nat):Int) % 256=W (a.place+2+i / 4) / ((2 ^ (j % 4*8):Nat):Int) % 256:=by
      rw [←Int.natCast_ediv]
      have h3:=congrArg (fun x:Nat=>(x:Int)) this
      simp only [Int.natCast_emod] at h3
      rw [Int.natCast_ediv (W (a.place+2+i / 4)).toNat,Int.toNat_of_nonneg n0] at h3
      exact h3
     rw [h2]
     have e5:a.place+2+((j / 4:Nat):Int)=a.place+2+i / 4:=by omega
     rw [e5] at hold
     rw [hold]
     simp [List.getElem?_set,hji]
   ·rename_i he
    have hji:i.toNat≠j:=by omega
    rw [hold]
    simp [List.getElem?_set,hji]
  ·have hl:o'.len=2+((o'.slots.length:Int)+3) / 4:=by unfold RO.len lenOf;rw [if_pos hf']
   rw [upd,if_neg (by omega)];exact hs.byt _ ha hf' j hj
 ·obtain ⟨a,ha,⟨hk,rfl,rfl⟩ | ⟨hk,rfl,hd⟩⟩:=key o' ho'
  ·have hl2:(cM i w a).len=a.len:=fJ i w a
   have hj2':j<a.place+a.len:=by
    have:(cM i w a).place=a.place:=rfl
    omega
   have hj1':a.place+2<=j:=hj1
   unfold upd
   split
   ·have:=qc hn hwn hsn
    omega
   ·exact hs.byr _ ha hf j hj1' hj2'
  ·rw [upd]
   split
   ·rename_i he
    have hl:o'.len=2+((o'.slots.length:Int)+3) / 4:=by unfold RO.len lenOf;rw [if_pos hf']
    omega
   ·exact hs.byr _ ha hf' j hj1 hj2
 ·have:=hs.low3 j g0 g1
  have e:=bZ (l:=r.objs) (k:=k) (j:=j) (f:=cM i w) fun _=>rfl
  simp only [e]
  cases hj:am r.objs j with
  | none=>exact absurd hj this
  | some a=>simp
theorem CX {F:az} (hR:bW H hb F r){k i w:Int} (h:∀ H',bW H' hb F (r.put k i w).2->Fr F H H'->Q (.int .i64 (r.put k i w).1) H'):ac PP rf #[.pointer (some ⟨hb,0,none⟩),.int .i64 k,.int .i64 i,.int .i64 w] Q H:=by
 cases ho:am r.objs k with
 | none=>exact lR hR (fun o h=>by rw [ho] at h;cases h) h
 | some o =>
  by_cases hf0:o.fmt=0
  ·exact lR hR (fun o' h=>by rw [ho] at h;cases h;exact hf0) h
  have hR0:=hR
  obtain ⟨wb,tb,bb,W,T,B,low,rfl,hR⟩:=hR
  have hm:=(au ho).1
  have hf1:o.fmt=1:=by have:=(hR.wf.objs.good o hm).fmt;omega
  apply sF
  unfold Cb iV pV lV cS
  refine qM hR ?_
  unfold qk
  have hwf:=jW hR.wf k i w
  unfold RH.put at h hwf
  rw [ho] at h hwf ⊢
  obtain ⟨h1,h2,h3,h4,h5,h6⟩:=hR.in_ hm
  simp only at h hwf ⊢
  split
  ·rename_i hi
   simp only [if_pos hi] at h
   exact ⟨_,_,_,_,rfl,by simpa using h H hR0 (Fr.refl _ _)⟩
  ·rename_i hi
   simp only [if_neg hi] at h hwf
   have hs:=(nV hR hm (i:=i) (by omega) (by omega)).1 hf1
   first | rw [if_pos hf1] | skip
   refine ⟨_,_,_,_,rfl,?_⟩
   simp only [af,cond_true,cond_false,Option.isNone_some,Option.isNone_none,aH,aC,aR,aL,aF,aN,aM,aB,aO,aP,aG,aQ,and_assoc,true_and,and_true,al,Nat.zero_add,Nat.mul_one,aq,ao,aA,Bool.not_true,Bool.not_false,aX,aY,ne_eq,not_true_eq_false,if_false]
   refine Be hR.kinds ⟨_,rfl,?_⟩
   by_cases hmay:eO o.fmt w
   ·simp only [hmay,not_true_eq_false,if_false] at h hwf
    have hmay':eO 1 w:=hf1 ▸ hmay
    have hw01:0<=w∧w<=255:=by unfold eO at hmay';rwa [if_pos rfl] at hmay'
    have hsg:¬ (i % 4*8<0):=by omega
    obtain ⟨n0,n1⟩:=hR.sim.byr o hm hf1 (o.place+2+i / 4) (by omega) (by omega)
    have hcw:=hR.word (i:=o.place+2+i / 4) (by omega) (by omega)
    have ew:sy .i64 (jq .i64 (W (o.place+2+i / 4)) (eA .i64 255 (i % 4*8))) (eA .i64 w (i % 4*8))=((eE (W (o.place+2+i / 4)).toNat w.toNat (i % 4*8).toNat:Nat):Int):=by
     have:=vd (n:=(W (o.place+2+i / 4)).toNat) (w:=w.toNat) (s:=(i % 4*8).toNat) (by omega) (by omega) (by omega)
     rw [Int.toNat_of_nonneg n0,Int.toNat_of_nonneg hw01.1,Int.toNat_of_nonneg (by omega:0<=i % 4*8)] at this
     exact this
    simp only [af,cond_true,cond_false,Option.isNone_some,Option.isNone_none,aH,aC,aR,aL,aF,aN,aM,aB,aO,aP,aG,aQ,and_assoc,true_and,and_true,al,Nat.zero_add,Nat.mul_one,aq,ao,aA,Bool.not_true,Bool.not_false,aX,aY,hmay',decide_true,hR.c0,hcw,hsg,decide_false,if_false,if_true,not_true_eq_false]
    refine ⟨by omega,by omega,by omega,by omega,hR.mw.wr (by omega) (by omega),?_⟩
    rw [ew]
    refine h _ ⟨wb,tb,bb,upd W (o.place+2+i / 4) ((eE (W (o.place+2+i / 4)).toNat w.toNat (i % 4*8).toNat:Nat):Int),T,B,low,rfl,?_⟩ (Fr.set (by simp))
    have hd:=hR.d
    simp only [List.nodup_cons,List.mem_cons,List.not_mem_nil,or_false,not_or] at hd
    refine { hd:=?_,mw:=hR.mw.set (by omega) _,mt:=hR.mt.set_ne (by simp;omega) _,mb:=hR.mb.set_ne (by simp;omega) _,d:=hR.d,kinds:=hR.kinds.fr (Fr.set (F:=[wb]) (by simp)) (by simp;omega),wf:=hwf,sim:=zp hR.wf hR.sim ho (by omega) (by omega) hf1 hw01.1 hw01.2 }
    have:=hR.hd.set_ne (a:=⟨wb,(o.place+2+i / 4).toNat,none⟩) (by simp;omega) (.int .i64 ((eE (W (o.place+2+i / 4)).toNat w.toNat (i % 4*8).toNat:Nat):Int))
    simp only [oX,jT (k:=k) (f:=cM i w) (l:=r.objs) (fun _=>rfl) (fJ i w)]
    exact this
   ·simp only [hmay,not_false_eq_true,if_true] at h
    have hmay':¬ eO 1 w:=hf1 ▸ hmay
    simp only [af,cond_true,cond_false,Option.isNone_some,Option.isNone_none,aH,aC,aR,aL,aF,aN,aM,aB,aO,aP,aG,aQ,and_assoc,true_and,and_true,al,Nat.zero_add,Nat.mul_one,aq,ao,aA,Bool.not_true,Bool.not_false,aX,aY,hmay',decide_false,if_false,not_false_eq_true,if_true]
    exact h H hR0 (Fr.refl _ _)
end
end Go.Proofs.YtgjfejoohojokaaGreatDoor
namespace Kw
open Go
def ay:List (Int × Int):=[(5,0),(6,0),(7,0),(12,7),(12,7),(12,7),(12,7),(12,7),(12,7),(12,7),(12,7),(12,7),(12,7),(12,7),(12,7),(12,7),(12,7),(11,0),(11,8),(11,14)]
def RH.allocAll (r:RH):List (Int × Int)->Int × RH
 | []=>(0,r)
 | (c,n) :: l=>if (r.alloc (4*c) n 0).1.2≠0 then ((r.alloc (4*c) n 0).1.2,(r.alloc (4*c) n 0).2) else RH.allocAll (r.alloc (4*c) n 0).2 l
def ta (p:List RO × Int) (x:Int × Int):List RO × Int:=(p.1++[⟨bz p.1,0,aU p.1,p.2,4*x.1,List.replicate x.2.toNat 4⟩],IntKind.wrap .i64 (p.2+1))
def kQ (p:List RO × Int):List (Int × Int)->List RO × Int
 | []=>p
 | x :: l=>kQ (ta p x) l
theorem qy {r:RH} (hm:r.mark=0){c n:Int} (h:(r.alloc (4*c) n 0).1.2=0):(r.alloc (4*c) n 0).2={ r with objs:=(ta (r.objs,r.born) (c,n)).1,born:=(ta (r.objs,r.born) (c,n)).2 }:=by
 unfold RH.alloc at h ⊢
 split at h
 ·cases h
 rename_i g1
 split at h
 ·cases h
 rename_i g2
 split at h
 ·cases h
 rename_i g3
 split at h
 ·cases h
 rename_i g4
 rw [if_neg g1,if_neg g2,if_neg g3,if_neg g4]
 simp [ta,cl,hm]
theorem iH (l:List (Int × Int)):∀ {r:RH},r.mark=0->(r.allocAll l).1=0->(r.allocAll l).2={ r with objs:=(kQ (r.objs,r.born) l).1,born:=(kQ (r.objs,r.born) l).2 }:=by
 induction l with
 | nil=>intro r _ _;rfl
 | cons x l ih =>
  intro r hm h
  obtain ⟨c,n⟩:=x
  unfold RH.allocAll at h ⊢
  split at h
  ·rename_i hn;exact absurd h hn
  rename_i hn
  rw [if_neg hn]
  have e:=qy hm (Classical.byContradiction hn)
  have:=ih (r:=(r.alloc (4*c) n 0).2) (by rw [e];exact hm) h
  rw [this,e]
  rfl
theorem o8 (l:List (Int × Int)):∀ {r:RH},WFH r->WFH (r.allocAll l).2:=by
 induction l with
 | nil=>intro r h;exact h
 | cons x l ih =>
  intro r h
  obtain ⟨c,n⟩:=x
  unfold RH.allocAll
  split
  ·exact gW h _ _ _
  ·exact ih (gW h _ _ _)
def bG:List ByteArray:=[⟨#[79,98,106,101,99,116]⟩,⟨#[85,110,100,101,102,105,110,101,100,79,98,106,101,99,116]⟩,⟨#[70,97,108,115,101]⟩,⟨#[84,114,117,101]⟩,⟨#[73,110,116,101,103,101,114]⟩,⟨#[83,121,109,98,111,108]⟩,⟨#[83,116,114,105,110,103]⟩,⟨#[65,114,114,97,121]⟩,⟨#[67,108,97,115,115]⟩,⟨#[77,101,116,104,111,100]⟩,⟨#[66,108,111,99,107]⟩,⟨#[67,111,110,116,101,120,116]⟩,⟨#[80,114,111,99,101,115,115]⟩,⟨#[77,101,115,115,97,103,101]⟩]
def dt (i:Nat):List Int:=[4*(i:Int)+2,if i=0 then 4 else 16,72,72,72,1,2*((i:Int)+1)+1]
def A8 (i:Nat) (r:RH):RH:=((r.lay (4+i) 0 (dt i)).put 20 i (4*(4+i))).2
def iB (r:RH):Nat->RH
 | 0=>r
 | n+1=>A8 n (iB r n)
def pU:List Int:=[80,72,72,72,4,8,12]
def bR (r:RH):RH:=(iB r 14).lay 19 0 pU
def cn:List RO:=(kQ ([],0) ay).1
def bF (words oops:Int):RH:=⟨words,oops,0,0,0,[]⟩
def bf (words oops:Int):RH:=bR (((bF words oops).allocAll ay).2)
def br (words oops:Int):SP:=⟨bf words oops,19,[],false,0,0,0⟩
def bq:TB:=⟨4096,bG⟩
def ba:KV:=⟨(List.range 14).map fun i:Nat=>⟨4+i,i,if i=0 then 1 else 4,[],18,18,18,[],[],0⟩,20,[],18,[72,72,4,8,12,4]⟩
def vi:List (Int × List Int):=[(1,[]),(2,[]),(3,[])]++(List.range 14).map (fun i:Nat=>((4+i:Int),dt i))++[(18,[]),(19,[80,72,72,72,4,8,12,4]),(20,(List.range 14).map fun i:Nat=>4*(4+(i:Int)))]
theorem rj (w o m b t:Int):((bR ⟨w,o,m,b,t,cn⟩).objs.map fun x=>(x.oop,x.slots))=vi:=by kernel_rfl
theorem nh (w o m b t:Int):((bR ⟨w,o,m,b,t,cn⟩).objs.all fun x=>decide (x.fmt=0) && decide (aD x.cls=3))=true:=by kernel_rfl
theorem t7:(cn.all fun x=>decide (x.fmt=0))=true:=by kernel_rfl
theorem kA:(bG.all fun s=>decide (bx s))=true:=by kernel_rfl
theorem jt:bG.Nodup:=by decide +kernel
theorem uB {words oops:Int} (h0:0<=words) (h1:words<=1048576) (h2:0<=oops) (h3:oops<=65536):WFH (bF words oops) :=
 ⟨h0,h1,h2,h3,Int.le_refl _,by simp [bF],⟨by simp [bF],by simp [bF]⟩⟩
theorem wH {r:RH} (h:WFH r) (n:Nat):WFH (iB r n):=by
 induction n with
 | zero=>exact h
 | succ n ih=>exact jW (rv ih _ _ _) _ _ _
theorem uU {r:RH} (h:WFH r):WFH (bR r):=rv (wH h 14) _ _ _
theorem vq:WFT bq:=⟨by decide,by decide,by decide,jt,fun s hs=>by simpa using List.all_eq_true.1 kA s hs⟩
theorem xQ {i:Nat} (hi:i<bG.length):TB.add ⟨4096,bG.take i⟩ bG[i]=(((i:Int),0),⟨4096,bG.take (i+1)⟩):=by
 have hg:bx bG[i]:=by simpa using List.all_eq_true.1 kA _ (List.getElem_mem hi)
 have hn:bL (bG.take i) bG[i]=none:=iR.2 fun hm=>by
  obtain ⟨j,hj,e⟩:=List.getElem_of_mem hm
  rw [List.getElem_take] at e
  have:=(List.getElem_inj jt).1 e
  simp only [List.length_take] at hj
  omega
 have h14:bG.length=14:=rfl
 unfold TB.add
 rw [if_neg (by simpa using hg)]
 simp only [hn]
 rw [if_neg (by simp only [List.length_take];omega)]
 have e1:(bG.take i).length=i:=by rw [List.length_take];omega
 rw [e1,List.take_add_one,List.getElem?_eq_getElem hi]
 rfl
theorem tO:(ba.roles.all fun p=>decide (p∈vi))=true:=by kernel_rfl
theorem yx:GU ba:=by unfold GU;decide +kernel
theorem jo {words oops:Int} (h:((bF words oops).allocAll ay).1=0):(bf words oops).objs=(bR ⟨words,oops,0,20,0,cn⟩).objs:=by
 have e:((bF words oops).allocAll ay).2=⟨words,oops,0,20,0,cn⟩:=by
  rw [iH ay (r:=bF words oops) rfl h]
  kernel_rfl
 unfold bf
 rw [e]
theorem sS {words oops:Int} (hw:WFH (bf words oops)) (h:((bF words oops).allocAll ay).1=0){p:mC} (hp:p∈vi):eq (bf words oops) p.1 p.2:=by
 have e:=jo h
 rw [←rj words oops 0 20 0,←e] at hp
 obtain ⟨x,hx,rfl⟩:=List.mem_map.1 hp
 have hf:=nh words oops 0 20 0
 rw [←e] at hf
 have:=List.all_eq_true.1 hf x hx
 simp only [Bool.and_eq_true,decide_eq_true_eq] at this
 exact ⟨x,ch hw.objs hx,this.1,rfl⟩
theorem dW (i:Nat) (hi:i<ba.cls.length):ba.cls[i]=⟨4+i,i,if i=0 then 1 else 4,[],18,18,18,[],[],0⟩:=by simp [ba]
theorem ux {words oops:Int} (h0:0<=words) (h1:words<=1048576) (h2:0<=oops) (h3:oops<=65536):WFH (bf words oops):=by
 unfold bf
 exact uU (o8 _ (uB h0 h1 h2 h3))
attribute [local irreducible] bf
theorem kH {words oops:Int} (h0:0<=words) (h1:words<=1048576) (h2:0<=oops) (h3:oops<=65536) (h:((bF words oops).allocAll ay).1=0):KAll (br words oops) bq ba:=by
 have hw:WFH (bf words oops):=ux h0 h1 h2 h3
 have hl:ba.cls.length=14:=rfl
 refine ⟨⟨⟨hw,(by decide:(0:Int)<=19),(by decide:(19:Int)<=65536),(Nat.zero_le _:([]:List Int).length<=65536),fun w hw=>by cases hw⟩,?_,rfl,rfl,?_,yx,?_⟩,⟨vq,?_,?_,?_,?_⟩,rfl⟩
 ·intro x hx
  have hf:=nh words oops 0 20 0
  rw [←jo h] at hf
  have:=List.all_eq_true.1 hf x hx
  simp only [Bool.and_eq_true,decide_eq_true_eq] at this
  exact this.2
 ·intro p hp
  exact sS hw h (of_decide_eq_true (List.all_eq_true.1 tO p hp))
 ·refine ⟨rfl,by rw [hl];decide,by rw [hl];decide,by decide,fun _=>?_,fun i hi hpos=>?_,fun i hi h14=>?_,fun c hc=>?_⟩
  ·rw [dW];exact ⟨rfl,rfl⟩
  ·refine ⟨0,by decide,hpos,?_⟩
   rw [dW,dW]
   simp only
   rw [if_neg (by omega)]
   rfl
  ·rw [dW]
  ·obtain ⟨i,hi,rfl⟩:=List.getElem_of_mem hc
   rw [dW];simp
 ·intro c hc
  obtain ⟨i,hi,rfl⟩:=List.getElem_of_mem hc
  rw [dW]
  show i<14
  rw [hl] at hi;exact hi
 ·intro c hc n hn
  obtain ⟨i,hi,rfl⟩:=List.getElem_of_mem hc
  rw [dW] at hn
  cases hn
 ·intro p hp;cases hp
 ·have:ba.cls.map (·.name)=List.range 14:=by kernel_rfl
  rw [this];exact List.nodup_range
end Kw
namespace Kw
open Go
structure RoomyK (r:RH) (k:Nat) (m:Int):Prop where
 mark:r.mark=0
 objs:(r.objs.length:Int)+k<=r.oops
 words:aU r.objs+m<=r.words
theorem RoomyK.less {r:RH}{k k':Nat}{m m':Int} (h:RoomyK r k m) (hk:k'<=k) (hm:m'<=m):RoomyK r k' m':=⟨h.mark,by have:=h.objs;omega,by have:=h.words;omega⟩
theorem lA {r:RH}{k:Nat}{m cls n f:Int} (h:RoomyK r (k+1) (m+lenOf n f)) (hm:0<=m) (hc:cR cls) (hf:f=0∨f=1) (hn:0<=n) (hn2:n<=8192) :
  (r.alloc cls n f)=((bz r.objs,0),{ r with born:=IntKind.wrap .i64 (r.born+1),objs:=r.objs++[cl r cls n f] })∧RoomyK (r.alloc cls n f).2 k m:=by
 have h1:=h.objs
 have h2:=h.words
 have e:(r.alloc cls n f)=((bz r.objs,0),{ r with born:=IntKind.wrap .i64 (r.born+1),objs:=r.objs++[cl r cls n f] }):=by
  unfold RH.alloc
  rw [if_neg (by rintro (h3 | h3 | h3 | h3);exact h3 hc;all_goals omega),if_neg (by omega),if_neg (by omega),if_neg (by rw [h.mark];decide),h.mark]
  rfl
 refine ⟨e,?_⟩
 rw [e]
 refine ⟨h.mark,by simp only [List.length_append,List.length_cons,List.length_nil];omega,?_⟩
 show aU (r.objs++[cl r cls n f])+m<=r.words
 rw [cr]
 have:(cl r cls n f).place+(cl r cls n f).len=aU r.objs+lenOf n f:=by
  unfold cl RO.len
  simp only [List.length_replicate]
  rw [Int.toNat_of_nonneg hn]
 rw [this];omega
theorem lM {r:RH}{k:Nat}{m:Int} (h:RoomyK r k m) (o i w:Int):RoomyK (r.put o i w).2 k m:=by
 unfold RH.put
 split
 ·exact h
 split
 ·exact h
 split
 ·exact h
 ·refine ⟨h.mark,by simp only [fg,List.length_map];exact h.objs,?_⟩
  show aU (fg r.objs o (cM i w))+m<=r.words
  rw [jT (f:=cM i w) (fun _=>rfl) (fJ i w)]
  exact h.words
theorem lG {r:RH}{k:Nat}{m:Int} (h:RoomyK r k m) (o i:Int) (l:List Int):RoomyK (r.lay o i l) k m:=by
 induction l generalizing r i with
 | nil=>exact h
 | cons w l ih=>exact ih (lM h _ _ _) _
theorem qg {s:SP}{k:Nat}{m cls n f:Int} (h:RoomyK s.h (k+1) (m+lenOf n f)) (hm:0<=m) (hc:cR cls) (hf:f=0∨f=1) (hn:0<=n) (hn2:n<=8192) :
  s.alloc cls n f=((4*(s.h.alloc cls n f).1.1,0),{ s with h:=(s.h.alloc cls n f).2 })∧(s.h.alloc cls n f).1.2=0∧RoomyK (s.h.alloc cls n f).2 k m:=by
 obtain ⟨e,hr⟩:=lA h hm hc hf hn hn2
 have e0:(s.h.alloc cls n f).1.2=0:=by rw [e]
 refine ⟨?_,e0,hr⟩
 unfold SP.alloc
 rw [if_pos (.inl (by rw [e0];decide)),e0]
theorem nl {s:SP}{v:KV} (hk:KS s v) (hst:s.stack.length<65536){k:Nat}{m cls:Int}{ws:List Int} (h:RoomyK s.h (k+1) (m+(2+(ws.length:Int)))) (hm:0<=m) (hc:1<=cls∧cls<=65536) (hws:∀ w∈ws,cR w) (hl:ws.length<=8192) :
  (s.make cls ws).1.2=0∧RoomyK (s.make cls ws).2.h k m:=by
 have hi:cR (4*cls):=by
  unfold cR
  have:=aS (4*cls)
  omega
 have hlen:lenOf (ws.length:Int) 0=2+(ws.length:Int):=by unfold lenOf;rw [if_neg (by decide)]
 obtain ⟨e1,e2,hr⟩:=qg (s:=s) (cls:=4*cls) (n:=ws.length) (f:=0) (by rw [hlen];exact h) hm hi (.inl rfl) (by omega) (by omega)
 have ha:=gX hk.wf.h e2
 unfold SP.make
 rw [e1]
 simp only [ne_eq,not_true_eq_false,if_false]
 have hw:cR (4*(s.h.alloc (4*cls) (ws.length:Int) 0).1.1):=by
  unfold cR
  have:=aS (4*(s.h.alloc (4*cls) (ws.length:Int) 0).1.1)
  omega
 unfold SP.keepW
 rw [if_neg (by simpa using hw),if_neg (by simp only [List.length_cons,List.length_nil];omega)]
 exact ⟨rfl,lG hr _ _ _⟩
theorem mh {s:SP}{v:KV} (hk:KS s v) (hst:s.stack.length<65536){k:Nat}{m:Int}{ws:List Int} (h:RoomyK s.h (k+1) (m+(2+(ws.length:Int)))) (hm:0<=m) (hws:∀ w∈ws,cR w) (hl:ws.length<=8192) :
  (s.array ws).1.2=0∧RoomyK (s.array ws).2.h k m:=by
 unfold SP.array
 split
 ·exact ⟨rfl,h.less (by omega) (by omega)⟩
 ·exact nl hk hst h hm (by decide) hws hl
theorem oI {s:SP}{k:Nat}{m:Int} (h:RoomyK s.h k m) (i w:Int):RoomyK (s.setRoot i w).2.h k m:=lM h _ _ _
theorem nH (t:TB) (s:ByteArray):(t.add s).2.texts.length<=t.texts.length+1∧(t.add s).2.most=t.most:=by
 unfold TB.add
 split
 ·exact ⟨Nat.le_succ _,rfl⟩
 split
 ·exact ⟨Nat.le_succ _,rfl⟩
 ·split
  ·exact ⟨Nat.le_succ _,rfl⟩
  ·exact ⟨by simp,rfl⟩
theorem px {t:TB}{s:ByteArray} (hg:bx s) (h:(t.texts.length:Int)<t.most):(t.add s).1.2=0:=by
 unfold TB.add
 rw [if_neg (fun e=>e hg)]
 split
 ·rfl
 ·rw [if_neg (by omega)]
theorem ph {t:TB}{acc:List Int}{l:List ByteArray} (hg:∀ s∈l,bx s) (h:(t.texts.length:Int)+l.length<=t.most):(t.addAll acc l).1.2=0∧(t.addAll acc l).2.texts.length<=t.texts.length+l.length:=by
 induction l generalizing t acc with
 | nil=>exact ⟨rfl,by simp [TB.addAll]⟩
 | cons s l ih =>
  have h1:(t.add s).1.2=0:=px (hg s (by simp)) (by simp only [List.length_cons] at h;omega)
  have h2:=nH t s
  unfold TB.addAll
  rw [if_neg (by rw [h1];simp)]
  have:=ih (t:=(t.add s).2) (acc:=acc++[4*(t.add s).1.1+2]) (fun x hx=>hg x (by simp [hx])) (by simp only [List.length_cons] at h;rw [h2.2];omega)
  exact ⟨this.1,by simp only [List.length_cons];omega⟩
theorem vK {l:List ByteArray}{s:ByteArray}{n:Nat} (h:bL l s=some n):n<l.length:=by
 induction l generalizing n with
 | nil=>cases h
 | cons x l ih =>
  unfold bL at h
  split at h
  ·cases h;simp
  ·cases hx:bL l s with
   | none=>rw [hx] at h;cases h
   | some m =>
    rw [hx] at h
    cases h
    have:=ih hx
    simp only [List.length_cons];omega
theorem fj {t:TB} (hw:WFT t){acc:List Int}{l:List ByteArray} (ha:∀ w∈acc,cR w):∀ w∈(t.addAll acc l).1.1,cR w:=by
 induction l generalizing t acc with
 | nil=>exact ha
 | cons s l ih =>
  unfold TB.addAll
  split
  ·simp
  ·rename_i h0
   refine ih (fo hw s) fun w hw'=>?_
   rcases List.mem_append.1 hw' with h1 | h1
   ·exact ha w h1
   ·rw [List.mem_singleton.1 h1]
    have h2:=hw.m1
    have h3:=hw.len
    have:0<=(t.add s).1.1∧(t.add s).1.1<4096:=by
     unfold TB.add at h0 ⊢
     by_cases hg:bx s
     ·rw [if_neg (fun e=>e hg)] at h0 ⊢
      cases hn:bL t.texts s with
      | some n =>
       have hlt:n<t.texts.length:=vK hn
       simp only
       omega
      | none =>
       rw [hn] at h0
       simp only at h0 ⊢
       by_cases hm:t.most<=(t.texts.length:Int)
       ·rw [if_pos hm] at h0;simp at h0
       ·rw [if_neg hm];simp only;omega
     ·rw [if_pos hg] at h0;simp at h0
    unfold cR
    have:=aS (4*(t.add s).1.1+2)
    omega
end Kw
namespace Kw
open Go
theorem rK {s:SP}{v:KV}{t:TB} (hk:KS s v) (hst:s.stack.length<65000){c:Int} (hc:1<=c∧c<=65536) (hlt:v.cls.length<256){k:Nat}{m:Int} (h:RoomyK s.h (k+1) (m+(2+(v.cls.length+1:Nat)))) (hm:0<=m) :
  (cF s t v.clsW (4*c)).1.2=0∧RoomyK (cF s t v.clsW (4*c)).2.1.h k m∧(cF s t v.clsW (4*c)).2.2=t:=by
 have hws:∀ w∈v.clsW++[4*c],cR w:=fun w hw=>by
  rcases List.mem_append.1 hw with hw | hw
  ·exact gh hk w hw
  ·simp only [List.mem_singleton] at hw;rw [hw];exact bB hc.1 hc.2
 have hl:(v.clsW++[4*c]).length=v.cls.length+1:=by simp [KV.clsW]
 obtain ⟨e,hr⟩:=mh hk (by omega) (ws:=v.clsW++[4*c]) (by rw [hl];exact h) hm hws (by omega)
 unfold cF
 rw [if_neg (by rw [e];simp)]
 exact ⟨rfl,oI hr _ _,rfl⟩
theorem qw {s:SP}{v:KV}{t:TB} (hk:KS s v) (hst:s.stack.length<64000){n up l:Int} (hn:cR n) (hup:1<=up∧up<=65536) (hl:cR l) (hlt:v.cls.length<256){k:Nat}{m:Int} (h:RoomyK s.h (k+2) (m+(2+(v.cls.length+1:Nat))+9)) (hm:0<=m) :
  (ee s t v.clsW n up l).1.2=0∧RoomyK (ee s t v.clsW n up l).2.1.h k m∧(ee s t v.clsW n up l).2.2=t:=by
 have hcl:v.clsW.length=v.cls.length:=by simp [KV.clsW]
 have hws:=dI (n:=n) (up:=up) (l:=l) (k:=v.clsW.length) hn (bB hup.1 hup.2) hl (by omega)
 have hsl:(bv n up l v.clsW.length).length=7:=rfl
 obtain ⟨e,hr⟩:=nl hk (by omega) (cls:=12) (ws:=bv n up l v.clsW.length) (k:=k+1) (m:=m+(2+(v.cls.length+1:Nat))) (by rw [hsl];exact h) (by omega) (by decide) hws (by rw [hsl];decide)
 obtain ⟨g1,_,_,g4⟩:=ie hk (by omega) (cls:=12) (by decide) hws
 obtain ⟨o,eo,es,o1,o2,_⟩:=g4 e
 unfold ee
 rw [if_neg (by rw [e];simp),eo]
 exact rK g1 (by rw [es];simp;omega) ⟨o1,o2⟩ hlt hr hm
theorem qU {s:SP}{v:KV}{t:TB} (hk:KS s v) (hst:s.stack.length<60000){n up:Int}{ns:List Int} (hn:cR n) (hup:1<=up∧up<=65536) (hns:∀ w∈ns,cR w) (hnl:ns.length<=64) (hlt:v.cls.length<256){k:Nat}{m:Int} (h:RoomyK s.h (k+3) (m+(2+(v.cls.length+1:Nat))+9+(2+(ns.length:Int)))) (hm:0<=m) :
  (fE s t v.clsW n up ns).1.2=0∧RoomyK (fE s t v.clsW n up ns).2.1.h k m∧(fE s t v.clsW n up ns).2.2=t:=by
 obtain ⟨e,hr⟩:=mh hk (by omega) (ws:=ns) (k:=k+2) (m:=m+(2+(v.cls.length+1:Nat))+9) h (by omega) hns (by omega)
 obtain ⟨g1,_,⟨l,gl,gl1⟩,g4⟩:=eU hk (by omega) hns
 obtain ⟨o,eo,o1,o2,_⟩:=g4 e
 unfold fE
 rw [if_neg (by rw [e];simp),eo]
 exact qw g1 (by rw [gl];simp;omega) hn hup (bB o1 o2) hlt hr hm
theorem tz {s:SP}{v:KV}{t:TB} (hk:KS s v) (hst:s.stack.length<60000) (hwt:WFT t){up:Int} (hup:1<=up∧up<=65536) (hlt:v.cls.length<256){name:ByteArray}{own:List ByteArray} (hg:bx name) (hgo:∀ s∈own,bx s) (hol:own.length<=32) (ht:(t.texts.length:Int)+1+own.length<=t.most)
  {k:Nat}{m:Int} (h:RoomyK s.h (k+3) (m+(2+(v.cls.length+1:Nat))+9+(2+(own.length:Int)))) (hm:0<=m) :
  (dO s t v.clsW name up own).1.2=0∧RoomyK (dO s t v.clsW name up own).2.1.h k m∧(dO s t v.clsW name up own).2.2.texts.length<=t.texts.length+1+own.length∧(dO s t v.clsW name up own).2.2.most=t.most:=by
 have a1:=px hg (t:=t) (by omega)
 have a2:=nH t name
 obtain ⟨b1,b2⟩:=ph (t:=(t.add name).2) (acc:=[]) hgo (by rw [a2.2];omega)
 have b3:=(ge (t.add name).2 [] own).1
 have w1:=fo hwt name
 have hns:=fj w1 (acc:=[]) (l:=own) (by simp)
 obtain ⟨ns,c1,c2⟩:=jV (t:=(t.add name).2) [] own b1
 have hnl:((t.add name).2.addAll [] own).1.1.length=own.length:=by
  have:=congrArg List.length c2
  simp only [List.length_map] at this
  rw [c1];simpa using this
 have hn:cR (4*(t.add name).1.1+2):=by
  have:=fj hwt (acc:=[]) (l:=[name]) (by simp) (4*(t.add name).1.1+2) (by simp [TB.addAll,a1])
  exact this
 unfold dO
 rw [if_neg (by rw [a1];simp),if_neg (by rw [b1];simp)]
 obtain ⟨d1,d2,d3⟩:=qU (t:=((t.add name).2.addAll [] own).2) hk hst hn hup hns (by rw [hnl];omega) hlt (by rw [hnl];exact h) hm
 exact ⟨d1,d2,by rw [d3];omega,by rw [d3,b3,a2.2]⟩
theorem nW {s:SP}{v:KV}{t:TB} (hk:KS s v) (hst:s.stack.length<60000) (hwt:WFT t){up:Int} (hup:1<=up∧up<=65536) (hlt:v.cls.length<256){name:ByteArray}{own:List ByteArray} (hg:bx name) (hgo:∀ s∈own,bx s) (hol:own.length<=32) (ht:(t.texts.length:Int)+1+own.length<=t.most)
  {k:Nat}{m:Int} (h:RoomyK s.h (k+3) (m+(2+(v.cls.length+1:Nat))+9+(2+(own.length:Int)))) (hm:0<=m) :
  (bn s t v.clsW name up own).1.2=0∧RoomyK (bn s t v.clsW name up own).2.1.h k m∧(bn s t v.clsW name up own).2.2.texts.length<=t.texts.length+1+own.length∧(bn s t v.clsW name up own).2.2.most=t.most:=by
 obtain ⟨e1,e2,e3,e4⟩:=tz hk hst hwt hup hlt hg hgo hol ht h hm
 unfold bn nX
 simp only [e1,if_true]
 refine ⟨trivial,?_,e3,e4⟩
 unfold SP.drop
 split
 ·exact e2
 ·exact e2
end Kw
namespace Kw
open Go
def dh (r:RH) (w:Int):Int:=if (uM r w).2≠0 then 0 else (uM r w).1
def kv (v:KV) (c:Int):Nat->Int->Bool
 | 0,_=>false
 | n+1,o=>if o=0 then false else if o=c then true else match dw v o with
  | some i=>kv v c n (di v i)
  | none=>false
def jn (v:KV) (c o:Int):Bool:=kv v c (v.cls.length+3) o
def cD (r:RH) (w:Int):Int × Int:=if aD w=3 then ((r.size (w / 4)).1,(r.size (w / 4)).2.1) else (0,0)
def dL (r:RH) (w i:Int):Int:=(r.at (iO w) i).1
def ir (r:RH) (c w:Int):Bool:=if c=12 then decide ((cD r w).1=7) else if c=14 then decide ((cD r w).1=6) && decide (aD (dL r w 4)=1) else if c=17 then decide ((cD r w).1=2) else true
def tw (x:Bool):Int:=if x then 12 else 8
def iI (v:KV) (o:Int):Nat:=if o=0 then 0 else match dw v o with
 | some i=>i+2
 | none=>1
theorem ye {s:SP}{v:KV} (h:KS s v){o:Int} (ho:o≠0){i:Nat} (hi:dw v o=some i):iI v (di v i)<iI v o:=by
 obtain ⟨hlt,_⟩:=dm hi
 have e:iI v o=i+2:=by unfold iI;rw [if_neg ho,hi]
 rw [e]
 rcases h.upI hlt with ⟨_,h1,_⟩ | ⟨j,hj,hji,_,_,h2⟩
 ·unfold iI;rw [if_pos h1];omega
 ·unfold iI
  split
  ·omega
  ·have h2':dw v (di v i)=some j:=h2
   rw [h2'];simp only;omega
def SP.putW (s:SP) (w i x:Int):Int × SP:=((s.h.put (iO w) i x).1,{ s with h:=(s.h.put (iO w) i x).2 })
def fZ (n:Int):Int × Int:=if -1073741824<=n∧n<=1073741823 then (2*n+1,0) else (0,1)
theorem zv {n:Int} (h:-1073741824<=n∧n<=1073741823):fZ n=(2*n+1,0):=if_pos h
def bl (n x:Int):Int × Int:=if aD x≠1 then (0,170) else if x / 2<1∨n<x / 2 then (0,171) else (x / 2-1,0)
def pX (r:RH) (w x:Int):Int × Int:=if (bl (cD r w).1 x).2≠0 then (0,(bl (cD r w).1 x).2) else fZ (dL r w (bl (cD r w).1 x).1)
def SP.layE (s:SP) (w:Int):Int->List Int->Int × SP
 | _,[]=>(0,s)
 | i,x :: xs=>if (SP.putW s w i x).1≠0 then SP.putW s w i x else SP.layE (SP.putW s w i x).2 w (i+1) xs
noncomputable def SP.makeP (s:SP) (cls fmt:Int) (xs:List Int):(Int × Int) × SP :=
 if (s.alloc (4*cls) xs.length fmt).1.2≠0 then ((0,(s.alloc (4*cls) xs.length fmt).1.2),(s.alloc (4*cls) xs.length fmt).2)
 else ((if ((s.alloc (4*cls) xs.length fmt).2.layE (s.alloc (4*cls) xs.length fmt).1.1 0 xs).1=0 then (s.alloc (4*cls) xs.length fmt).1.1 else 0,((s.alloc (4*cls) xs.length fmt).2.layE (s.alloc (4*cls) xs.length fmt).1.1 0 xs).1),((s.alloc (4*cls) xs.length fmt).2.layE (s.alloc (4*cls) xs.length fmt).1.1 0 xs).2)
def bk (x:ByteArray):List Int:=x.data.toList.map fun u=>(u.toNat:Int)
theorem fc (x:ByteArray):(bk x).length=x.size:=by unfold bk;simp
theorem gH (x:ByteArray):∀ w∈bk x,0<=w∧w<=255:=by
 intro w hw
 obtain ⟨u,_,rfl⟩:=List.mem_map.1 hw
 have:=u.toNat_lt
 omega
def kk (r:RH) (k:Int) (xs:List Int):Prop:=∃ o,am r.objs k=some o∧o.fmt=1∧o.cls=40∧o.slots=xs
def kn (r r':RH) (k:Int):Prop:=∀ j,j≠k->am r'.objs j=am r.objs j
theorem kn.trans {r r' r'':RH}{k:Int} (h:kn r r' k) (h':kn r' r'' k):kn r r'' k:=fun j hj=>(h' j hj).trans (h j hj)
theorem na (r:RH) (k i w:Int):kn r (r.put k i w).2 k:=by
 intro j hj
 unfold RH.put
 split
 ·rfl
 split
 ·rfl
 split
 ·rfl
 ·show am (fg r.objs k (cM i w)) j=_
  rw [bZ (f:=cM i w) fun _=>rfl]
  cases ha:am r.objs j with
  | none=>rfl
  | some a =>
   simp only [Option.map_some]
   have:=(au ha).2
   rw [if_neg (by omega)]
theorem cL.same1 {r r':RH}{v:KV} (h:cL r v){k:Int} (hs:kn r r' k) (hk:∀ p∈v.roles,p.1≠k):cL r' v:=fun p hp=>by
 obtain ⟨x,h1,h2,h3⟩:=h p hp
 exact ⟨x,by rw [hs _ (hk p hp)];exact h1,h2,h3⟩
end Kw
namespace Kw
open Go
end Kw
namespace Go.Proofs.YtgjfejoohojokaaGreatDoor
open Kw
abbrev cv (b:Nat) (r:Int) (a:Option Addr) (l c:Nat):Value:=.agg #[.pointer (some ⟨b,0,none⟩),.int .i64 r,.slice a l c]
abbrev cc (b:Nat) (r:Int) (a:Option Addr) (l c:Nat):Array Value:=#[.pointer (some ⟨b,0,none⟩),.int .i64 r,.slice a l c]
section
variable {H:ae}{b:Nat}{F:az}{s:SP}{t:TB}{v:KV}{Q:QT}{r:Int}{a:Option Addr}{l c:Nat}
theorem bU {x:Bool} (h:Q (.tuple #[.int .i64 (tw x),.int .i64 0]) H):ac PP vo #[.bool x] Q H:=by
 apply yN
 unfold Hm iV cS
 cases x
 ·rw [cond_false]
  exact ky (by decide) ⟨_,_,rfl,h⟩
 ·rw [cond_true]
  exact ky (by decide) ⟨_,_,rfl,h⟩
theorem kr (hK:PK H b F s t) (hv:KAllW s t v){w:Int} (h:∀ H',Fr [] H H'->Q (.int .i64 (dh s.h w)) H'):ac PP KO #[cv b r a l c,.int .i64 w] Q H:=by
 apply BD
 unfold LJ A0 iV pV lV cS
 have f:=Fr.push [] H (.cells (cc b r a l c) 138)
 have hb:=aV.new H (cc b r a l c) 138
 refine ⟨_,hb.cell 0,Li (hK.nil f) hv ⟨_,_,rfl,?_⟩⟩
 have:=h _ f
 unfold dh at this
 rw [aY,af]
 refine ap (fun h1=>?_) fun h1=>?_
 ·rw [if_pos h1] at this;exact this
 ·rw [if_neg h1] at this;exact this
theorem ss (hK:PK H b F s t) (hv:KAllW s t v){w k:Int} (h:∀ H',Fr [] H H'->Q (.bool (jn v k (dh s.h w))) H'):ac PP A4 #[cv b r a l c,.int .i64 w,.int .i64 k] Q H:=by
 apply CW
 unfold LL A0 iV pV lV cS;dsimp only [shH]
 have f:=Fr.push [] H (.cells (cc b r a l c) 138)
 have hb:=aV.new H (cc b r a l c) 138
 refine ⟨_,hb.cell 0,_,hb.cell 1,_,_,_,hb.cell 2,kr (hK.nil f) hv fun H1 f1=>⟨_,rfl,?_⟩⟩
 have f01:=f.trans f1
 have hb1:=hb.fr f1 (by simp)
 have hbnd:iI v (dh s.h w)<v.cls.length+3:=by
  unfold iI
  split
  ·omega
  ·split
   ·rename_i i hi
    have:=(dm hi).1
    omega
   ·omega
 refine ⟨fun w' H'=>∃(o:Int) (n:Nat),w'=[.int .i64 o]∧Fr [] H H'∧aV H' H.size (cc b r a l c)∧iI v o<n∧kv v k n o=jn v k (dh s.h w),fun w' _=>match w' with
  | [.int _ o]=>iI v o
  | _=>0,⟨_,_,rfl,f01,hb1,hbnd,rfl⟩,?_⟩
 rintro w' H2 ⟨o,n,rfl,f2,hb2,hn,hk⟩ _
 refine ⟨_,rfl,?_⟩
 obtain ⟨n,rfl⟩:∃ m,n=m+1:=⟨n-1,by omega⟩
 unfold kv at hk
 have hq:=h _ f2
 rw [←hk] at hq
 rw [aY,af]
 refine ap (fun h1=>?_) fun h1=>?_
 ·rw [if_neg h1] at hq
  rw [aX,af]
  refine ap (fun h2=>?_) fun h2=>?_
  ·rw [if_pos h2] at hq;exact hq
  rw [if_neg h2] at hq
  rw [if_neg h1,if_neg h2] at hk
  refine ⟨_,hb2.cell 0,wg (hK.nil f2) hv fun H3 f3=>?_⟩
  cases hp:dw v o with
  | none =>
   rw [hp] at hk
   refine ⟨_,_,rfl,?_⟩
   have hq3:=h _ (f2.trans f3)
   rw [←hk] at hq3
   exact hq3
  | some i =>
   rw [hp] at hk
   refine ⟨_,_,rfl,?_⟩
   have hr:=ye hv.ks h1 hp
   exact ⟨⟨_,n,rfl,f2.trans f3,hb2.fr f3 (by simp),by omega,hk⟩,hr⟩
 ·have h1':=Classical.byContradiction h1
  rw [if_pos h1'] at hq;exact hq
theorem dG (hK:PK H b F s t){w:Int} (h:∀ H',Fr [] H H'->Q (.tuple #[.int .i64 (cD s.h w).1,.int .i64 (cD s.h w).2]) H'):ac PP EE #[cv b r a l c,.int .i64 w] Q H:=by
 apply AH
 unfold IZ A0 iV pV lV cS
 have f:=Fr.push [] H (.cells (cc b r a l c) 138)
 have hb:=aV.new H (cc b r a l c) 138
 have hK1:=hK.nil f
 refine fG hK1.kinds ?_
 have hq:=h _ f
 unfold cD at hq
 unfold iE
 by_cases hk:aD w=3
 ·rw [if_pos hk] at hq ⊢
  refine ⟨_,_,rfl,?_⟩
  simp only [show ((0:Int) != 0)=false from rfl,cond_false]
  exact ⟨_,hb.cell 0,cG hK1 fun sb F1 _ hS _ _ _=>⟨_,rfl,cE hS fun hb F2 hR _ _=>⟨_,rfl,kS hR ⟨_,_,_,rfl,hq⟩⟩⟩⟩
 ·rw [if_neg hk] at hq ⊢
  exact ⟨_,_,rfl,hq⟩
theorem jx (hK:PK H b F s t){w i:Int} (h:∀ H',Fr [] H H'->Q (.int .i64 (dL s.h w i)) H'):ac PP ER #[cv b r a l c,.int .i64 w,.int .i64 i] Q H:=by
 apply AR
 unfold FQ A0 iV pV lV cS
 have f:=Fr.push [] H (.cells (cc b r a l c) 138)
 have hb:=aV.new H (cc b r a l c) 138
 have hK1:=hK.nil f
 refine fG hK1.kinds ?_
 have hq:=h _ f
 unfold dL iO at hq
 unfold iE
 by_cases hk:aD w=3
 ·rw [if_pos hk] at hq ⊢
  exact ⟨_,_,rfl,_,hb.cell 0,cG hK1 fun sb F1 _ hS _ _ _=>⟨_,rfl,cE hS fun hb F2 hR _ _=>⟨_,rfl,qp hR ⟨_,_,rfl,hq⟩⟩⟩⟩
 ·rw [if_neg hk] at hq ⊢
  exact ⟨_,_,rfl,_,hb.cell 0,cG hK1 fun sb F1 _ hS _ _ _=>⟨_,rfl,cE hS fun hb F2 hR _ _=>⟨_,rfl,qp hR ⟨_,_,rfl,hq⟩⟩⟩⟩
theorem wo (hK:PK H b F s t){k:Int} (h:∀ H',Fr [] H H'->Q (.bool (ir s.h k r)) H'):ac PP IM #[cv b r a l c,.int .i64 k] Q H:=by
 apply ED
 unfold LW A0 iV pV lV cS;dsimp only [shH]
 have f:=Fr.push [] H (.cells (cc b r a l c) 138)
 have hb:=aV.new H (cc b r a l c) 138
 refine ⟨_,hb.cell 0,_,hb.cell 1,_,_,_,hb.cell 2,_,hb.cell 1,dG (hK.nil f) fun H1 f1=>⟨_,_,rfl,?_⟩⟩
 have f01:=f.trans f1
 have hb1:=hb.fr f1 (by simp)
 have hq:=fun H' f=>h H' f
 unfold ir at hq
 rw [aX,af]
 refine ap (fun h1=>?_) fun h1=>?_
 ·simp only [if_pos h1] at hq;rw [aX];exact hq _ f01
 simp only [if_neg h1] at hq
 rw [aX,af]
 refine ap (fun h2=>?_) fun h2=>?_
 ·simp only [if_pos h2] at hq
  rw [aX,af]
  refine ap (fun h3=>?_) fun h3=>?_
  ·simp only [decide_eq_true h3,Bool.true_and] at hq
   refine ⟨_,hb1.cell 0,_,hb1.cell 1,_,_,_,hb1.cell 2,_,hb1.cell 1,jx (hK.nil f01) fun H2 f2=>⟨_,rfl,fS (hK.nil (f01.trans f2)).kinds ⟨_,rfl,?_⟩⟩⟩
   rw [aX];exact hq _ (f01.trans f2)
  ·simp only [decide_eq_false h3,Bool.false_and] at hq
   exact hq _ f01
 simp only [if_neg h2] at hq
 rw [aX,af]
 refine ap (fun h3=>?_) fun h3=>?_
 ·simp only [if_pos h3] at hq;rw [aX];exact hq _ f01
 ·simp only [if_neg h3] at hq;exact hq _ f01
theorem rS (hK:PK H b F s t){w i x:Int} (h:∀ H',PK H' b F (SP.putW s w i x).2 t->Fr F H H'->Q (.int .i64 (SP.putW s w i x).1) H'):ac PP wj #[cv b r a l c,.int .i64 w,.int .i64 i,.int .i64 x] Q H:=by
 apply Ac
 unfold Ic A0 iV pV lV cS
 have f:=Fr.push [] H (.cells (cc b r a l c) 138)
 have hb:=aV.new H (cc b r a l c) 138
 have hK1:=hK.nil f
 refine fG hK1.kinds ?_
 have go:∀ o:Int,o=iO w->∃ p10:Option Addr,aa (H.push (.cells (cc b r a l c) 138)) ⟨H.size,0,none⟩=some (.pointer p10)∧ac PP Dt #[.pointer p10] (fun v11 H2=>∃ p12:Option Addr,v11=.pointer p12∧ac PP su #[.pointer p12] (fun v13 H3=>∃ p14:Option Addr,v13=.pointer p14∧ac PP rf #[.pointer p14,.int .i64 o,.int .i64 i,.int .i64 x] (fun v15 H4=>∃ n16:Int,v15=.int .i64 n16∧Q (.int .i64 n16) H4) H3) H2) (H.push (.cells (cc b r a l c) 138)):=by
  rintro o rfl
  refine ⟨_,hb.cell 0,cG hK1 fun sb F1 _ hS hsub _ hup=>⟨_,rfl,cE hS fun hb F2 hR hsub2 hup2=>⟨_,rfl,CX hR fun H' hR' hf'=>⟨_,rfl,h H' ?_ ?_⟩⟩⟩⟩
  ·exact hup H' _ (hup2 H' _ hR' hf') (hf'.mono hsub2)
  ·refine ⟨Nat.le_trans f.1 hf'.1,fun x hx hn=>?_⟩
   rw [hf'.2 x (Nat.lt_of_lt_of_le hx f.1) (fun hm=>hn (hsub _ (hsub2 _ hm))),f.2 x hx (by simp)]
 unfold iE
 by_cases hk:aD w=3
 ·rw [if_pos hk]
  exact ⟨_,_,rfl,go _ (by unfold iO;rw [if_pos hk])⟩
 ·rw [if_neg hk]
  exact ⟨_,_,rfl,go _ (by unfold iO;rw [if_neg hk])⟩
end
theorem sC (w:Int):iE 1 (· / 2) w=.tuple #[.int .i64 (eT w),.int .i64 (if aD w=1 then 0 else 10)]:=by
 unfold iE eT
 by_cases h:aD w=1
 ·rw [if_pos h,if_pos h,if_pos h]
 ·rw [if_neg h,if_neg h,if_neg h]
section
variable {H:ae}{b:Nat}{F:az}{s:SP}{t:TB}{v:KV}{Q:QT}{r x:Int}{a:Option Addr}{l c:Nat}{ws:List Int}
theorem iT {n:Int} (h:Q (.tuple #[.int .i64 (fZ n).1,.int .i64 (fZ n).2]) H):ac PP qP #[.int .i64 n] Q H:=by
 unfold fZ at h
 by_cases hn:-1073741824<=n∧n<=1073741823
 ·rw [if_pos hn] at h;exact Bc hn h
 ·rw [if_neg hn] at h
  apply sn
  unfold CA iV
  refine xY ⟨_,rfl,?_⟩
  rw [decide_eq_false hn]
  exact h
theorem zQ (hr:Rd 1 H a l (ag (x :: ws))):((0:Int)<=0∧0<(l:Int))∧∃ q,a=some q∧∃ n:Int,aa H (q.add (Int.toNat 0*1))=some (.int .i64 n)∧n=x:=by
 have hl:=hr.1
 simp only [ag,List.length_map,List.length_cons,Nat.mul_one] at hl
 obtain ⟨p,h1,h2,h3⟩:=hr.int (i:=0) (by omega) (by omega)
 exact ⟨⟨by omega,by omega⟩,p,h1,_,h2,rfl⟩
theorem Rd.nilF {H H':ae}{a:Option Addr}{l:Nat}{ys:List Value} (h:Rd 1 H a l ys) (hf:Fr [] H H'):Rd 1 H' a l ys:=h.fr' hf (by simp)
theorem sY (hK:PK H b F s t) (hr:Rd 1 H a l (ag (x :: ws))) (hbad:aD x≠1->∀ H',Fr [] H H'->Q (.tuple #[.int .i64 0,.int .i64 0,.int .i64 170]) H')
  (h:aD x=1->∀ H',Fr [] H H'->Q (.tuple #[.int .i64 (eT r),.int .i64 (x / 2),.int .i64 0]) H'):ac PP EG #[cv b r a l c] Q H:=by
 apply yz
 unfold FG A0 iV pV lV cS
 have f:=Fr.push [] H (.cells (cc b r a l c) 138)
 have hb:=aV.new H (cc b r a l c) 138
 refine ⟨_,hb.cell 1,lP (hK.nil f).kinds ?_⟩
 rw [sC]
 obtain ⟨h1,q,h2,n,h3,rfl⟩:=zQ (Rd.nilF hr f)
 refine ⟨_,_,rfl,_,_,_,hb.cell 2,h1,q,h2,_,h3,lP (hK.nil f).kinds ?_⟩
 unfold iE
 by_cases hk:aD n=1
 ·rw [if_pos hk];exact ⟨_,_,rfl,h hk _ f⟩
 ·rw [if_neg hk];exact ⟨_,_,rfl,hbad hk _ f⟩
theorem kV (hK:PK H b F s t) (hr:Rd 1 H a l (ag (x :: ws))){q g:Nat} (hq:aV H q #[.func (.func g) #[] #[]]) (hbad:aD x≠1->∀ H',Fr [] H H'->Q (.tuple #[.int .i64 0,.int .i64 170]) H')
  (h:aD x=1->∀ H',Fr [] H H'->ac PP g #[.int .i64 (eT r),.int .i64 (x / 2)] (fun v12 H2=>∃ n13:Int,∃ n14:Int,v12=.tuple #[.int .i64 n13,.int .i64 n14]∧cond (n14 != 0) (Q (.tuple #[.int .i64 0,.int .i64 n14]) H2) (ac PP qP #[.int .i64 n13] (fun v15 H3=>∃ n16:Int,∃ n17:Int,v15=.tuple #[.int .i64 n16,.int .i64 n17]∧Q (.tuple #[.int .i64 n16,.int .i64 n17]) H3) H2)) H') :
  ac PP rL #[cv b r a l c,.pointer (some ⟨q,0,none⟩)] Q H:=by
 apply AB
 unfold IR A0 iV pV lV cS;dsimp only [shH]
 have f:=Fr.push [] H (.cells (cc b r a l c) 138)
 have hb:=aV.new H (cc b r a l c) 138
 refine ⟨_,hb.cell 0,_,hb.cell 1,_,_,_,hb.cell 2,sY (hK.nil f) (Rd.nilF hr f) (fun hk H1 f1=>⟨_,_,_,rfl,hbad hk _ (f.trans f1)⟩) fun hk H1 f1=>⟨_,_,_,rfl,?_⟩⟩
 exact .inl ⟨g,#[],#[],(hq.fr (f.trans f1) (by simp)).cell 0,h hk _ (f.trans f1)⟩
theorem qq (hK:PK H b F s t) (hr:Rd 1 H a l (ag (x :: ws))){q g:Nat} (hq:aV H q #[.func (.func g) #[] #[]]){f2:Int->Int->Bool} (hg:∀ (n m:Int){H:ae}{Q:QT},Q (.bool (f2 n m)) H->ac PP g #[.int .i64 n,.int .i64 m] Q H)
  (hbad:aD x≠1->∀ H',Fr [] H H'->Q (.tuple #[.int .i64 0,.int .i64 170]) H') (h:aD x=1->∀ H',Fr [] H H'->Q (.tuple #[.int .i64 (tw (f2 (eT r) (x / 2))),.int .i64 0]) H') :
  ac PP vk #[cv b r a l c,.pointer (some ⟨q,0,none⟩)] Q H:=by
 apply yG
 unfold Hf A0 iV pV lV cS;dsimp only [shH]
 have f:=Fr.push [] H (.cells (cc b r a l c) 138)
 have hb:=aV.new H (cc b r a l c) 138
 refine ⟨_,hb.cell 0,_,hb.cell 1,_,_,_,hb.cell 2,sY (hK.nil f) (Rd.nilF hr f) (fun hk H1 f1=>⟨_,_,_,rfl,hbad hk _ (f.trans f1)⟩) fun hk H1 f1=>⟨_,_,_,rfl,?_⟩⟩
 refine .inl ⟨g,#[],#[],(hq.fr (f.trans f1) (by simp)).cell 0,?_⟩
 exact hg _ _ ⟨_,rfl,bU ⟨_,_,rfl,h hk _ (f.trans f1)⟩⟩
theorem nK (hr:Rd 1 H a l (ag (x :: ws))) (h:∀ H',Fr [] H H'->Q (.tuple #[.int .i64 (tw (decide (r=x))),.int .i64 0]) H'):ac PP Ed #[cv b r a l c] Q H:=by
 apply Ao
 unfold KM A0 iV pV lV cS;dsimp only [shH]
 have f:=Fr.push [] H (.cells (cc b r a l c) 138)
 have hb:=aV.new H (cc b r a l c) 138
 obtain ⟨h1,q,h2,n,h3,rfl⟩:=zQ (Rd.nilF hr f)
 refine ⟨_,hb.cell 1,_,_,_,hb.cell 2,h1,q,h2,_,h3,?_⟩
 rw [aX]
 exact bU ⟨_,_,rfl,trivial,h _ f⟩
theorem pz (hr:Rd 1 H a l (ag (x :: ws))) (h:∀ H',Fr [] H H'->Q (.tuple #[.int .i64 (tw (decide (r≠x))),.int .i64 0]) H'):ac PP BA #[cv b r a l c] Q H:=by
 apply yd
 unfold GC A0 iV pV lV cS;dsimp only [shH]
 have f:=Fr.push [] H (.cells (cc b r a l c) 138)
 have hb:=aV.new H (cc b r a l c) 138
 obtain ⟨h1,q,h2,n,h3,rfl⟩:=zQ (Rd.nilF hr f)
 refine ⟨_,hb.cell 1,_,_,_,hb.cell 2,h1,q,h2,_,h3,?_⟩
 rw [aY]
 exact bU ⟨_,_,rfl,trivial,h _ f⟩
theorem ln (hK:PK H b F s t) (h:∀ H',Fr [] H H'->Q (.int .i64 (eT r)) H'):ac PP Ds #[cv b r a l c] Q H:=by
 apply zO
 unfold Hr A0 iV pV lV cS
 have f:=Fr.push [] H (.cells (cc b r a l c) 138)
 have hb:=aV.new H (cc b r a l c) 138
 refine ⟨_,hb.cell 1,lP (hK.nil f).kinds ?_⟩
 rw [sC]
 exact ⟨_,_,rfl,h _ f⟩
theorem zk (hK:PK H b F s t) (h:∀ H',Fr [] H H'->Q (.tuple #[.int .i64 (tw (decide (eT r % 2=0))),.int .i64 0]) H'):ac PP DM #[cv b r a l c] Q H:=by
 apply Aa
 unfold HU A0 iV pV lV cS;dsimp only [shH]
 have f:=Fr.push [] H (.cells (cc b r a l c) 138)
 have hb:=aV.new H (cc b r a l c) 138
 refine ⟨_,hb.cell 0,_,hb.cell 1,_,_,_,hb.cell 2,ln (hK.nil f) fun H1 f1=>⟨_,rfl,?_⟩⟩
 rw [ti,aX]
 exact bU ⟨_,_,rfl,h _ (f.trans f1)⟩
theorem CR (hK:PK H b F s t) (h:∀ H',Fr [] H H'->Q (.tuple #[.int .i64 (tw (decide (eT r % 2=1))),.int .i64 0]) H'):ac PP DT #[cv b r a l c] Q H:=by
 apply xM
 unfold KC A0 iV pV lV cS;dsimp only [shH]
 have f:=Fr.push [] H (.cells (cc b r a l c) 138)
 have hb:=aV.new H (cc b r a l c) 138
 refine ⟨_,hb.cell 0,_,hb.cell 1,_,_,_,hb.cell 2,ln (hK.nil f) fun H1 f1=>⟨_,rfl,?_⟩⟩
 rw [ti,aX]
 exact bU ⟨_,_,rfl,h _ (f.trans f1)⟩
theorem sO (hK:PK H b F s t) (h:∀ H',Fr [] H H'->Q (.tuple #[.int .i64 (fZ (cD s.h r).1).1,.int .i64 (fZ (cD s.h r).1).2]) H'):ac PP BN #[cv b r a l c] Q H:=by
 apply yv
 unfold GO A0 iV pV lV cS;dsimp only [shH]
 have f:=Fr.push [] H (.cells (cc b r a l c) 138)
 have hb:=aV.new H (cc b r a l c) 138
 exact ⟨_,hb.cell 0,_,hb.cell 1,_,_,_,hb.cell 2,_,hb.cell 1,dG (hK.nil f) fun H1 f1=>⟨_,_,rfl,iT ⟨_,_,rfl,h _ (f.trans f1)⟩⟩⟩
theorem pR (hK:PK H b F s t) (h:∀ H',Fr [] H H'->Q (.tuple #[.int .i64 (tw (decide ((cD s.h r).1=0))),.int .i64 0]) H'):ac PP Df #[cv b r a l c] Q H:=by
 apply zG
 unfold GY A0 iV pV lV cS;dsimp only [shH]
 have f:=Fr.push [] H (.cells (cc b r a l c) 138)
 have hb:=aV.new H (cc b r a l c) 138
 refine ⟨_,hb.cell 0,_,hb.cell 1,_,_,_,hb.cell 2,_,hb.cell 1,dG (hK.nil f) fun H1 f1=>⟨_,_,rfl,?_⟩⟩
 rw [aX]
 exact bU ⟨_,_,rfl,h _ (f.trans f1)⟩
theorem lS (hK:PK H b F s t) (hr:Rd 1 H a l (ag (x :: ws))){n:Int} (h:∀ H',Fr [] H H'->Q (.tuple #[.int .i64 (bl n x).1,.int .i64 (bl n x).2]) H'):ac PP Co #[cv b r a l c,.int .i64 n] Q H:=by
 apply yZ
 unfold HR A0 iV wW pV lV cS;dsimp only [shH]
 have f:=Fr.push [] H (.cells (cc b r a l c) 138)
 have hb:=aV.new H (cc b r a l c) 138
 obtain ⟨h1,q,h2,m,h3,rfl⟩:=zQ (Rd.nilF hr f)
 refine ⟨_,_,_,hb.cell 2,h1,q,h2,_,h3,lP (hK.nil f).kinds ?_⟩
 have hq:=h _ f
 unfold bl at hq
 unfold iE
 by_cases hk:aD m=1
 ·rw [if_pos hk]
  rw [if_neg (fun e=>e hk)] at hq
  refine ⟨_,_,rfl,?_⟩
  simp only [show ((0:Int) != 0)=false from rfl,cond_false]
  have hw:=aS m
  rw [af]
  refine ap (fun h4=>?_) fun h4=>?_
  ·rw [if_pos (.inl h4)] at hq;exact hq
  rw [af]
  refine ap (fun h5=>?_) fun h5=>?_
  ·rw [if_pos (.inr h5)] at hq;exact hq
  ·rw [if_neg (by omega)] at hq
   rw [ah (by omega) (by omega)];exact hq
 ·rw [if_neg hk]
  rw [if_pos hk] at hq
  exact ⟨_,_,rfl,hq⟩
theorem tm (hK:PK H b F s t) (hr:Rd 1 H a l (ag (x :: ws))) (h:∀ H',Fr [] H H'->Q (.tuple #[.int .i64 (pX s.h r x).1,.int .i64 (pX s.h r x).2]) H'):ac PP EP #[cv b r a l c] Q H:=by
 apply AQ
 unfold Kf A0 iV pV lV cS;dsimp only [shH]
 have f:=Fr.push [] H (.cells (cc b r a l c) 138)
 have hb:=aV.new H (cc b r a l c) 138
 refine ⟨_,hb.cell 0,_,hb.cell 1,_,_,_,hb.cell 2,_,hb.cell 1,dG (hK.nil f) fun H1 f1=>⟨_,_,rfl,?_⟩⟩
 have f01:=f.trans f1
 have hb1:=hb.fr f1 (by simp)
 refine ⟨_,hb1.cell 0,_,hb1.cell 1,_,_,_,hb1.cell 2,lS (hK.nil f01) (Rd.nilF hr f01) fun H2 f2=>⟨_,_,rfl,?_⟩⟩
 have f02:=f01.trans f2
 have hb2:=hb1.fr f2 (by simp)
 have hq:=fun H' f=>h H' f
 unfold pX at hq
 rw [aY,af]
 refine ap (fun h4=>?_) fun h4=>?_
 ·simp only [if_pos h4] at hq;exact hq _ f02
 ·simp only [if_neg h4] at hq
  exact ⟨_,hb2.cell 0,_,hb2.cell 1,_,_,_,hb2.cell 2,_,hb2.cell 1,jx (hK.nil f02) fun H3 f3=>⟨_,rfl,iT ⟨_,_,rfl,hq _ (f02.trans f3)⟩⟩⟩
end
theorem cY {P:Prop} [Decidable P] {A B:Prop} (h1:P->A) (h2:¬ P->B):cond (decide P) A B:=by
 rw [af];exact ap h1 h2
theorem qm {H:ae}{a:Option Addr}{l c:Nat}{ys:List Value}{F:az} (ho:bK 1 H a l c ys F){i:Nat} (hi:i<l) (v:Value):∃ b,a=some ⟨b,0,none⟩∧Wr H ⟨b,i,none⟩∧Fr F H (av H ⟨b,i,none⟩ v)∧bK 1 (av H ⟨b,i,none⟩ v) a l c (ys.set i v) F:=by
 have hlc:=ho.2.1
 rcases ho.2.2 with ⟨_,h2,_⟩ | ⟨b,cs,rfl,rfl,hb,hsz,htk⟩
 ·omega
 ·refine ⟨b,rfl,hb.wr (by omega),Fr.set (by simp),⟨by rw [List.length_set];exact ho.1,hlc,.inr ⟨b,_,rfl,rfl,hb.set i v,by simpa using hsz,?_⟩⟩⟩
  rw [←htk]
  simp [List.take_set]
theorem vg {k:Nat}{H:ae}{a:Option Addr}{l m c:Nat}{xs ys:List Value}{F:az} (h:bK k H a (l+m) c (xs++ys) F) (hx:xs.length=l*k):bK k H a l c xs F:=by
 refine ⟨hx,by have:=h.2.1;omega,h.2.2.imp id ?_⟩
 rintro ⟨b,cs,h1,h2,h3,h4,h5⟩
 refine ⟨b,cs,h1,h2,h3,h4,?_⟩
 have h6:(cs.toList.take ((l+m)*k)).take (l*k)=(xs++ys).take (l*k):=by rw [h5]
 rw [List.take_take,Nat.min_eq_left (Nat.mul_le_mul_right k (by omega))] at h6
 rw [h6,List.take_append_of_le_length (by omega)]
 exact List.take_of_length_le (by omega)
section
variable {H:ae}{b:Nat}{F:az}{s:SP}{t:TB}{v:KV}{Q:QT}{r x:Int}{a:Option Addr}{l c:Nat}{ws:List Int}
theorem tf (hK:PK H b F s t){k fmt:Int} (hk:1<=k∧k<=65536){a6:Option Addr}{l6 c6:Nat}{xs:List Int} (hx:Rd 1 H a6 l6 (ag xs)) (ho:∀ p,a6=some p->p.block∉F) (hl:l6<=1000000000)
  (h:∀ H',PK H' b F (s.makeP k fmt xs).2 t->Fr F H H'->Q (.tuple #[.int .i64 (s.makeP k fmt xs).1.1,.int .i64 (s.makeP k fmt xs).1.2]) H') :
  ac PP rc #[cv b r a l c,.int .i64 k,.int .i64 fmt,.slice a6 l6 c6] Q H:=by
 apply y9
 unfold HZ A0 iV wW pV lV cS
 have hlen:l6=xs.length:=by have:=hx.1;simpa [ag] using this.symm
 have f:=Fr.push [] H (.cells (cc b r a l c) 138)
 have hb:=aV.new H (cc b r a l c) 138
 have hK1:=hK.nil f
 have hbF:H.size∉F:=fun hm=>by have:=hK.lt _ hm;omega
 have hx1:=Rd.nilF hx f
 refine ky hk ⟨_,_,rfl,_,hb.cell 0,cG hK1 fun sb F1 _ hS hsub _ hup=>⟨_,rfl,fI hS fun H3 hS3 f3=>⟨_,_,rfl,?_⟩⟩⟩
 have hK3:=hup H3 _ hS3 f3
 have f3F:Fr F H H3:=⟨Nat.le_trans f.1 f3.1,fun y hy hn=>by rw [f3.2 y (Nat.lt_of_lt_of_le hy f.1) (fun hm=>hn (hsub y hm)),f.2 y hy (by simp)]⟩
 have hb3:=hb.fr f3 (fun hm=>hbF (hsub _ hm))
 have hx3:Rd 1 H3 a6 l6 (ag xs):=hx1.fr' f3 fun p hp hm=>ho p hp (hsub _ hm)
 have hq:=h
 unfold SP.makeP at hq
 rw [←hlen] at hq
 generalize s.alloc (4*k) (l6:Int) fmt=A at hK3 hq ⊢
 rw [aY,af]
 refine ap (fun he=>?_) fun he=>?_
 ·simp only [if_pos he] at hq
  exact hq _ hK3 f3F
 have he0:A.1.2=0:=Classical.byContradiction he
 simp only [if_neg he] at hq
 rw [if_pos he0]
 obtain ⟨L,eL⟩:∃ L,L=A.2.layE A.1.1 0 xs:=⟨_,rfl⟩
 rw [←eL] at hq
 refine ⟨fun w H'=>∃(i:Nat) (si:SP),w=[.int .i64 i]∧i<=l6∧PK H' b F si t∧Fr F H H'∧aV H' H.size (cc b r a l c)∧Rd 1 H' a6 l6 (ag xs)∧si.layE A.1.1 i (xs.drop i)=L,fun w _=>match w with
  | [.int _ i]=>((l6:Int)-i).toNat
  | _=>0,⟨0,A.2,rfl,Nat.zero_le _,hK3,f3F,hb3,hx3,eL.symm⟩,?_⟩
 rintro w H4 ⟨i,si,rfl,hi,hK4,f4,hb4,hx4,hL⟩ _
 refine ⟨_,rfl,cY (fun hlt=>?_) fun hge=>?_⟩
 ·have hil:i<xs.length:=by omega
  obtain ⟨q,hq1,hq2,hq3⟩:=hx4.int (i:=(i:Int)) (by omega) (by omega)
  simp only [Int.toNat_natCast] at hq2
  have e1:IntKind.wrap .i64 ((i:Int)+1)=((i+1:Nat):Int):=by rw [ah (by omega) (by omega)];omega
  have hd:xs.drop i=xs.getD i 0 :: xs.drop (i+1):=by
   rw [List.drop_eq_getElem_cons hil]
   simp [hil]
  rw [hd] at hL
  unfold SP.layE at hL
  refine ⟨⟨by omega,hlt⟩,q,hq1,_,by rw [Int.toNat_natCast,Nat.mul_one];exact hq2,_,hb4.cell 0,_,hb4.cell 1,_,_,_,hb4.cell 2,rS hK4 fun H5 hK5 f5=>⟨_,rfl,?_⟩⟩
  have f5F:=f4.trans f5
  rw [aY,af]
  refine ap (fun hp=>?_) fun hp=>?_
  ·rw [if_pos hp] at hL
   rw [←hL] at hq
   simp only [if_neg hp] at hq
   exact hq _ hK5 f5F
  ·rw [if_neg hp] at hL
   rw [e1]
   exact ⟨⟨i+1,_,rfl,by omega,hK5,f5F,hb4.fr f5 hbF,hx4.fr' f5 ho,hL⟩,by simp;omega⟩
 ·have hil:i=l6:=by omega
  subst hil
  rw [List.drop_of_length_le (by omega)] at hL
  unfold SP.layE at hL
  rw [←hL] at hq
  simp only [if_true] at hq
  exact hq _ hK4 f4
theorem qQ (hK:PK H b F s t){y:ByteArray} (hy:y.size<=1000000) (h:∀ H',PK H' b F (s.makeP 10 1 (bk y)).2 t->Fr F H H'->Q (.tuple #[.int .i64 (s.makeP 10 1 (bk y)).1.1,.int .i64 (s.makeP 10 1 (bk y)).1.2]) H') :
  ac PP E1 #[cv b r a l c,.string y] Q H:=by
 have hs1:aI PP 30=some (1,8,some (.int .i64 0)):=by kernel_rfl
 apply xr
 unfold Ko A0 iV wW pV lV cS;dsimp only [shH]
 have f:=Fr.push [] H (.cells (cc b r a l c) 138)
 have hb:=aV.new H (cc b r a l c) 138
 have hlF:=hK.lt
 refine cI hs1 rfl (by omega) (Int.le_refl _) (by omega) (by decide) fun e=>⟨_,_,_,rfl,?_⟩
 have f2:=f.trans (Fr.push [] _ (.cells (Array.replicate (y.size:Int).toNat (.int .i64 0)) e))
 have hb2:=hb.push (.cells (Array.replicate (y.size:Int).toNat (.int .i64 0)) e)
 have ho2:bK 1 ((H.push (.cells (cc b r a l c) 138)).push (.cells (Array.replicate (y.size:Int).toNat (.int .i64 0)) e)) (some ⟨(H.push (.cells (cc b r a l c) 138)).size,0,none⟩) (y.size:Int).toNat (y.size:Int).toNat (ag (List.replicate y.size 0)) [(H.push (.cells (cc b r a l c) 138)).size]:=by
  refine ⟨by simp [ag],Nat.le_refl _,.inr ⟨_,_,rfl,rfl,aV.new _ _ _,by simp,?_⟩⟩
  simp [ag]
 have hsz:(H.push (.cells (cc b r a l c) 138)).size=H.size+1:=by simp
 rw [hsz] at ho2 ⊢
 simp only [Int.toNat_natCast] at f2 hb2 ho2 ⊢
 generalize ((H.push (.cells (cc b r a l c) 138)).push (.cells (Array.replicate y.size (.int .i64 0)) e))=H2 at f2 hb2 ho2 ⊢
 have hnF:H.size+1∉F:=fun hm=>by have:=hlF _ hm;omega
 refine ⟨fun w H'=>∃(i:Nat) (rest:List Int),w=[.int .i64 i]∧i<=y.size∧bK 1 H' (some ⟨H.size+1,0,none⟩) y.size y.size (ag ((bk y).take i++rest)) [H.size+1]∧Fr [] H H'∧aV H' H.size (cc b r a l c),fun w _=>match w with
  | [.int _ i]=>((y.size:Int)-i).toNat
  | _=>0,⟨0,_,rfl,Nat.zero_le _,ho2,f2,hb2⟩,?_⟩
 rintro w H3 ⟨i,rest,rfl,hi,ho3,f3,hb3⟩ _
 have hbl:=fc y
 have hlen:=ho3.len
 simp only [ag,List.length_map,List.length_append,List.length_take,Nat.mul_one,hbl] at hlen
 refine ⟨_,rfl,cY (fun hlt=>?_) fun hge=>?_⟩
 ·have hil:i<y.size:=by omega
  have e1:IntKind.wrap .i64 ((i:Int)+1)=((i+1:Nat):Int):=by rw [ah (by omega) (by omega)];omega
  have hg:y[i]?=some y[i]:=by simp [hil]
  have hu:=(y[i]).toNat_lt
  have eu:IntKind.wrap .i64 ((y[i]).toNat:Int)=((y[i]).toNat:Int):=ah (by omega) (by omega)
  obtain ⟨bb,hbb,hw,hf,hput⟩:=qm ho3 hil (.int .i64 ((y[i]).toNat:Int))
  cases hbb
  rw [e1]
  refine ⟨y[i],⟨by omega,by rw [Int.toNat_natCast];exact hg⟩,⟨by omega,by omega⟩,_,rfl,?_⟩
  rw [al,Nat.zero_add,Nat.mul_one,Int.toNat_natCast,eu]
  cases rest with
  | nil=>simp at hlen;omega
  | cons z rest =>
   have hf':Fr [] H (av H3 ⟨H.size+1,i,none⟩ (.int .i64 ((y[i]).toNat:Int))):=Fr.late f3 (by omega)
   refine ⟨hw,⟨i+1,rest,rfl,by omega,?_,hf',hb3.fr hf (by simp)⟩,by simp;omega⟩
   have hbi:(bk y)[i]?=some ((y[i]).toNat:Int):=by
    unfold bk
    rw [List.getElem?_map,Array.getElem?_toList]
    have:y.data[i]?=some y[i]:=by
     have h1:i<y.data.size:=hil
     rw [Array.getElem?_eq_getElem h1];rfl
    rw [this];rfl
   have et:(ag ((bk y).take i++z :: rest)).set i (.int .i64 ((y[i]).toNat:Int))=ag ((bk y).take (i+1)++rest):=by
    have h1:((bk y).take i).length=i:=by rw [List.length_take,hbl];omega
    rw [List.take_add_one,hbi]
    simp only [ag,List.map_append,List.map_cons,Option.toList_some,List.append_assoc,List.singleton_append,List.map_nil]
    rw [List.set_append_right _ _ (by rw [List.length_map,h1];exact Nat.le_refl _),List.length_map,h1,Nat.sub_self]
    rfl
   rw [et] at hput
   exact hput
 ·have hiy:i=y.size:=by omega
  subst hiy
  have hr0:rest=[]:=List.eq_nil_of_length_eq_zero (by omega)
  subst hr0
  rw [List.append_nil,List.take_of_length_le (by omega)] at ho3
  refine ⟨_,hb3.cell 0,_,hb3.cell 1,_,_,_,hb3.cell 2,tf (hK.nil f3) (by decide) ho3.rd (fun p hp=>by cases hp;exact hnF) (by omega) fun H' hK' f'=>⟨_,_,rfl,h H' hK' ?_⟩⟩
  exact ⟨Nat.le_trans f3.1 f'.1,fun z hz hn=>by rw [f'.2 z (Nat.lt_of_lt_of_le hz f3.1) hn,f3.2 z hz (by simp)]⟩
end
end Go.Proofs.YtgjfejoohojokaaGreatDoor
namespace Kw
open Go
def CM (H:ae) (r:Option Nat) (es:List (Key × Value)):Prop :=
 match r with
 | some r=>cd H r es
 | none=>es=[]
section
variable {P:Program}{H:ae}
theorem kl {T:TypeId}{d:TypeDesc}{z:Value}{r:Option Nat}{k:Key}{es:List (Key × Value)}{ok:Bool}{Q:Value->ae->Prop} (hi:cO P T=some (d,some z)) (hk:k.of d) (ho:∀ p∈es,p.1.of d) (hm:CM H r es)
  (h:Q (if ok then .tuple #[(ca es k).getD z,.bool (ca es k).isSome] else (ca es k).getD z) H):aK P (Instr.lookup T (.map r) k.v ok) Q H:=by
 cases r with
 | some r=>exact iN hi hk ho hm h
 | none =>
  have hm:es=[]:=hm
  subst hm
  obtain ⟨kt,et,i,hu,hkt,hie,hz⟩:=dc hi
  unfold Instr.lookup
  refine ak (aJ hu ?_)
  refine ak (cB ?_)
  refine ak (eM hkt hk ?_)
  refine ak (fh (ents:=#[]) hkt hk rfl ho ?_)
  exact ak (cK hie hz h)
end
end Kw
namespace Go.Proofs.YtgjfejoohojokaaGreatDoor
open Kw
theorem iv {a b:Int}{A B:Prop} (h1:a=b->A) (h2:a≠b->B):cond (a == b) A B:=by
 rw [aX,af]
 exact ap h1 h2
inductive PF
 | fn (f:Nat)
 | clo (f g:Nat)
 | slot (f:Nat) (i:Int)
 | nil
deriving DecidableEq
abbrev PE:=ByteArray × Int × PF
def ll (H:ae) (n r:Nat):PF->Value->Prop
 | .fn f,v=>v=.func (.func f) #[] #[]
 | .clo f g,v=>∃ b,v=.func (.func f) #[] #[.pointer (some ⟨b,0,none⟩)]∧aV H b #[.func (.func g) #[] #[]]∧n<=b∧b≠r
 | .slot f i,v=>∃ b,v=.func (.func f) #[] #[.pointer (some ⟨b,0,none⟩)]∧aV H b #[.int .i64 i]∧n<=b∧b≠r
 | .nil,v=>v=.nilFunc
theorem ll.fr {H H':ae}{n r:Nat}{G:az}{p:PF}{v:Value} (h:ll H n r p v) (hf:Fr G H H') (hG:∀ x∈G,x<n∨x=r):ll H' n r p v:=by
 cases p with
 | fn f=>exact h
 | clo f g =>
  obtain ⟨b,h1,h2,h3,h4⟩:=h
  exact ⟨b,h1,h2.fr hf (fun hm=>by rcases hG b hm with h5 | h5 <;> omega),h3,h4⟩
 | slot f i =>
  obtain ⟨b,h1,h2,h3,h4⟩:=h
  exact ⟨b,h1,h2.fr hf (fun hm=>by rcases hG b hm with h5 | h5 <;> omega),h3,h4⟩
 | nil=>exact h
def Hd (H:ae) (n r:Nat) (p:Key × Value) (e:PE):Prop:=p.1=.str e.1∧∃ v,p.2=.agg #[.int .i64 e.2.1,v]∧ll H n r e.2.2 v
def d8:List PE->ByteArray->Option (Int × PF)
 | [],_=>none
 | e :: es,x=>if x=e.1 then some e.2 else d8 es x
inductive Ents (H:ae) (n r:Nat):List (Key × Value)->List PE->Prop
 | nil:Ents H n r [] []
 | cons {p e ms es}:Hd H n r p e->Ents H n r ms es->Ents H n r (p :: ms) (e :: es)
theorem Ents.fr {H H':ae}{n r:Nat}{G:az}{ms:List (Key × Value)}{es:List PE} (h:Ents H n r ms es) (hf:Fr G H H') (hG:∀ x∈G,x<n∨x=r):Ents H' n r ms es:=by
 induction h with
 | nil=>exact .nil
 | cons he _ ih =>
  obtain ⟨h1,v,h2,h3⟩:=he
  exact .cons ⟨h1,v,h2,h3.fr hf hG⟩ ih
theorem Ents.snoc {H:ae}{n r:Nat}{ms:List (Key × Value)}{es:List PE}{p:Key × Value}{e:PE} (h:Ents H n r ms es) (he:Hd H n r p e):Ents H n r (ms++[p]) (es++[e]):=by
 induction h with
 | nil=>exact .cons he .nil
 | cons h1 _ ih=>exact .cons h1 ih
theorem Ents.keys {H:ae}{n r:Nat}{ms:List (Key × Value)}{es:List PE} (h:Ents H n r ms es):∀ p∈ms,p.1.of .string:=by
 induction h with
 | nil=>intro p hp;cases hp
 | cons he _ ih =>
  intro p hp
  rcases List.mem_cons.1 hp with rfl | hp
  ·rw [he.1];trivial
  ·exact ih p hp
theorem Ents.none {H:ae}{n r:Nat}{ms:List (Key × Value)}{es:List PE} (h:Ents H n r ms es){x:ByteArray} (hx:d8 es x=.none):ca ms (.str x)=.none:=by
 induction h with
 | nil=>rfl
 | cons he _ ih =>
  unfold d8 at hx
  unfold ca
  split at hx
  ·cases hx
  ·rename_i hn
   rw [if_neg (fun e=>hn (by rw [he.1] at e;cases e;rfl))]
   exact ih hx
theorem Ents.some {H:ae}{n r:Nat}{ms:List (Key × Value)}{es:List PE} (h:Ents H n r ms es){x:ByteArray}{k:Int}{q:PF} (hx:d8 es x=.some (k,q)):∃ v,ca ms (.str x)=.some (.agg #[.int .i64 k,v])∧ll H n r q v:=by
 induction h with
 | nil=>cases hx
 | cons he _ ih =>
  unfold d8 at hx
  unfold ca
  obtain ⟨h1,v,h2,h3⟩:=he
  split at hx
  ·rename_i hn
   have e1:=Option.some.inj hx
   rw [if_pos (by rw [h1,hn])]
   rw [e1] at h2 h3
   exact ⟨v,by rw [h2],h3⟩
  ·rename_i hn
   rw [if_neg (fun e=>hn (by rw [h1] at e;cases e;rfl))]
   exact ih hx
structure MapE (H0 H:ae) (r:Nat) (es:List PE):Prop where
 m:∃ ms,cd H r ms∧Ents H H0.size r ms es
 f:Fr [] H0 H
 l:H0.size<=r
theorem MapE.new (H:ae):MapE H (H.push (.map #[] 0)) H.size []:=⟨⟨[],cd.new H,.nil⟩,Fr.push _ _ _,Nat.le_refl _⟩
theorem MapE.fr {H0 H H':ae}{r:Nat}{es:List PE} (h:MapE H0 H r es) (hf:Fr [] H H'):MapE H0 H' r es:=by
 obtain ⟨⟨ms,h1,h2⟩,h3,h4⟩:=h
 exact ⟨⟨ms,h1.fr hf (by simp),h2.fr hf (by simp)⟩,h3.trans hf,h4⟩
section
variable {H0 H:ae}{r:Nat}{es:List PE}{k:ByteArray}{n:Int}{Q:Unit->ae->Prop}
theorem gU {p:PF}{v:Value} (hm:MapE H0 H r es) (hv:ll H H0.size r p v) (hn:d8 es k=none) (h:∀ H',MapE H0 H' r (es++[(k,n,p)])->Q () H'):aK PP (Instr.mapUpdate 135 (.map (some r)) (.string k) (.agg #[.int .i64 n,v])) Q H:=by
 obtain ⟨⟨ms,h1,h2⟩,h3,h4⟩:=hm
 have hi:cO PP 135=some (.string,some (.agg #[.int .i64 0,.nilFunc])):=by kernel_rfl
 refine fy (k:=.str k) hi trivial h2.keys h1 fun H' g f=>h H' ⟨⟨_,g,?_⟩,⟨Nat.le_trans h3.1 f.1,fun y hy _=>?_⟩,h4⟩
 ·rw [iq (du.2 (h2.none hn))]
  have hG:∀ x∈[r],x<H0.size∨x=r:=fun x hx=>.inr (List.mem_singleton.1 hx)
  exact (h2.fr f hG).snoc ⟨rfl,v,rfl,hv.fr f hG⟩
 ·rw [f.2 y (Nat.lt_of_lt_of_le hy h3.1) (fun e=>by simp only [List.mem_singleton] at e;omega),h3.2 y hy (by simp)]
theorem aZ {f:Nat} (hm:MapE H0 H r es) (hn:d8 es k=none) (h:∀ H',MapE H0 H' r (es++[(k,n,.fn f)])->Q () H'):aK PP (Instr.mapUpdate 135 (.map (some r)) (.string k) (.agg #[.int .i64 n,.func (.func f) #[] #[]])) Q H :=
 gU (p:=.fn f) hm rfl hn h
theorem qi (hm:MapE H0 H r es) (hn:d8 es k=none) (h:∀ H',MapE H0 H' r (es++[(k,n,.nil)])->Q () H'):aK PP (Instr.mapUpdate 135 (.map (some r)) (.string k) (.agg #[.int .i64 n,.nilFunc])) Q H :=
 gU (p:=.nil) hm rfl hn h
theorem MapE.lt (hm:MapE H0 H r es):r<H.size:=by obtain ⟨⟨ms,h1,_⟩,_⟩:=hm;exact h1.lt
theorem cU {f:Nat} (hm:MapE H0 H r es) (hn:d8 es k=none) (h:∀ H',MapE H0 H' r (es++[(k,n,.clo 295 f)])->Q () H'):ac PP DX #[.func (.func f) #[] #[]] (fun v H1=>∃ f8:Nat,∃ g8:Array Value,∃ h8:Array Value,v=.func (.func f8) g8 h8∧aK PP (Instr.mapUpdate 135 (.map (some r)) (.string k) (.agg #[.int .i64 n,.func (.func f8) g8 h8])) Q H1) H:=by
 apply Ah
 unfold KG A0 pV
 have:=hm.lt
 exact ⟨_,_,_,rfl,gU (p:=.clo _ f) (hm.fr (Fr.push _ _ _)) ⟨_,rfl,aV.new _ _ _,hm.f.1,by omega⟩ hn h⟩
theorem jd {f:Nat} (hm:MapE H0 H r es) (hn:d8 es k=none) (h:∀ H',MapE H0 H' r (es++[(k,n,.clo 299 f)])->Q () H'):ac PP Bv #[.func (.func f) #[] #[]] (fun v H1=>∃ f8:Nat,∃ g8:Array Value,∃ h8:Array Value,v=.func (.func f8) g8 h8∧aK PP (Instr.mapUpdate 135 (.map (some r)) (.string k) (.agg #[.int .i64 n,.func (.func f8) g8 h8])) Q H1) H:=by
 apply xX
 unfold Gr A0 pV
 have:=hm.lt
 exact ⟨_,_,_,rfl,gU (p:=.clo _ f) (hm.fr (Fr.push _ _ _)) ⟨_,rfl,aV.new _ _ _,hm.f.1,by omega⟩ hn h⟩
theorem fF {i:Int} (hm:MapE H0 H r es) (hn:d8 es k=none) (h:∀ H',MapE H0 H' r (es++[(k,n,.slot 309 i)])->Q () H'):ac PP BG #[.int .i64 i] (fun v H1=>∃ f8:Nat,∃ g8:Array Value,∃ h8:Array Value,v=.func (.func f8) g8 h8∧aK PP (Instr.mapUpdate 135 (.map (some r)) (.string k) (.agg #[.int .i64 n,.func (.func f8) g8 h8])) Q H1) H:=by
 apply ym
 unfold GJ A0 iV pV
 have:=hm.lt
 exact ⟨_,_,_,rfl,gU (p:=.slot _ i) (hm.fr (Fr.push _ _ _)) ⟨_,rfl,aV.new _ _ _,hm.f.1,by omega⟩ hn h⟩
end
def sL (H0 H:ae) (r:Option Nat) (es:List PE):Prop :=
 match r with
 | some r=>MapE H0 H r es
 | none=>es=[]∧Fr [] H0 H
theorem sL.f {H0 H:ae}{r:Option Nat}{es:List PE} (h:sL H0 H r es):Fr [] H0 H:=by
 cases r
 ·exact h.2
 ·exact MapE.f h
theorem uj {H0 H:ae}{r:Option Nat}{es:List PE}{x:ByteArray}{Q:QT} (h:sL H0 H r es) (hno:d8 es x=none->Q (.tuple #[.agg #[.int .i64 0,.nilFunc],.bool false]) H)
  (hyes:∀ k q v rr,d8 es x=some (k,q)->ll H H0.size rr q v->Q (.tuple #[.agg #[.int .i64 k,v],.bool true]) H):aK PP (Instr.lookup 135 (.map r) (.string x) true) Q H:=by
 have hi:cO PP 135=some (.string,some (.agg #[.int .i64 0,.nilFunc])):=by kernel_rfl
 cases r with
 | none =>
  obtain ⟨rfl,_⟩:=h
  exact kl (k:=.str x) (es:=[]) hi trivial (by simp) rfl (hno rfl)
 | some r =>
  obtain ⟨⟨ms,h1,h2⟩,_,_⟩:=h
  refine kl (k:=.str x) (r:=some r) hi trivial h2.keys h1 ?_
  cases hg:d8 es x with
  | none=>rw [h2.none hg];exact hno hg
  | some kq =>
   obtain ⟨k,q⟩:=kq
   obtain ⟨v,h3,h4⟩:=h2.some hg
   rw [h3];exact hyes k q v r hg h4
end Go.Proofs.YtgjfejoohojokaaGreatDoor
namespace Go.Proofs
open Go.Shelf
def Tryz.rep_ren:Go.Shelf.Ren:=⟨fun | 105=>310 | 212=>356 | 99=>357 | 165=>358 | 166=>359 | 170=>360 | 169=>355 | 263=>384 | 264=>385 | 206=>386 | 240=>383 | 241=>387 | 276=>396 | 277=>397 | n=>n,fun | 9=>9 | 3=>3 | 4=>4 | 20=>20 | 0=>0 | 46=>79 | 109=>300 | 5=>5 | 72=>295 | 76=>303 | 51=>286 | 146=>325 | 53=>288 | 148=>327 | 70=>293 | 37=>249 | 75=>297 | 127=>324 | 164=>334 | 80=>299 | n=>n,fun | n=>n⟩
theorem Tryz.rep:Go.Proofs.Lays.n105 Tryz.prog Tryz.rep_ren:={
 mixed:=by kernel_rfl
 f99:=Tryz.func357.trans (congrArg some (by kernel_rfl))
 f105:=Tryz.func310.trans (congrArg some (by kernel_rfl))
 f165:=Tryz.func358.trans (congrArg some (by kernel_rfl))
 f166:=Tryz.func359.trans (congrArg some (by kernel_rfl))
 f169:=Tryz.func355.trans (congrArg some (by kernel_rfl))
 f170:=Tryz.func360.trans (congrArg some (by kernel_rfl))
 f206:=Tryz.func386.trans (congrArg some (by kernel_rfl))
 f212:=Tryz.func356.trans (congrArg some (by kernel_rfl))
 f240:=Tryz.func383.trans (congrArg some (by kernel_rfl))
 f241:=Tryz.func387.trans (congrArg some (by kernel_rfl))
 f263:=Tryz.func384.trans (congrArg some (by kernel_rfl))
 f264:=Tryz.func385.trans (congrArg some (by kernel_rfl))
 f276:=Tryz.func396.trans (congrArg some (by kernel_rfl))
 f277:=Tryz.func397.trans (congrArg some (by kernel_rfl))
 t0:=Tryz.underlying0
 a0:=Tryz.isAgg0
 z0:=Tryz.sizeOf0
 v0:=Tryz.zeroValue0
 t3:=Tryz.underlying3
 a3:=Tryz.isAgg3
 z3:=Tryz.sizeOf3
 v3:=Tryz.zeroValue3
 t4:=Tryz.underlying4
 a4:=Tryz.isAgg4
 z4:=Tryz.sizeOf4
 v4:=Tryz.zeroValue4
 t5:=Tryz.underlying5
 a5:=Tryz.isAgg5
 z5:=Tryz.sizeOf5
 v5:=Tryz.zeroValue5
 t9:=Tryz.underlying9
 a9:=Tryz.isAgg9
 z9:=Tryz.sizeOf9
 v9:=Tryz.zeroValue9
 t20:=Tryz.underlying20
 a20:=Tryz.isAgg20
 z20:=Tryz.sizeOf20
 v20:=Tryz.zeroValue20
 t37:=Tryz.underlying249
 a37:=Tryz.isAgg249
 z37:=Tryz.sizeOf249
 v37:=Tryz.zeroValue249
 t46:=Tryz.underlying79
 a46:=Tryz.isAgg79
 z46:=Tryz.sizeOf79
 v46:=Tryz.zeroValue79
 t51:=Tryz.underlying286
 a51:=Tryz.isAgg286
 z51:=Tryz.sizeOf286
 v51:=Tryz.zeroValue286
 t53:=Tryz.underlying288
 a53:=Tryz.isAgg288
 z53:=Tryz.sizeOf288
 v53:=Tryz.zeroValue288
 t70:=Tryz.underlying293
 a70:=Tryz.isAgg293
 z70:=Tryz.sizeOf293
 v70:=Tryz.zeroValue293
 t72:=Tryz.underlying295
 a72:=Tryz.isAgg295
 z72:=Tryz.sizeOf295
 v72:=Tryz.zeroValue295
 t75:=Tryz.underlying297
 a75:=Tryz.isAgg297
 z75:=Tryz.sizeOf297
 v75:=Tryz.zeroValue297
 t76:=Tryz.underlying303
 a76:=Tryz.isAgg303
 z76:=Tryz.sizeOf303
 v76:=Tryz.zeroValue303
 t109:=Tryz.underlying300
 a109:=Tryz.isAgg300
 z109:=Tryz.sizeOf300
 v109:=Tryz.zeroValue300
 t127:=Tryz.underlying324
 a127:=Tryz.isAgg324
 z127:=Tryz.sizeOf324
 v127:=Tryz.zeroValue324
 t146:=Tryz.underlying325
 a146:=Tryz.isAgg325
 z146:=Tryz.sizeOf325
 v146:=Tryz.zeroValue325
 t148:=Tryz.underlying327
 a148:=Tryz.isAgg327
 z148:=Tryz.sizeOf327
 v148:=Tryz.zeroValue327
 t164:=Tryz.underlying334
 a164:=Tryz.isAgg334
 z164:=Tryz.sizeOf334
 v164:=Tryz.zeroValue334 }
theorem Tryz.repX:Builder.Extra Tryz.prog Tryz.rep_ren:={
 sizeBuilder:=by kernel_rfl
 liesBuilder:=by kernel_rfl
 t5:=Tryz.rep.t5
 a5:=Tryz.rep.a5
 z5:=Tryz.rep.z5
 v5:=Tryz.rep.v5
 infoByte:=by kernel_rfl
 cellsByte:=by kernel_rfl
 sizeByte:=by kernel_rfl
 neB5:=by decide }
def Tryz.itoa_ren:Go.Shelf.Ren:=⟨fun | 171=>353 | 243=>382 | 246=>395 | 283=>399 | 284=>400 | 285=>401 | 286=>402 | 129=>349 | 317=>403 | 318=>404 | 319=>405 | 320=>406 | 337=>407 | 338=>408 | n=>n,fun | 3=>3 | 9=>9 | 2=>2 | 4=>4 | 171=>338 | 0=>0 | 53=>288 | 37=>249 | 5=>5 | 173=>340 | 212=>343 | 51=>286 | 20=>20 | 213=>344 | 46=>79 | 232=>345 | 233=>346 | n=>n,fun | 17=>3 | 18=>4 | 19=>5 | n=>n⟩
theorem Tryz.itoa:Go.Proofs.LaysM.n171 Tryz.prog Tryz.itoa_ren:={
 mixed:=by kernel_rfl
 f129:=Tryz.func349.trans (congrArg some (by kernel_rfl))
 f171:=Tryz.func353.trans (congrArg some (by kernel_rfl))
 f243:=Tryz.func382.trans (congrArg some (by kernel_rfl))
 f246:=Tryz.func395.trans (congrArg some (by kernel_rfl))
 f283:=Tryz.func399.trans (congrArg some (by kernel_rfl))
 f284:=Tryz.func400.trans (congrArg some (by kernel_rfl))
 f285:=Tryz.func401.trans (congrArg some (by kernel_rfl))
 f286:=Tryz.func402.trans (congrArg some (by kernel_rfl))
 f317:=Tryz.func403.trans (congrArg some (by kernel_rfl))
 f318:=Tryz.func404.trans (congrArg some (by kernel_rfl))
 f319:=Tryz.func405.trans (congrArg some (by kernel_rfl))
 f320:=Tryz.func406.trans (congrArg some (by kernel_rfl))
 f337:=Tryz.func407.trans (congrArg some (by kernel_rfl))
 f338:=Tryz.func408.trans (congrArg some (by kernel_rfl))
 t0:=Tryz.underlying0
 a0:=Tryz.isAgg0
 z0:=Tryz.sizeOf0
 v0:=Tryz.zeroValue0
 t2:=Tryz.underlying2
 a2:=Tryz.isAgg2
 z2:=Tryz.sizeOf2
 v2:=Tryz.zeroValue2
 t3:=Tryz.underlying3
 a3:=Tryz.isAgg3
 z3:=Tryz.sizeOf3
 v3:=Tryz.zeroValue3
 t4:=Tryz.underlying4
 a4:=Tryz.isAgg4
 z4:=Tryz.sizeOf4
 v4:=Tryz.zeroValue4
 t5:=Tryz.underlying5
 a5:=Tryz.isAgg5
 z5:=Tryz.sizeOf5
 v5:=Tryz.zeroValue5
 t9:=Tryz.underlying9
 a9:=Tryz.isAgg9
 z9:=Tryz.sizeOf9
 v9:=Tryz.zeroValue9
 t20:=Tryz.underlying20
 a20:=Tryz.isAgg20
 z20:=Tryz.sizeOf20
 v20:=Tryz.zeroValue20
 t37:=Tryz.underlying249
 a37:=Tryz.isAgg249
 z37:=Tryz.sizeOf249
 v37:=Tryz.zeroValue249
 t46:=Tryz.underlying79
 a46:=Tryz.isAgg79
 z46:=Tryz.sizeOf79
 v46:=Tryz.zeroValue79
 t51:=Tryz.underlying286
 a51:=Tryz.isAgg286
 z51:=Tryz.sizeOf286
 v51:=Tryz.zeroValue286
 t53:=Tryz.underlying288
 a53:=Tryz.isAgg288
 z53:=Tryz.sizeOf288
 v53:=Tryz.zeroValue288
 t171:=Tryz.underlying338
 a171:=Tryz.isAgg338
 z171:=Tryz.sizeOf338
 v171:=Tryz.zeroValue338
 t173:=Tryz.underlying340
 a173:=Tryz.isAgg340
 z173:=Tryz.sizeOf340
 v173:=Tryz.zeroValue340
 t212:=Tryz.underlying343
 a212:=Tryz.isAgg343
 z212:=Tryz.sizeOf343
 v212:=Tryz.zeroValue343
 t213:=Tryz.underlying344
 a213:=Tryz.isAgg344
 z213:=Tryz.sizeOf344
 t232:=Tryz.underlying345
 a232:=Tryz.isAgg345
 z232:=Tryz.sizeOf345
 v232:=Tryz.zeroValue345
 t233:=Tryz.underlying346
 a233:=Tryz.isAgg346
 z233:=Tryz.sizeOf346
 v233:=Tryz.zeroValue346
 g17:=by kernel_rfl
 g18:=by kernel_rfl
 g19:=by kernel_rfl
 i0:=by kernel_rfl
 i2:=by kernel_rfl
 i3:=by kernel_rfl
 i4:=by kernel_rfl
 i5:=by kernel_rfl
 i9:=by kernel_rfl
 i20:=by kernel_rfl
 i37:=by kernel_rfl
 i46:=by kernel_rfl
 i51:=by kernel_rfl
 i53:=by kernel_rfl
 i171:=by kernel_rfl
 i173:=by kernel_rfl
 i212:=by kernel_rfl
 i232:=by kernel_rfl
 i233:=by kernel_rfl
 m17:=by kernel_rfl
 m18:=by kernel_rfl
 m19:=by kernel_rfl }
end Go.Proofs
namespace Kw
open Go
def RD {α:Type} (d:Nat):Result α->Prop
 | .ok _ w=>d<=w.drawn
 | .halt _ w=>d<=w.drawn
theorem RD.mono {α:Type}{d d':Nat}{r:Result α} (h:d<=d') (hr:RD d' r):RD d r:=by
 cases r <;> exact Nat.le_trans h hr
theorem GB {α:Type} (a:Ask α) (w:World):w.drawn<=(w.ask a).2.drawn:=by
 induction a generalizing w with
 | done=>exact Nat.le_refl _
 | ask what range k ih =>
  unfold World.ask
  simp only
  split
  ·exact ih _ _
  ·exact Nat.le_trans (Nat.le_succ _) (ih _ { w with drawn:=w.drawn+1 })
theorem Bb (w:World) (c:Sys):w.drawn<=(w.sys c).2.drawn:=by
 unfold World.sys
 have h:=GB (Kernel.perform c w.os) w
 split
 ·exact Nat.le_refl _
 ·rename_i e;rw [e] at h;exact h
theorem pD {p:Program}{w:World}{at_:Addr}{u:TypeId}{k:Addr}{v:Value}{b:Bool}{r:World × List Addr} (h:w.viewStore p at_ u k v b=.ok r):r.1.drawn=w.drawn:=by
 unfold World.viewStore at h
 simp only [bind,Except.bind,pure,Except.pure,MonadExcept.throw,throwThe,MonadExceptOf.throw] at h
 repeat' split at h
 all_goals cases h
 all_goals rfl
theorem lL {p:Program}{w w':World}{a:Addr}{v:Value}{b:Bool}{l:List Addr} (h:w.farStore p a v b=.ok (w',l)):w'.drawn=w.drawn:=by
 unfold World.farStore at h
 repeat' split at h
 ·cases h;rename_i e;exact pD e
 all_goals cases h
theorem nc (w:World) (a:Addr) (v:Value):(w.setCell a v).drawn=w.drawn:=by
 unfold World.setCell;rfl
theorem qe (w:World) (a:Addr) (n:Nat):(w.freeze a n).drawn=w.drawn:=by
 unfold World.freeze;split <;> rfl
theorem uV {α:Type} (p:Program) (s:Sem α) (w:World):RD w.drawn (s.run p w):=by
 induction s generalizing w with
 | pure=>exact Nat.le_refl _
 | load m a k ih =>
  unfold Sem.run
  split
  ·exact ih _ _
  ·split
   ·exact ih _ _
   ·exact Nat.le_refl _
 | store m a v k ih =>
  have key:RD w.drawn (match w.cell? a with
   | some _ => if w.frozen? a then .halt (.unsupported (.unsafePointer "a write to bytes that a string shares")) w else k.run p (w.setCell a v)
   | none=>match w.farStore p a v (m == .atomic) with
    | .ok (w,_)=>k.run p w
    | .error h=>.halt h w):=by
   split
   ·split
    ·exact Nat.le_refl _
    ·have:=ih (w.setCell a v);rw [nc] at this;exact this
   ·split
    ·rename_i e;rw [←lL e];exact ih _
    ·exact Nat.le_refl _
  cases v <;> first | exact key | exact Nat.le_refl _
 | new o k ih=>exact ih _ { w with heap:=w.heap.push o }
 | shape r k ih=>exact ih _ _
 | freeze a n k ih=>have:=ih (w.freeze a n);rw [qe] at this;exact this
 | frozen a k ih=>exact ih _ _
 | getObj r k ih =>
  unfold Sem.run
  split
  ·exact Nat.le_refl _
  ·exact ih _ _
  ·exact Nat.le_refl _
 | setObj r o k ih =>
  unfold Sem.run
  split
  ·exact Nat.le_refl _
  ·exact ih { w with heap:=w.heap.setIfInBounds r o }
  ·exact Nat.le_refl _
 | choose q k ih =>
  unfold Sem.run
  split
  ·exact ih _ _
  ·exact RD.mono (Nat.le_succ _) (ih _ { w with drawn:=w.drawn+1 })
 | sys c k ih=>exact RD.mono (Bb w c) (ih _ _)
 | program k ih=>exact ih _ _
 | mark m k ih=>exact ih _
 | halt h=>exact Nat.le_refl _
theorem kg {α:Type} (p:Program) (s:Sem α) (w:World) (es:Array Event):RD w.drawn (s.runT p w es).1:=by
 induction s generalizing w es with
 | pure=>exact Nat.le_refl _
 | load m a k ih =>
  unfold Sem.runT
  split
  ·exact ih _ _ _
  ·split
   ·exact ih _ _ _
   ·exact Nat.le_refl _
 | store m a v k ih =>
  have key:RD w.drawn (match w.cell? a with
   | some _ =>
    if w.frozen? a then (Result.halt (.unsupported (.unsafePointer "a write to bytes that a string shares")) w, es)
    else k.runT p (w.setCell a v) (es.push ⟨.cell a,true,m == Mode.atomic⟩)
   | none=>match w.farStore p a v (m == Mode.atomic) with
    | .ok (w,touched)=>k.runT p w (es++touched.toArray.map fun x=>(⟨.cell x,true,m == Mode.atomic⟩:Event))
    | .error h=>(Result.halt h w,es)).1:=by
   split
   ·split
    ·exact Nat.le_refl _
    ·have:=ih (w.setCell a v) (es.push ⟨.cell a,true,m == .atomic⟩);rw [nc] at this;exact this
   ·split
    ·rename_i e;rw [←lL e];exact ih _ _
    ·exact Nat.le_refl _
  cases v <;> first | exact key | exact Nat.le_refl _
 | new o k ih=>exact ih _ { w with heap:=w.heap.push o } _
 | shape r k ih=>exact ih _ _ _
 | freeze a n k ih=>have:=ih (w.freeze a n) es;rw [qe] at this;exact this
 | frozen a k ih=>exact ih _ _ _
 | getObj r k ih =>
  unfold Sem.runT
  split
  ·exact Nat.le_refl _
  ·exact ih _ _ _
  ·exact Nat.le_refl _
 | setObj r o k ih =>
  unfold Sem.runT
  split
  ·exact Nat.le_refl _
  ·exact ih { w with heap:=w.heap.setIfInBounds r o } _
  ·exact Nat.le_refl _
 | choose q k ih =>
  unfold Sem.runT
  split
  ·exact ih _ _ _
  ·exact RD.mono (Nat.le_succ _) (ih _ { w with drawn:=w.drawn+1 } _)
 | sys c k ih=>exact RD.mono (Bb w c) (ih _ _ _)
 | program k ih=>exact ih _ _ _
 | mark m k ih=>exact ih _ _
 | halt h=>exact Nat.le_refl _
section
variable {α:Type}{p:Program}{s:Sem α}{w w':World}{a:α}{h:Halt}{es es' es2:Array Event}{l:Bool}
theorem cz (e:s.run p w=.ok a w'):w.drawn<=w'.drawn:=by have:=uV p s w;rw [e] at this;exact this
theorem vl (e:s.run p w=.halt h w'):w.drawn<=w'.drawn:=by have:=uV p s w;rw [e] at this;exact this
theorem yY (e:s.runT p w es=(.ok a w',es')):w.drawn<=w'.drawn:=by have:=kg p s w es;rw [e] at this;exact this
theorem ug (e:s.runT p w es=(.halt h w',es')):w.drawn<=w'.drawn:=by have:=kg p s w es;rw [e] at this;exact this
theorem im (e:(s.runT p w es).1=.ok a w'):w.drawn<=w'.drawn:=by have:=kg p s w es;rw [e] at this;exact this
theorem nq (e:(s.runT p w es).1=.halt h w'):w.drawn<=w'.drawn:=by have:=kg p s w es;rw [e] at this;exact this
end
def GD (d:Nat):GStep->Prop
 | .go _ w _=>d<=w.drawn
 | .comm _ _ _ _ w _=>d<=w.drawn
 | .spawn _ _ w _=>d<=w.drawn
 | .count _ w _=>d<=w.drawn
 | .timer _ _ w _=>d<=w.drawn
 | .alone _ _ w _=>d<=w.drawn
 | .newcoro _ _ _ w _=>d<=w.drawn
 | .coroswitch _ _ _ w _=>d<=w.drawn
 | .collect _ w _=>d<=w.drawn
 | .watch _ w _=>d<=w.drawn
 | .ended ..=>True
theorem GD.after {d:Nat}{es:Array Event}{g:GStep} (h:GD d g):GD d (g.after es):=by cases g <;> exact h
theorem GD.ite {d:Nat}{c:Prop} [Decidable c] {a b:GStep} (h1:GD d a) (h2:GD d b):GD d (if c then a else b):=by split <;> assumption
theorem GD.elim {d:Nat}{α:Type}{o:Option α}{a:GStep}{f:α->GStep} (h1:GD d a) (h2:∀ x,GD d (f x)):GD d (o.elim a f):=by cases o <;> first | exact h1 | exact h2 _
theorem yD {d:Nat}{fr:Frame}{l:List ByteArray}{m:String}{b:Bool}{w:World} (h:d<=w.drawn):GD d (dieOf fr l m b w):=h
theorem dq {d:Nat}{fr:Frame}{m:String}{w:World} (h:d<=w.drawn):GD d (endThrow fr m w):=h
theorem tR (d:Nat) (w:World) (fd:Nat) (t:ByteArray) (o:Outcome):GD d (endWith w fd t o):=by
 unfold endWith
 simp only
 repeat' split
 all_goals trivial
theorem iC {d:Nat}{p:Program}{fr:Frame}{v:Value}{w:World} (h:d<=w.drawn):GD d (endPrinting p fr v w):=by
 unfold endPrinting
 simp only
 split
 ·exact dq h
 ·trivial
theorem iU {d:Nat}{p:Program}{fr:Frame}{cs:List Frame}{dy:Option Dying}{m:String}{w:World} (h:d<=w.drawn):GD d (endFatal p fr cs dy m w):=by
 unfold endFatal
 simp only
 split
 ·exact yD (Nat.le_trans h (cz (by assumption)))
 ·trivial
 ·trivial
theorem un {d:Nat}{p:Program}{fr:Frame}{dy:Dying}{f:Fatal}{w:World} (h:d<=w.drawn):GD d (writeOn p fr dy f w):=by
 unfold writeOn
 simp only
 split
 ·trivial
 ·split
  ·exact Nat.le_trans h (yY (by assumption))
  ·exact Nat.le_trans h (ug (by assumption))
  ·trivial
  ·trivial
theorem Fu {d:Nat}{p:Program}{fr:Frame}{dy:Dying}{w:World} (h:d<=w.drawn):GD d (die p fr dy w):=by
 unfold die
 simp only
 repeat' first | apply GD.after | split
 all_goals first | exact un h | exact h | exact tR _ _ _ _ _ | exact Nat.le_trans h (cz (by assumption)) | exact Nat.le_trans h (im (by assumption)) | exact iC (Nat.le_trans h (nq (by assumption))) | trivial
theorem te {d:Nat}{p:Program}{fr:Frame}{cs:List Frame}{dy:Option Dying}{g:Nat}{w:World} (h:d<=w.drawn):GD d (early p fr cs dy g w):=by
 have nY:∀ w:World,d<=w.drawn->GD d (match w.heap[g]? with
  | some (.pending c elem)=>.go { frame:=fr,callers:=cs,status:=.running,dying:=dy } { w with heap:=w.heap.setIfInBounds g (.cells c elem) }
  | _ => .ended (.stuck "early: the variable does not wait" (fr.pos p)) w) := by
  intro w h
  split
  ·exact h
  ·trivial
 unfold early
 simp only
 split
 ·exact nY _ h
 ·split
  ·trivial
  ·split
   ·exact nY _ h
   ·split
    ·exact nY _ h
    ·split
     ·trivial
     ·exact h
     ·trivial
     ·exact nY _ h
     ·split
      ·exact h
      ·split
       ·exact nY _ h
       ·split
        ·exact nY _ (Nat.le_trans h (cz (by assumption)))
        ·exact Nat.le_trans h (cz (by assumption))
        ·trivial
theorem iL {d:Nat}{p:Program}{main:Bool}{fr:Frame}{cs:List Frame}{dy:Option Dying}{v:Value}{w:World} (h:d<=w.drawn):GD d (doReturn p main fr cs dy v w):=by
 unfold doReturn
 simp only
 split
 ·split <;> exact h
 ·split
  ·exact h
  ·trivial
  ·split
   ·exact h
   ·split
    ·exact h
    ·trivial
theorem ls {d:Nat}{p:Program}{fr:Frame}{cs:List Frame}{dy:Option Dying}{df:Deferred}{w:World} (h:d<=w.drawn):GD d (callDeferred p fr cs dy df w):=by
 unfold callDeferred
 simp only
 refine GD.ite trivial ?_
 ·apply GD.after
  have hr:=kg p (invoke df.target df.args) w #[]
  generalize (invoke df.target df.args).runT p w #[]=x at hr ⊢
  obtain ⟨r,es⟩:=x
  simp only at hr ⊢
  have hr2:=hr.mono h
  clear hr
  cases r with
  | ok a w' =>
   have hw:d<=w'.drawn:=hr2
   cases a
   all_goals first | exact hw | trivial | dsimp only | skip
   all_goals (repeat' split)
   all_goals first | exact hw | trivial | (cases ‹Result.ok _ _=Result.ok _ _› <;> first | exact hw | trivial)
  | halt ha w' =>
   have hw:d<=w'.drawn:=hr2
   cases ha
   all_goals first | exact hw | trivial | exact iU hw | exact dq hw
theorem vv {d:Nat}{p:Program}{main:Bool}{fr:Frame}{cs:List Frame}{dy:Option Dying}{w:World} (h:d<=w.drawn):GD d (unwind p main fr cs dy w):=by
 unfold unwind
 simp only
 split
 ·apply GD.after
  split
  ·exact Nat.le_trans h (im (by assumption))
  ·trivial
 ·exact ls h
 ·split
  ·trivial
  ·split
   ·trivial
   ·split
    ·exact h
    ·split
     ·split
      ·exact h
      ·split
       ·exact Nat.le_trans h (cz (by assumption))
       ·trivial
       ·trivial
     ·split
      ·exact iC h
      ·trivial
  ·split
   ·exact iL h
   ·apply GD.after
    split
    ·exact iL (Nat.le_trans h (im (by assumption)))
    ·trivial
    ·trivial
theorem kN {d:Nat}{p:Program}{l:Bool}{fr:Frame}{cs:List Frame}{dy:Option Dying}{s:Sem Next}{w:World} (h:d<=w.drawn):GD d (stepG.apply p l fr cs dy s w):=by
 unfold stepG.apply
 simp only
 apply GD.after
 have hr:RD d (if l=true then s.runT p w #[] else (s.run p w,#[])).1:=by
  split
  ·exact (kg p s w #[]).mono h
  ·exact (uV p s w).mono h
 generalize (if l=true then s.runT p w #[] else (s.run p w,#[]))=x at hr ⊢
 obtain ⟨r,es⟩:=x
 simp only at hr ⊢
 cases r with
 | ok a w' =>
  have hw:d<=w'.drawn:=hr
  cases a
  all_goals first | exact hw | trivial | dsimp only
  all_goals (repeat' first | apply GD.ite | split)
  all_goals first | exact hw | exact dq hw | trivial
 | halt ha w' =>
  have hw:d<=w'.drawn:=hr
  cases ha
  all_goals first | exact hw | trivial | exact iU hw | exact dq hw | dsimp only | skip
  all_goals (repeat' split)
  all_goals first | exact hw | trivial | exact iU hw | exact dq hw | exact te hw | (cases ‹Result.halt _ _=Result.halt _ _› <;> first | exact hw | trivial | exact te hw)
theorem vH {d:Nat}{p:Program}{l:Bool}{fr:Frame}{cs:List Frame}{dy:Option Dying}{w:World} (h:d<=w.drawn):GD d (stepG.oper p l fr cs dy w):=by
 unfold stepG.oper
 repeat' split
 all_goals first | exact kN h | trivial
theorem DO {d:Nat}{p:Program}{main l:Bool}{fr:Frame}{cs:List Frame}{dy:Option Dying}{w:World} (h:d<=w.drawn):GD d (stepG.exec p main l fr cs dy w):=by
 have lv:∀ (c:Prop) [Decidable c] (jump:Option Code),GD d (match fr.roundOf with
   | none => if c then .go { frame := { fr with mode := .returning }, callers := cs, status := .running, dying := dy } w else .ended (.stuck "exit, goto: no such block or label" (fr.pos p)) w
   | some l =>
    GStep.after (seen p fr.fn ((Instr.endRound l jump).runT p w #[]).2) <| match ((Instr.endRound l jump).runT p w #[]).1 with
    | .ok v w=>doReturn p main fr cs dy v w
    | .halt _ w => .ended (.stuck "range over a function: no such loop" (fr.pos p)) w) := by
  intro c _ jump
  split
  ·refine GD.ite ?_ trivial;exact h
  ·apply GD.after
   split
   ·exact iL (Nat.le_trans h (im (by assumption)))
   ·trivial
 unfold stepG.exec
 simp only
 split
 all_goals first | exact h | exact lv _ _ | trivial | exact kN h | exact vH h | skip
 ·split <;> first | exact h | trivial
 ·exact GD.elim (lv _ _) fun _=>h
 ·exact GD.elim (lv _ _) fun _=>h
 ·apply GD.after
  split
  ·exact kN (Nat.le_trans h (im (by assumption)))
  ·trivial
 ·apply GD.after
  split
  ·exact Nat.le_trans h (im (by assumption))
  ·exact Nat.le_trans h (nq (by assumption))
  ·trivial
 ·exact GD.elim trivial fun _=>kN h
 ·refine GD.ite h ?_
  split
  ·exact Nat.le_trans h (cz (by assumption))
  ·trivial
 ·exact GD.ite (vH h) h
theorem zm {d:Nat}{p:Program}{main l:Bool}{g:Goroutine}{w:World} (h:d<=w.drawn):GD d (stepG p main g w l):=by
 unfold stepG
 split
 split
 ·exact Fu h
 ·exact DO h
 ·exact vv h
def SD (d:Nat):Stepped->Prop
 | .next m=>d<=m.world.drawn
 | .ended ..=>True
theorem uQ {d:Nat}{p:Program}{gs:Array Goroutine}{rest:Rest}{w:World} (h:d<=w.drawn):SD d (look p gs rest w):=by
 unfold look
 simp only
 split
 ·split
  ·trivial
  ·split
   ·trivial
   ·split
    ·have e:=cz ‹Sem.run _ _ _=Result.ok _ _›
     exact Nat.le_trans h e
    ·trivial
    ·trivial
 ·trivial
theorem qj {r:Rest}{cs:Array CommCase}{w w':World} (h:waitingAt r cs w=some w'):w'.drawn=w.drawn:=by
 unfold waitingAt at h
 repeat' split at h
 all_goals cases h
 all_goals rfl
theorem mA {d:Nat}{p:Program}{rest:Rest}{gs:Array Goroutine}{i:Nat}{g:Goroutine}{cases_:Array CommCase}{b:Bool}{sh:CommShape}{w:World} (h:d<=w.drawn):SD d (communicate p rest gs i g cases_ b sh w).1:=by
 unfold communicate
 simp only
 repeat' split
 all_goals first
  | exact h
  | trivial
  | (have e:=cz ‹Sem.run _ _ w=Result.ok _ _›;have e2:=cz ‹Sem.run _ _ _=Result.ok _ _›;exact Nat.le_trans h (Nat.le_trans e e2))
  | (have e:=cz ‹Sem.run _ _ w=Result.ok _ _›;have e2:=vl ‹Sem.run _ _ _=Result.halt _ _›;exact Nat.le_trans h (Nat.le_trans e e2))
  | (have e:=cz ‹Sem.run _ _ w=Result.ok _ _›;exact Nat.le_trans h e)
  | (have e:=qj ‹_›;rw [←e] at h;exact h)
theorem oS (m:Machine) (k:Nat) (t:Timer) (a b:Nat):(retime m k t a b).2.world.drawn=m.world.drawn:=by
 unfold retime
 simp only
 split
 ·unfold drain
  split <;> rfl
 ·rfl
theorem vr {m m':Machine}{a:Addr} (h:timerOp.opened m a=some m'):m'.world.drawn=m.world.drawn:=by
 unfold timerOp.opened at h
 split at h
 ·split at h
  ·cases h;rfl
  ·cases h
 ·cases h;rfl
theorem tA {m m':Machine}{op:TimerOp}{v:Value} (h:timerOp m op=.ok (v,m')):m'.world.drawn=m.world.drawn:=by
 have nm:∀ (var:Addr) (f:Nat->Timer->Value × Machine) (d:Nat),(∀ k t,(f k t).2.world.drawn=d)->timerOp.named m var f=.ok (v,m')->m'.world.drawn=d:=by
  intro var f d hf h
  unfold timerOp.named at h
  split at h
  ·have e:=Except.ok.inj h
   have e2:=congrArg (fun x=>x.2.world.drawn) e
   simp only at e2
   rw [←e2];exact hf _ _
  ·cases h
 unfold timerOp at h
 split at h
 ·split at h
  ·cases h;rfl
  ·split at h
   ·split at h
    ·cases h
    ·cases h;rfl
   ·cases h
 ·exact nm _ (fun k t=>retime m k t 0 t.period) _ (fun k t=>oS _ _ _ _ _) h
 ·split at h
  ·rename_i m1 ho
   have e:=nm _ _ _ (fun k t=>oS m1 k t _ _) h
   exact e.trans (vr ho)
  ·cases h
 ·cases h;rfl
theorem yT {d:Nat}{p:Program}{m:Machine}{i:Nat}{l:Bool} (h:d<=m.world.drawn):SD d (Go.runT p m i l).1:=by
 unfold Go.runT
 simp only
 have hs:=zm (p:=p) (main:=i == 0) (l:=l) (g:=(m.gs.swapAt! i { (default:Goroutine) with status:=.finished }).1) h
 generalize stepG p (i == 0) (m.gs.swapAt! i { (default:Goroutine) with status:=.finished }).1 m.world l=s at hs ⊢
 cases s with
 | go g w es=>exact hs
 | comm g c b sh w es=>exact mA hs
 | spawn g c w es=>exact hs
 | count g w es =>
  dsimp only
  split
  ·trivial
  ·exact hs
 | timer g op w es =>
  dsimp only
  split
  ·have e:=tA ‹timerOp _ _=_›
   have e2:d<=w.drawn:=hs
   show d<=_
   rw [←(show _=w.drawn from e)] at e2
   exact e2
  ·split
   ·rename_i e
    exact (congrArg (GD d) e).mp (dq hs)
   ·trivial
  ·trivial
  ·trivial
 | alone g on w es=>exact hs
 | newcoro g c df w es=>exact hs
 | coroswitch g c ex w es =>
  dsimp only
  split
  ·exact hs
  ·split
   ·rename_i e
    exact (congrArg (GD d) e).mp (dq hs)
   ·trivial
  ·trivial
 | collect g w es=>exact uQ hs
 | watch g w es=>exact hs
 | ended o w es=>trivial
theorem zE {d:Nat}{p:Program}{m:Machine}{k:Nat} (h:d<=m.world.drawn):SD d (serve p m k):=by
 unfold serve
 split
 ·trivial
 ·exact h
 ·dsimp only
  split
  ·trivial
  ·exact h
def MD (d:Nat):Move->Prop
 | .goroutine m _=>d<=m.world.drawn
 | .machine s _=>SD d s
theorem oC {d:Nat}{p:Program}{m:Machine} (h:d<=m.world.drawn):MD d (askOn p m):=by
 have pk:∀ m:Machine,d<=m.world.drawn->∀ rs:List Nat,MD d (match (choose (.sched rs.length)).run p m.world with
   | .halt _ w => .machine (.ended (.stuck "sched" "") w)
   | .ok k world =>
    if rs.length<=1 then .goroutine { m with world } (rs.getD k 0) else
    match (choose (.extern "sched.slice" 65536)).run p world with
    | .halt _ w => .machine (.ended (.stuck "sched.slice" "") w)
    | .ok n world=>.goroutine { m with world,rest:={ m.rest with slice:=if n=0 then none else some (rs.getD k 0,n) } } (rs.getD k 0)):=by
  intro m h rs
  split
  ·trivial
  ·rename_i w1 e1
   have h1:=Nat.le_trans h (cz e1)
   split
   ·exact h1
   ·split
    ·trivial
    ·rename_i w2 e2
     exact Nat.le_trans h1 (cz e2)
 unfold askOn
 simp only
 split
 ·trivial
 ·rename_i k w1 e1
  have h1:=Nat.le_trans h (cz e1)
  split
  ·exact zE h1
  ·split
   ·split
    ·exact h1
    ·split
     ·exact h1
     ·split <;> trivial
   ·split
    ·exact pk { m with world:=w1 } h1 _
    ·split
     ·trivial
     ·rename_i e2;exact pk { m with world:=_ } (Nat.le_trans h1 (cz e2)) _
     ·rename_i e2;have e3:=cz e2;exact Nat.le_trans h1 e3
     ·rename_i e2;have e3:=cz e2;exact pk (Machine.advanceTo { m with world:=_ } _) (Nat.le_trans h1 e3) _
theorem wh {d:Nat}{p:Program}{m:Machine} (h:d<=m.world.drawn):MD d (Go.ask p m):=by
 unfold Go.ask
 split
 ·split
  ·trivial
  ·rename_i w1 e1
   have h1:=Nat.le_trans h (cz e1)
   have hl:=uQ (p:=p) (gs:=m.gs) (rest:=m.rest) h1
   generalize look p m.gs m.rest w1=s at hl ⊢
   cases s with
   | next m=>exact oC hl
   | ended o w=>trivial
  ·rename_i w1 _ e1
   exact oC (m:={ m with world:=w1 }) (Nat.le_trans h (cz e1))
 ·exact oC h
theorem EU {d:Nat}{p:Program}{m:Machine} (h:d<=m.world.drawn):MD d (Go.move p m):=by
 unfold Go.move
 split
 ·split
  ·exact h
  ·trivial
 ·split
  ·split
   ·exact h
   ·exact wh h
  ·exact wh h
theorem BH {p:Program}{m m':Machine} (h:step p m=.next m'):m.world.drawn<=m'.world.drawn:=by
 have hm:=EU (p:=p) (m:=m) (Nat.le_refl _)
 unfold step stepT at h
 generalize Go.move p m=mv at hm h
 cases mv with
 | goroutine m1 i =>
  have hs:=yT (p:=p) (i:=i) (l:=true) hm
  dsimp only at h
  rw [h] at hs
  exact hs
 | machine s ops =>
  dsimp only at h
  subst h
  exact hm
theorem xj {p:Program}{m m':Machine} (h:Steps p m m'):m.world.drawn<=m'.world.drawn:=by
 obtain ⟨n,hn⟩:=h
 induction n generalizing m with
 | zero=>cases hn;exact Nat.le_refl _
 | succ n ih =>
  unfold runN at hn
  generalize hs:step p m=s at hn
  cases s with
  | next m1=>exact Nat.le_trans (BH hs) (ih hn)
  | ended o w=>cases hn
theorem pm {p:Program}{f:FuncId}{args:Array Value}{w:World}{v:Value}{R:World->Prop} (h:Calls p f args w fun e w'=>e=.returned v∧R w'):Calls p f args w fun e w'=>e=.returned v∧R w'∧w.drawn<=w'.drawn:=by
 intro cs
 obtain ⟨e,w',fr,⟨he,hR⟩,hc,hf,hl⟩:=h cs
 subst he
 exact ⟨_,w',fr,⟨rfl,hR,xj hc⟩,hc,hf,hl⟩
end Kw
namespace Kw
open Go Go.Proofs Go.Shelf Go.RowKit
variable {P:Program}
theorem ko {f:FuncId}{args:Array Value}{H:ae}{v:Value}{Q:Value->ae->Prop} (hfn:∃ fn,P.funcs[f]?=some fn∧fn.body.isSome=true) (hc:∀ w:World,w.heap=H->Calls P f args w fun e w'=>e=.returned v∧Below w.heap.size w w') (h:∀ H',Fr [] H H'->Q v H'):ac P f args Q H:=by
 refine ⟨hfn,fun w hw=>?_⟩
 refine (pm (hc w hw)).mono ?_
 rintro e w' ⟨rfl,hb,hd⟩
 subst hw
 refine ⟨v,rfl,h _ ⟨hb.size,fun b hb' _=>hb.block b hb'⟩,hb.tape,hb.os,hb.output,hd,hb.size,fun b ds hb'=>?_⟩
 rw [hb.block b (Array.getElem?_eq_some_iff.1 hb').1];exact hb'
theorem oB {ρ:Ren} (L:Lays.n105 P ρ) (X:Builder.Extra P ρ) (hfn:∃ fn,P.funcs[ρ.f 105]?=some fn∧fn.body.isSome=true){s:ByteArray}{c:Nat}{H:ae}{Q:Value->ae->Prop} (hc:c<=9223372036854775807) (hlen:s.size*c<=140737488355328) (h:∀ H',Fr [] H H'->Q (.string ⟨(Lib.repeatL s.data.toList c).toArray⟩) H'):ac P (ρ.f 105) #[.string s,.int .i64 c] Q H :=
 ko hfn (fun w _=>Any.strings_Repeat L X s c w hc hlen) h
end Kw
namespace Go.Proofs.YtgjfejoohojokaaGreatDoor
open Kw
abbrev GG:ByteArray:=⟨#[118,97,108,117,101,58]⟩
abbrev HY:ByteArray:=⟨#[118,97,108,117,101]⟩
abbrev Kk:ByteArray:=⟨#[110,117,109,65,114,103,115]⟩
def rD:Nat->ByteArray
 | 0=>⟨#[]⟩
 | n+1=>rD n++GG
theorem ke:∀ n,(rD n).size=6*n
 | 0=>rfl
 | n+1=>by rw [rD,ByteArray.size_append,ke n];show 6*n+6=_;omega
def rN (n:Nat):List PE:=(Kk,0,.slot 309 4) :: (HY,0,.nil) :: (List.range n).map fun i=>(rD (i+1),((i+1:Nat):Int),.nil)
def rZ:List PE:=[(⟨#[61,61]⟩,1,.fn 171),(⟨#[61]⟩,1,.fn 171),(⟨#[126,126]⟩,1,.fn 172),(⟨#[99,108,97,115,115]⟩,0,.fn 173),(⟨#[105,115,78,105,108]⟩,0,.fn 174),(⟨#[110,111,116,78,105,108]⟩,0,.fn 175),(⟨#[121,111,117,114,115,101,108,102]⟩,0,.fn 176),(⟨#[105,115,75,105,110,100,79,102,58]⟩,1,.fn 177),(⟨#[105,110,115,116,86,97,114,83,105,122,101]⟩,0,.fn 178),(⟨#[105,110,115,116,86,97,114,65,116,58]⟩,1,.fn 179),(⟨#[105,110,115,116,86,97,114,65,116,58,112,117,116,58]⟩,2,.fn 179),(⟨#[99,111,112,121]⟩,0,.fn 180)]
def qo:List PE:=[(⟨#[110,111,116]⟩,0,.fn 292),(⟨#[38]⟩,1,.fn 293),(⟨#[97,110,100,58]⟩,1,.fn 293),(⟨#[111,114,58]⟩,1,.fn 294)]
def se:List PE:=[(⟨#[43]⟩,1,.clo 295 183),(⟨#[45]⟩,1,.clo 295 184),(⟨#[42]⟩,1,.clo 295 185),(⟨#[47,47]⟩,1,.clo 295 186),(⟨#[92,92]⟩,1,.clo 295 187),(⟨#[98,105,116,65,110,100,58]⟩,1,.clo 295 188),(⟨#[98,105,116,79,114,58]⟩,1,.clo 295 189),(⟨#[98,105,116,88,111,114,58]⟩,1,.clo 295 190),(⟨#[98,105,116,83,104,105,102,116,58]⟩,1,.clo 295 191),(⟨#[60]⟩,1,.clo 299 193),(⟨#[62]⟩,1,.clo 299 194),(⟨#[60,61]⟩,1,.clo 299 195),(⟨#[62,61]⟩,1,.clo 299 196),(⟨#[109,105,110,58]⟩,1,.clo 295 197),(⟨#[109,97,120,58]⟩,1,.clo 295 198),(⟨#[61]⟩,1,.fn 171),(⟨#[126,61]⟩,1,.fn 172),(⟨#[110,101,103,97,116,101,100]⟩,0,.fn 199),(⟨#[97,98,115]⟩,0,.fn 200),(⟨#[101,118,101,110]⟩,0,.fn 201),(⟨#[111,100,100]⟩,0,.fn 202),(⟨#[112,114,105,110,116,83,116,114,105,110,103]⟩,0,.fn 203)]
def sx:List PE:=[(⟨#[115,105,122,101]⟩,0,.fn 204),(⟨#[97,115,83,116,114,105,110,103]⟩,0,.fn 205),(⟨#[60]⟩,1,.fn 206)]
def nT:List PE:=[(⟨#[115,105,122,101]⟩,0,.fn 207),(⟨#[105,115,69,109,112,116,121]⟩,0,.fn 208),(⟨#[97,116,58]⟩,1,.fn 209),(⟨#[97,116,58,112,117,116,58]⟩,2,.fn 210),(⟨#[44]⟩,1,.fn 211),(⟨#[61]⟩,1,.fn 212),(⟨#[60]⟩,1,.fn 213),(⟨#[97,115,83,121,109,98,111,108]⟩,0,.fn 214)]
def ot:List PE:=[(⟨#[115,105,122,101]⟩,0,.fn 207),(⟨#[105,115,69,109,112,116,121]⟩,0,.fn 208),(⟨#[97,116,58]⟩,1,.fn 215),(⟨#[97,116,58,112,117,116,58]⟩,2,.fn 215)]
def oe:List PE:=[(⟨#[110,101,119]⟩,0,.fn 216),(⟨#[110,101,119,58]⟩,1,.fn 217),(⟨#[110,97,109,101]⟩,0,.slot 309 0),(⟨#[115,117,112,101,114,99,108,97,115,115]⟩,0,.slot 309 1)]
def wm:List PE:=[(⟨#[115,101,108,101,99,116,111,114]⟩,0,.slot 309 0),(⟨#[97,114,103,117,109,101,110,116,115]⟩,0,.slot 309 1)]
def ov (c:Int):List PE :=
 if c=4 then rZ else
 if c=6∨c=7 then qo else
 if c=8 then se else
 if c=9 then sx else
 if c=10 then nT else
 if c=11 then ot else
 if c=12 then oe else
 if c=14 then rN 8 else
 if c=17 then wm else
 []
theorem wJ (n:Nat):rD n=⟨(Lib.repeatL GG.data.toList n).toArray⟩:=by
 induction n with
 | zero=>rfl
 | succ n ih =>
  rw [rD,ih,Lib.repeatL_add,Lib.repeatL_one]
  refine ByteArray.ext ?_
  rw [ByteArray.data_append]
  simp
theorem tl {es:List PE}{x:ByteArray} (h:∀ e∈es,x≠e.1):d8 es x=none:=by
 induction es with
 | nil=>rfl
 | cons e es ih =>
  unfold d8
  rw [if_neg (h e (by simp))]
  exact ih fun y hy=>h y (by simp [hy])
theorem wY (n:Nat):d8 (rN n) (rD (n+1))=none:=by
 refine tl fun e he hx=>?_
 have hs:=congrArg ByteArray.size hx
 rw [ke] at hs
 unfold rN at he
 simp only [List.mem_cons,List.mem_map,List.mem_range] at he
 rcases he with rfl | rfl | ⟨i,hi,rfl⟩
 ·have:Kk.size=7:=rfl
  simp only at hs;omega
 ·have:HY.size=5:=rfl
  simp only at hs;omega
 ·simp only at hs;rw [ke] at hs;omega
section
variable {H:ae}{Q:QT}
theorem tH (h:∀ r H',MapE H H' r (rN 8)->Q (.map (some r)) H'):ac PP CY #[] Q H:=by
 apply zA
 unfold GP iV wW sV cS
 refine fF (MapE.new _) (by decide) fun H1 m1=>qi m1 (by decide) fun H2 m2=>?_
 refine ⟨fun w H'=>∃ i:Nat,w=[.int .i64 ((i+1:Nat):Int)]∧i<=8∧MapE H H' H.size (rN i),fun w _=>match w with
  | [.int _ i]=>(9-i).toNat
  | _=>0,⟨0,rfl,Nat.zero_le _,m2⟩,?_⟩
 rintro w H3 ⟨i,rfl,hi,m3⟩ _
 refine ⟨_,rfl,?_⟩
 rw [af]
 refine ap (fun hlt=>?_) fun hlt=>?_
 ·have e:IntKind.wrap .i64 (((i+1:Nat):Int)+1)=(((i+1)+1:Nat):Int):=by rw [ah (by omega) (by omega)];omega
  refine oB Tryz.rep Tryz.repX ⟨_,Tryz.func310,rfl⟩ (c:=i+1) (by omega) (by show 6*(i+1)<=_;omega) fun H4 f4=>⟨_,rfl,?_⟩
  rw [←wJ,e]
  refine qi (m3.fr f4) (wY i) fun H5 m5=>⟨⟨i+1,rfl,by omega,?_⟩,by simp;omega⟩
  unfold rN
  rw [List.range_succ,List.map_append]
  exact m5
 ·have hi8:i=8:=by omega
  subst hi8
  exact h _ _ m3
theorem pI (h:∀ r H',MapE H H' r qo->Q (.map (some r)) H'):ac PP DR #[] Q H:=by
 apply Ad
 unfold Ie iV sV
 exact aZ (MapE.new _) (by decide) fun _ m1=>aZ m1 (by decide) fun _ m2=>aZ m2 (by decide) fun _ m3=>aZ m3 (by decide) fun _ m4=>h _ _ m4
theorem vJ {c:Int} (h:∀ r H',sL H H' r (ov c)->Q (.map r) H'):ac PP Iq #[.int .i64 c] Q H:=by
 apply Eg
 unfold L7 iV sV cS
 refine iv (fun e=>?_) fun n4=>?_
 ·subst e
  exact aZ (MapE.new _) (by decide) fun _ m1=>aZ m1 (by decide) fun _ m2=>aZ m2 (by decide) fun _ m3=>aZ m3 (by decide) fun _ m4=>aZ m4 (by decide) fun _ m5=>aZ m5 (by decide) fun _ m6=>aZ m6 (by decide) fun _ m7=>aZ m7 (by decide) fun _ m8=>aZ m8 (by decide) fun _ m9=>aZ m9 (by decide) fun _ m10=>aZ m10 (by decide) fun _ m11=>aZ m11 (by decide) fun _ m12=>h (some _) _ m12
 refine ⟨fun w H'=>w=[.bool (decide (c=6∨c=7))]∧H'=H,iv (fun e=>⟨by simp [e],rfl⟩) fun n7=>⟨by rw [aX];simp [n7],rfl⟩,?_⟩
 rintro w H1 ⟨rfl,rfl⟩ _
 refine ⟨_,rfl,?_⟩
 rw [af]
 refine ap (fun e=>?_) fun n67=>?_
 ·refine pI fun r H' m=>⟨_,rfl,h (some r) H' ?_⟩
  rcases e with rfl | rfl <;> exact m
 refine iv (fun e=>?_) fun n8=>?_
 ·subst e
  exact cU (MapE.new _) (by decide) fun _ m1=>cU m1 (by decide) fun _ m2=>cU m2 (by decide) fun _ m3=>cU m3 (by decide) fun _ m4=>cU m4 (by decide) fun _ m5=>cU m5 (by decide) fun _ m6=>cU m6 (by decide) fun _ m7=>cU m7 (by decide) fun _ m8=>cU m8 (by decide) fun _ m9=>jd m9 (by decide) fun _ m10=>jd m10 (by decide) fun _ m11=>jd m11 (by decide) fun _ m12=>jd m12 (by decide) fun _ m13=>cU m13 (by decide) fun _ m14=>cU m14 (by decide) fun _ m15=>aZ m15 (by decide) fun _ m16=>aZ m16 (by decide) fun _ m17=>aZ m17 (by decide) fun _ m18=>aZ m18 (by decide) fun _ m19=>aZ m19 (by decide) fun _ m20=>aZ m20 (by decide) fun _ m21=>aZ m21 (by decide) fun _ m22=>h (some _) _ m22
 refine iv (fun e=>?_) fun n9=>?_
 ·subst e
  exact aZ (MapE.new _) (by decide) fun _ m1=>aZ m1 (by decide) fun _ m2=>aZ m2 (by decide) fun _ m3=>h (some _) _ m3
 refine iv (fun e=>?_) fun n10=>?_
 ·subst e
  exact aZ (MapE.new _) (by decide) fun _ m1=>aZ m1 (by decide) fun _ m2=>aZ m2 (by decide) fun _ m3=>aZ m3 (by decide) fun _ m4=>aZ m4 (by decide) fun _ m5=>aZ m5 (by decide) fun _ m6=>aZ m6 (by decide) fun _ m7=>aZ m7 (by decide) fun _ m8=>h (some _) _ m8
 refine iv (fun e=>?_) fun n11=>?_
 ·subst e
  exact aZ (MapE.new _) (by decide) fun _ m1=>aZ m1 (by decide) fun _ m2=>aZ m2 (by decide) fun _ m3=>aZ m3 (by decide) fun _ m4=>h (some _) _ m4
 refine iv (fun e=>?_) fun n12=>?_
 ·subst e
  exact aZ (MapE.new _) (by decide) fun _ m1=>aZ m1 (by decide) fun _ m2=>fF m2 (by decide) fun _ m3=>fF m3 (by decide) fun _ m4=>h (some _) _ m4
 refine iv (fun e=>?_) fun n14=>?_
 ·subst e
  exact tH fun r H' m=>⟨_,rfl,h (some r) H' m⟩
 refine iv (fun e=>?_) fun n17=>?_
 ·subst e
  exact fF (MapE.new _) (by decide) fun _ m1=>fF m1 (by decide) fun _ m2=>h (some _) _ m2
 refine h none _ ⟨?_,Fr.refl _ _⟩
 unfold ov
 rw [if_neg n4,if_neg n67,if_neg n8,if_neg n9,if_neg n10,if_neg n11,if_neg n12,if_neg n14,if_neg n17]
end
theorem ll.func {H:ae}{n r:Nat}{p:PF}{v:Value} (h:ll H n r p v) (hp:p≠.nil):∃ f g hh,v=.func (.func f) g hh:=by
 cases p with
 | fn f=>exact ⟨_,_,_,h⟩
 | clo f g=>obtain ⟨b,h1,_⟩:=h;exact ⟨_,_,_,h1⟩
 | slot f i=>obtain ⟨b,h1,_⟩:=h;exact ⟨_,_,_,h1⟩
 | nil=>exact absurd rfl hp
def GT (s:SP) (v:KV) (k:Int) (x:ByteArray) (r:Int) (ws:List Int):Prop:=∃ n p,d8 (ov k) x=some (n,p)∧p≠.nil∧(ws.length:Int)=n∧(∀ w∈r :: ws,dh s.h w≠0)∧jn v k (dh s.h r)=true∧ir s.h k r=true
section
variable {H:ae}{b:Nat}{F:az}{s:SP}{t:TB}{v:KV}{Q:QT}{r:Int}{a:Option Addr}{l c:Nat}{ws:List Int}
theorem uk {es:List PE}{x:ByteArray}{n:Int}{p:PF} (h:d8 es x=some (n,p)):∃ y,(y,n,p)∈es:=by
 induction es with
 | nil=>cases h
 | cons e es ih =>
  unfold d8 at h
  split at h
  ·have h2:=Option.some.inj h
   exact ⟨e.1,by rw [←h2];simp⟩
  ·obtain ⟨y,hy⟩:=ih h
   exact ⟨y,List.mem_cons_of_mem _ hy⟩
theorem ue {k:Int}{x:ByteArray}{n:Int}{p:PF} (h:d8 (ov k) x=some (n,p)):n<=1000:=by
 obtain ⟨y,hy⟩:=uk h
 have go:∀ {es:List PE},(∀ e∈es,e.2.1<=1000)->(y,n,p)∈es->n<=1000:=fun h hm=>h _ hm
 unfold ov at hy
 split at hy
 ·exact go (by unfold rZ;simp) hy
 split at hy
 ·exact go (by unfold qo;simp) hy
 split at hy
 ·exact go (by unfold se;simp) hy
 split at hy
 ·exact go (by unfold sx;simp) hy
 split at hy
 ·exact go (by unfold nT;simp) hy
 split at hy
 ·exact go (by unfold ot;simp) hy
 split at hy
 ·exact go (by unfold oe;simp) hy
 split at hy
 ·refine go (fun e he=>?_) hy
  unfold rN at he
  simp only [List.mem_cons,List.mem_map,List.mem_range] at he
  rcases he with rfl | rfl | ⟨i,hi,rfl⟩
  ·decide
  ·decide
  ·simp only;omega
 split at hy
 ·exact go (by unfold wm;simp) hy
 ·cases hy
theorem Bk (hK:PK H b F s t) (hv:KAllW s t v){k:Int}{x:ByteArray} (hr:Rd 1 H a l (ag ws))
  (hno:¬ GT s v k x r ws->∀ e H',e=1∨e=170->Fr [] H H'->Q (.tuple #[.int .i64 0,.int .i64 e]) H')
  (h:∀ n p,d8 (ov k) x=some (n,p)->p≠.nil->(ws.length:Int)=n->(∀ w∈r :: ws,dh s.h w≠0)->jn v k (dh s.h r)=true->ir s.h k r=true->∀ H' n0 rr f g hh,Fr [] H H'->ll H' n0 rr p (.func (.func f) g hh)->ac PP f ((g++#[cv b r a l c])++hh) (fun v42 H9=>∃ n43:Int,∃ n44:Int,v42=.tuple #[.int .i64 n43,.int .i64 n44]∧Q (.tuple #[.int .i64 n43,.int .i64 n44]) H9) H') :
  ac PP sK #[.pointer (some ⟨b,0,none⟩),.int .i64 k,.string x,.int .i64 r,.slice a l c] Q H:=by
 have hsW:aI PP 30=some (1,8,some (.int .i64 0)):=by kernel_rfl
 apply D5
 unfold LS A0 iV wW pV sV lV cS;dsimp only [shH]
 refine cG hK fun sb F1 _ _ _ _ _=>⟨_,rfl,?_⟩
 simp only [Option.isNone_some,cond_false]
 have hwl:ws.length=l:=by have:=hr.1;simpa [ag] using this
 have nilcase:∀ H1 (n:Int),Fr [] H H1->Wr (H1.push (.cells #[.int .i64 0,.nilFunc] 133)) ⟨H1.size,0,none⟩∧Wr (av (H1.push (.cells #[.int .i64 0,.nilFunc] 133)) ⟨H1.size,0,none⟩ (.int .i64 n)) ((⟨H1.size,0,none⟩:Addr).add 1) ∧
   (av (av (H1.push (.cells #[.int .i64 0,.nilFunc] 133)) ⟨H1.size,0,none⟩ (.int .i64 n)) ((⟨H1.size,0,none⟩:Addr).add 1) .nilFunc)[H1.size]?=some (.cells #[.int .i64 n,.nilFunc] 133 (0,0)) ∧
   Fr [] H (av (av (H1.push (.cells #[.int .i64 0,.nilFunc] 133)) ⟨H1.size,0,none⟩ (.int .i64 n)) ((⟨H1.size,0,none⟩:Addr).add 1) .nilFunc):=fun H1 n f1=>by
  have q0:=aV.new H1 #[.int .i64 0,.nilFunc] 133
  refine ⟨q0.wr (by decide),(q0.set 0 (.int .i64 n)).wr (o:=1) (by simp),?_,f1.trans ⟨by rw [bt,bt];simp,fun y hy _=>?_⟩⟩
  ·show (av (av (H1.push (.cells #[.int .i64 0,.nilFunc] 133)) ⟨H1.size,0,none⟩ (.int .i64 n)) ⟨H1.size,1,none⟩ .nilFunc)[H1.size]?=_
   rw [aq,aq]
   simp
  ·rw [ce (by show y≠H1.size;omega),ce (by show y≠H1.size;omega)]
   exact (Fr.push [] H1 _).2 y hy (by simp)
 refine vJ fun rm H1 m1=>⟨_,rfl,uj m1 (fun e=>?_) fun k2 q val rr e hq=>?_⟩
 ·obtain ⟨w1,w2,_,w4⟩:=nilcase H1 0 m1.f
  exact ⟨0,.inr ⟨false,rfl,w1,w2,hno (fun ⟨n,p,g1,_⟩=>by rw [e] at g1;cases g1) 1 _ (.inl rfl) w4⟩⟩
 by_cases hp:q=.nil
 ·subst hp
  have hq:val=.nilFunc:=hq
  subst hq
  obtain ⟨w1,w2,w3,w4⟩:=nilcase H1 k2 m1.f
  refine ⟨k2,.inr ⟨true,rfl,w1,w2,.inr ⟨?_,hno (fun ⟨n,p,g1,g2,_⟩=>by rw [e] at g1;cases g1;exact g2 rfl) 1 _ (.inl rfl) w4⟩⟩⟩
  show aa _ ⟨H1.size,0+1,none⟩=_
  simp only [aa,w3]
  rfl
 obtain ⟨f,g,hh,rfl⟩:=hq.func hp
 have f01:=m1.f
 have he:=e
 generalize hnn:k2=n at *
 refine ⟨n,.inl ⟨f,g,hh,true,rfl,?_⟩⟩
 have q0:=aV.new H1 #[.int .i64 0,.nilFunc] 133
 refine ⟨q0.wr (by decide),(q0.set 0 (.int .i64 n)).wr (o:=1) (by simp),?_⟩
 have q2:aV (av (av (H1.push (.cells #[.int .i64 0,.nilFunc] 133)) ⟨H1.size,0,none⟩ (.int .i64 n)) ((⟨H1.size,0,none⟩:Addr).add 1) (.func (.func f) g hh)) H1.size #[.int .i64 n,.func (.func f) g hh]:=(q0.set 0 (.int .i64 n)).set 1 (.func (.func f) g hh)
 have f12:Fr [] H1 (av (av (H1.push (.cells #[.int .i64 0,.nilFunc] 133)) ⟨H1.size,0,none⟩ (.int .i64 n)) ((⟨H1.size,0,none⟩:Addr).add 1) (.func (.func f) g hh)):=by
  refine ⟨by rw [bt,bt];simp,fun y hy _=>?_⟩
  rw [ce (by show y≠H1.size;omega),ce (by show y≠H1.size;omega)]
  exact (Fr.push [] H1 _).2 y hy (by simp)
 generalize av (av (H1.push (.cells #[.int .i64 0,.nilFunc] 133)) ⟨H1.size,0,none⟩ (.int .i64 n)) ((⟨H1.size,0,none⟩:Addr).add 1) (.func (.func f) g hh)=H2 at q2 f12 ⊢
 simp only [Bool.not_true,cond_false]
 have f02:=f01.trans f12
 refine .inl ⟨f,g,hh,q2.cell 1,n,q2.cell 0,?_⟩
 rw [aY,af]
 refine ap (fun hn0=>hno (fun ⟨n',p,g1,g2,g3,_⟩=>by rw [he] at g1;cases g1;exact hn0 (by omega)) 1 _ (.inl rfl) f02) fun hn0=>?_
 have hn:(l:Int)=n:=Classical.byContradiction hn0
 have hl:l<=1000:=by have:=ue he;omega
 have p0:=aV.new H2 #[.pointer none,.int .i64 0,.slice none 0 0] 138
 have p1:=p0.set 0 (.pointer (some ⟨b,0,none⟩))
 have p2:=p1.set 1 (.int .i64 r)
 have p3:=p2.set 2 (.slice a l c)
 refine ⟨p0.wr (by decide),p1.wr (o:=1) (by simp),p2.wr (o:=2) (by simp),?_⟩
 have p3':aV (av (av (av (H2.push (.cells #[.pointer none,.int .i64 0,.slice none 0 0] 138)) ⟨H2.size,0,none⟩ (.pointer (some ⟨b,0,none⟩))) ((⟨H2.size,0,none⟩:Addr).add 1) (.int .i64 r)) ((⟨H2.size,0,none⟩:Addr).add 2) (.slice a l c)) H2.size (cc b r a l c):=p3
 have f23:Fr [] H2 (av (av (av (H2.push (.cells #[.pointer none,.int .i64 0,.slice none 0 0] 138)) ⟨H2.size,0,none⟩ (.pointer (some ⟨b,0,none⟩))) ((⟨H2.size,0,none⟩:Addr).add 1) (.int .i64 r)) ((⟨H2.size,0,none⟩:Addr).add 2) (.slice a l c)):=by
  refine ⟨by rw [bt,bt,bt];simp,fun y hy _=>?_⟩
  rw [ce (by show y≠H2.size;omega),ce (by show y≠H2.size;omega),ce (by show y≠H2.size;omega)]
  exact (Fr.push [] H2 _).2 y hy (by simp)
 have s23:(av (av (av (H2.push (.cells #[.pointer none,.int .i64 0,.slice none 0 0] 138)) ⟨H2.size,0,none⟩ (.pointer (some ⟨b,0,none⟩))) ((⟨H2.size,0,none⟩:Addr).add 1) (.int .i64 r)) ((⟨H2.size,0,none⟩:Addr).add 2) (.slice a l c)).size=H2.size+1:=by rw [bt,bt,bt];simp
 generalize av (av (av (H2.push (.cells #[.pointer none,.int .i64 0,.slice none 0 0] 138)) ⟨H2.size,0,none⟩ (.pointer (some ⟨b,0,none⟩))) ((⟨H2.size,0,none⟩:Addr).add 1) (.int .i64 r)) ((⟨H2.size,0,none⟩:Addr).add 2) (.slice a l c)=H3 at p3' f23 s23 ⊢
 clear p0 p1 p2 p3 q0
 have q3:=q2.fr f23 (by simp)
 have f03:=f02.trans f23
 have fP:=Fr.push [] H3 (.cells #[.int .i64 r] 26)
 have ho:bK 1 (H3.push (.cells #[.int .i64 r] 26)) (some ⟨H3.size,0,none⟩) 1 1 (ag [r]) [H3.size]:=⟨by simp [ag],Nat.le_refl _,.inr ⟨_,_,rfl,rfl,aV.new _ _ _,by simp,by simp [ag]⟩⟩
 refine dn hsW rfl (by kernel_rfl) ho (Rd.nilF hr (f03.trans fP)) (fM (l:=ws)) (by omega) (by decide) (by decide) fun a4 c4 F4 H4 o4 u4 _=>⟨_,_,_,rfl,?_⟩
 have f34:Fr [] H3 H4:=⟨Nat.le_trans fP.1 u4.1.1,fun y hy _=>by rw [u4.1.2 y (Nat.lt_of_lt_of_le hy fP.1) (by simp;omega),fP.2 y hy (by simp)]⟩
 have f04:=f03.trans f34
 have p4:=p3'.fr f34 (by simp)
 have q4:=q3.fr f34 (by simp)
 have e4:ag [r]++ag ws=ag (r :: ws):=rfl
 rw [e4] at o4
 have fr14:Fr [] H1 H4:=(f12.trans f23).trans f34
 have hq4:=hq
 refine ⟨fun w H'=>∃ i:Nat,w=[.int .i64 i]∧i<=1+l∧Fr [] H4 H'∧∀ j,j<i->dh s.h ((r :: ws).getD j 0)≠0,fun w _=>match w with
  | [.int _ i]=>((1+l:Nat)-i:Int).toNat
  | _=>0,⟨0,rfl,Nat.zero_le _,Fr.refl _ _,fun j hj=>absurd hj (Nat.not_lt_zero j)⟩,?_⟩
 rintro w H5 ⟨i,rfl,hi,f5,hdone⟩ _
 have p5:=p4.fr f5 (by simp)
 have q5:=q4.fr f5 (by simp)
 have f05:=f04.trans f5
 refine ⟨_,rfl,cY (fun hlt=>?_) fun hge=>?_⟩
 ·obtain ⟨q,hq1,hq2,hq3⟩:=(Rd.nilF o4.rd f5).int (i:=(i:Int)) (by omega) (by omega)
  simp only [Int.toNat_natCast] at hq2
  have e1:IntKind.wrap .i64 ((i:Int)+1)=((i+1:Nat):Int):=by rw [ah (by omega) (by omega)];omega
  refine ⟨⟨by omega,hlt⟩,q,hq1,_,by rw [Int.toNat_natCast,Nat.mul_one];exact hq2,_,p5.cell 0,_,p5.cell 1,_,_,_,p5.cell 2,kr (hK.nil f05) hv fun H6 f6=>⟨_,rfl,?_⟩⟩
  rw [aX,af]
  refine ap (fun h0=>hno (fun ⟨n',p,_,_,_,g4,_⟩=>by
   have hil:i<(r :: ws).length:=by simp only [List.length_cons];omega
   have hmem:(r :: ws).getD i 0∈r :: ws:=by
    rw [List.getD_eq_getElem?_getD,List.getElem?_eq_getElem hil]
    exact List.getElem_mem hil
   exact g4 _ hmem h0) 1 _ (.inl rfl) (f05.trans f6)) fun h0=>?_
  rw [e1]
  refine ⟨⟨i+1,rfl,by omega,f5.trans f6,fun j hj=>?_⟩,by simp;omega⟩
  by_cases hji:j=i
  ·rw [hji];exact h0
  ·exact hdone j (by omega)
 ·refine ⟨_,p5.cell 0,_,p5.cell 1,_,_,_,p5.cell 2,ss (hK.nil f05) hv fun H6 f6=>⟨_,rfl,?_⟩⟩
  cases hkind:jn v k (dh s.h r) with
  | false=>rw [Bool.not_false,cond_true];exact hno (fun ⟨_,_,_,_,_,_,g5,_⟩=>by rw [hkind] at g5;cases g5) 170 _ (.inr rfl) (f05.trans f6)
  | true =>
  rw [Bool.not_true,cond_false]
  have p6:=p5.fr f6 (by simp)
  have f06:=f05.trans f6
  refine ⟨_,p6.cell 0,_,p6.cell 1,_,_,_,p6.cell 2,wo (hK.nil f06) fun H7 f7=>⟨_,rfl,?_⟩⟩
  cases hsh:ir s.h k r with
  | false=>rw [Bool.not_false,cond_true];exact hno (fun ⟨_,_,_,_,_,_,_,g6⟩=>by rw [hsh] at g6;cases g6) 170 _ (.inr rfl) (f06.trans f7)
  | true =>
  rw [Bool.not_true,cond_false]
  have hof:∀ w∈r :: ws,dh s.h w≠0:=fun w hw=>by
   obtain ⟨j,hj,rfl⟩:=List.mem_iff_getElem.1 hw
   have:=hdone j (by simp only [List.length_cons] at hj;omega)
   rw [List.getD_eq_getElem?_getD,List.getElem?_eq_getElem hj] at this
   exact this
  have p7:=p6.fr f7 (by simp)
  have q7:=(q5.fr f6 (by simp)).fr f7 (by simp)
  have f07:=f06.trans f7
  have fr17:Fr [] H1 H7:=((fr14.trans f5).trans f6).trans f7
  exact .inl ⟨f,g,hh,q7.cell 1,_,p7.cell 0,_,p7.cell 1,_,_,_,p7.cell 2,h n q he hp (by omega) hof hkind hsh H7 H.size rr f g hh f07 (hq.fr fr17 (by simp))⟩
theorem Lu (hK:PK H b F s t) (hv:KAllW s t v){k:Int}{x:ByteArray} (hr:Rd 1 H a l (ag ws)) (hl:l<=1000){n:Int}{p:PF} (he:d8 (ov k) x=some (n,p)) (hp:p≠.nil) (hn:(l:Int)=n)
  (hof:∀ w∈r :: ws,dh s.h w≠0) (hkind:jn v k (dh s.h r)=true) (hsh:ir s.h k r=true)
  (h:∀ H' n0 rr f g hh,Fr [] H H'->ll H' n0 rr p (.func (.func f) g hh)->ac PP f ((g++#[cv b r a l c])++hh) (fun v42 H9=>∃ n43:Int,∃ n44:Int,v42=.tuple #[.int .i64 n43,.int .i64 n44]∧Q (.tuple #[.int .i64 n43,.int .i64 n44]) H9) H') :
  ac PP sK #[.pointer (some ⟨b,0,none⟩),.int .i64 k,.string x,.int .i64 r,.slice a l c] Q H:=by
 have hwl:ws.length=l:=by have:=hr.1;simpa [ag] using this
 refine Bk hK hv hr (fun hf=>absurd ⟨n,p,he,hp,by omega,hof,hkind,hsh⟩ hf) fun n' p' he' _ _ _ _ _=>?_
 rw [he] at he'
 cases he'
 exact h
end
end Go.Proofs.YtgjfejoohojokaaGreatDoor
