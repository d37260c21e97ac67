/- Lemmas for RPU: functions of the program as predicate transformers, and their contracts. -/
import Derived.Test.YtgjfejoohojokaaGreatDoorZU2
import Derived.Test.YtgjfejoohojokaaGreatDoorProg
import Derived.Shelf.Strconv.Itoa3
import Derived.Shelf.Strings.Repeat
import Derived.Ground.NamesProg
import Derived.Calls
import Derived.Shelf.Strings.Builder1
set_option linter.all false
set_option maxRecDepth 100000
set_option maxHeartbeats 4000000
namespace Go.Proofs.YtgjfejoohojokaaGreatDoor
open Kw
noncomputable instance memDec (s:ByteArray) (l:List ByteArray):Decidable (s∈l):=Classical.propDecidable _
theorem kT {es:List (Key × Value)}{k:Key}:dH es k=none↔k∉es.map (·.1):=by
 induction es with
 | nil=>simp [dH]
 | cons p l ih =>
  unfold dH;by_cases h:k=p.1
  ·simp [h]
  ·rw [Uq h,ih];simp [h]
theorem y8 {es:List (Key × Value)} (hnd:(es.map (·.1)).Nodup) (k k':Key):dH (qm es k) k'=if k'=k then none else dH es k':=by
 induction es with
 | nil=>simp [qm,dH]
 | cons p l ih =>
  rw [U8,Vl] at hnd;unfold qm;by_cases h:k=p.1
  ·rw [Ur h];by_cases h2:k'=k
   ·rw [Ur h2];rw [kT,h2,h];exact hnd.1
   ·rw [Uq h2]
    have:k'≠p.1:=fun e=>h2 (e.trans h.symm)
    conv=>rhs;unfold dH
    rw [Uq this]
  ·rw [Uq h];unfold dH;by_cases h3:k'=p.1
   ·rw [Ur h3,Ur h3,Uq (fun e=>h (e.symm.trans h3))]
   ·rw [Uq h3,Uq h3];exact ih hnd.2
theorem AK (es:List (Key × Value)) (k:Key):(qm es k).Sublist es:=by
 induction es with
 | nil=>exact WV _
 | cons p l ih =>
  unfold qm;split
  ·exact List.sublist_cons_self _ _
  ·exact ih.cons_cons _
def qp (H:ag) (b:Nat) (F:aR) (t:TB):Prop:=∃ a l c F' m es,F=b :: m :: F'∧b∉F'∧b≠m∧m∉F'∧bH H b #[ac t.most,.slice a l c,.map (some m)]∧cZ 1 H a l c (bY t.texts) F'∧dJ H m es ∧
 (∀ p∈es,p.1.of .string)∧(∀ s,dH es (.str s)=(dj t.texts s).map fun n:Nat=>ac n)∧WFT t∧(es.map (·.1)).Nodup
section
variable {H:ag}{b:Nat}{F F':aR}{t:TB}{Q:QT}
theorem qp.wf (h:qp H b F t):WFT t:=by obtain ⟨_,_,_,_,_,_,_,_,_,_,_,_,_,_,_,h,_⟩:=h;exact h
theorem qp.lt (h:qp H b F t):∀ x∈F,x<H.size:=by
 obtain ⟨a,l,c,F',m,es,rfl,h1,h2,h3,hB,hO,hM,_⟩:=h;intro x hx;rcases Us.1 hx with rfl | hx
 ·exact hB.lt
 ·rcases Us.1 hx with rfl | hx
  ·exact hM.lt
  ·exact hO.lt x hx
theorem qp.fr {H':ag}{G:aR} (h:qp H b F t) (hf:Fr G H H') (hd:dB F G):qp H' b F t:=by
 obtain ⟨a,l,c,F',m,es,rfl,h1,h2,h3,hB,hO,hM,h4⟩:=h;exact ⟨a,l,c,F',m,es,rfl,h1,h2,h3,hB.fr hf (hd b (by simp)),hO.fr hf fun x hx=>hd x (by simp [hx]),hM.fr hf (hd m (by simp)),h4⟩
theorem oM (hT:qp H b F t) (h:Q (.bool false) H):ae PP 90 #[Kj b] Q H:=by
 obtain ⟨a,l,c,F',m,es,rfl,h1,h2,h3,hB,_⟩:=hT;have nq:aq H ⟨b,2,none⟩=some (.map (some m)):=hB.cell 2;apply GM;dsimp only [bk,ao,mI,aN,fi];simp only [Uw,Ut];exact ⟨_,rfl,_,nq,h⟩
theorem Di {n:Int} (cp:¬ (0<=n∧n<=4096)->Q (.tuple #[.pointer none,ac 1]) H) (h:(0<=n∧n<=4096)->∀ b F H',qp H' b F ⟨n,[]⟩->Fr [] H H'->(∀ x∈F,H.size<=x)->Q (.tuple #[Kj b,ac 0]) H'):ae PP 70 #[ac n] Q H:=by
 apply FQ;dsimp only [aK,ao,cS,bv,ac,au,ga,am,aJ,ax,bU];simp only [ah];refine ft (fun h1=>cp (by omega)) fun h1=>ft (fun h2=>cp (by omega)) fun h2=>?_;refine h (by omega) _ _ _ ⟨none,0,0,[],H.size,[],rfl,by simp,by simp,by simp,bH.new _ _ _,cZ.nil 1 _,dJ.fr (H:=H.push (.map #[] 0)) (G:=[]) (dJ.new H) (Fr.push [] _ _) (by simp),by simp,fun s=>by simp [dH,dj],?_,by simp⟩ ((Fr.push [] H _).more) (by simp);exact ⟨by simp;omega,by simp;omega,by simp;omega,by simp,by simp⟩
theorem uc (hT:qp H b F t):∃ a l c m es,aq H ⟨b,0,none⟩=some (ac t.most)∧aq H ⟨b,1,none⟩=some (.slice a l c)∧aq H ⟨b,2,none⟩=some (.map (some m))∧dJ H m es∧(∀ p∈es,p.1.of .string)∧(∀ s,dH es (.str s)=(dj t.texts s).map fun n:Nat=>ac n)∧Rd 1 H a l (bY t.texts)∧l=t.texts.length:=by
 obtain ⟨a,l,c,F',m,es,rfl,h1,h2,h3,hB,hO,hM,h4,h5,h6⟩:=hT;exact ⟨a,l,c,m,es,hB.cell 0,hB.cell 1,hB.cell 2,hM,h4,h5,hO.rd,by have:=hO.len;simpa [bY] using this.symm⟩
theorem zf (hT:qp H b F t) (h:Q (ac (t.texts.length:Int)) H):ae PP 34 #[Kj b] Q H:=by
 obtain ⟨a,l,c,m,es,JU,na,nq,hM,ho,hg,_,hl⟩:=uc hT;apply FF;dsimp only [bJ,ao,aH,ac,aN,am];refine oM hT ⟨_,rfl,?_⟩;simp only [Ut];refine ⟨_,rfl,_,_,_,na,?_⟩;rw [hl];exact h
theorem uW (hT:qp H b F t){n:Int} (h:Q (ug t n) H):ae PP 337 #[Kj b,ac n] Q H:=by
 obtain ⟨a,l,c,m,es,JU,na,nq,hM,ho,hg,N1,hl⟩:=uc hT;apply DL;dsimp only [bJ,ao,bv,aH,jT,bq,ac,bu,aN,am,aZ,ax,bU];unfold ug at h;refine oM hT ⟨_,rfl,?_⟩;simp only [Ut,ah];refine ft (fun h2=>?_) fun h2=>?_
 ·rw [dif_neg (by omega)] at h;exact h
 refine ⟨_,rfl,_,_,_,na,ft (fun h3=>?_) fun h3=>?_⟩
 ·rw [dif_neg (by omega)] at h;exact h
 ·rw [dif_pos (by omega)] at h;obtain ⟨p,gw,rfl,aj⟩:=N1.str (i:=n) (by omega) (by omega);exact ⟨_,rfl,_,_,_,na,⟨by omega,by omega⟩,_,rfl,_,by rw [UC];exact aj,h⟩
theorem sg (hT:qp H b F t){s:ByteArray} (h:∀ H' F',qp H' b F' (t.add s).2->Up F H F' H'->Q (.tuple #[ac (t.add s).1.1,ac (t.add s).1.2]) H'):ae PP 145 #[Kj b,.string s] Q H:=by
 have K0:=hT;have JJ:=hT.lt;have eh:=fO hT.wf s;have Ll:eI PP 141=some (.string,some (ac 0)):=by kernel_rfl
 have ic:bj PP 61=some (1,16,some (.string (⟨#[]⟩:ByteArray))):=by kernel_rfl
 obtain ⟨a,l,c,F',m,es,rfl,h1,h2,h3,hB,hO,hM,ho,hg,hw,hnd⟩:=hT;have JU:aq H ⟨b,0,none⟩=some (ac t.most):=hB.cell 0;have na:aq H ⟨b,1,none⟩=some (.slice a l c):=hB.cell 1;have nq:aq H ⟨b,2,none⟩=some (.map (some m)):=hB.cell 2;have hl:l=t.texts.length:=by have:=hO.len;simpa [bY] using this.symm
 have w6:=hw.m1;have ai:=hw.len;apply BY;dsimp only [aK,aF,bJ,ao,cS,bv,aB,aH,mI,ac,au,ga,aN,am,aJ,cC,cA,aZ,bP,wN];refine oM K0 ⟨_,rfl,?_⟩;simp only [Ut,ah];unfold TB.add at h eh;refine ft (fun g1=>?_) fun g1=>ft (fun g2=>?_) fun g2=>?_
 ·rw [Ur (by unfold cN;omega)] at h;exact h H _ K0 (Up.refl _ _)
 ·rw [Ur (by unfold cN;omega)] at h;exact h H _ K0 (Up.refl _ _)
 have PJ:¬ ¬ cN s:=by unfold cN;omega
 rw [Uq PJ] at h eh;refine ⟨_,rfl,_,nq,?_⟩;refine lx (k:=.str s) Ll trivial ho hM ?_;rw [hg s];cases hn:dj t.texts s with
 | some n =>
  rw [hn] at h;refine ⟨_,_,rfl,?_⟩;exact h H _ K0 (Up.refl _ _)
 | none =>
  rw [hn] at h eh;simp only at h eh;refine ⟨_,_,rfl,?_⟩;simp only [WC,VU,Ut];refine ⟨_,rfl,_,_,_,na,_,rfl,_,JU,ft (fun g3=>?_) fun g3=>?_⟩
  ·rw [Ur (by omega)] at h;exact h H _ K0 (Up.refl _ _)
  ·rw [Uq (by omega)] at h eh;refine ⟨_,rfl,_,_,_,na,?_⟩;refine dl ic rfl (by kernel_rfl) hO rfl (by simp [ge]) (by omega) (by decide) (by decide) fun a' c' F3 H2 k1 k2 k3=>⟨_,_,_,rfl,?_⟩;have Jl:b∉F3:=fun hx=>by
    rcases k2.2 b hx with h4 | h4
    ·exact h1 h4
    ·have:=JJ b (by simp);omega
   have N2:m∉F3:=fun hx=>by
    rcases k2.2 m hx with h4 | h4
    ·exact h3 h4
    ·have:=JJ m (by simp);omega
   have l7:=hB.fr k2.1 h1;have RN:=l7.set 1 (.slice a' (l+1) c');have S2:=(hM.fr k2.1 h3).of_eq (H':=bc H2 ⟨b,1,none⟩ (.slice a' (l+1) c')) (cK (V5 h2));refine ⟨_,rfl,l7.wr (by simp),_,rfl,_,RN.cell 2,?_⟩;refine iQ (k:=.str s) Ll trivial ho S2 fun H4 Jg lq=>?_;rw [hl];have nf:Fr [b] H2 (bc H2 ⟨b,1,none⟩ (.slice a' (l+1) c')):=Fr.set (by simp);refine h H4 (b :: m :: F3) ⟨a',l+1,c',F3,m,_,rfl,Jl,h2,N2,RN.fr lq (by simpa using h2),?_,Jg,?_,fun x=>?_,eh,?_⟩ ⟨?_,fun x hx=>?_⟩
   ·have h5:=(k1.fr nf (fun x hx hn=>Jl (by simp only [Uu] at hn;rw [←hn];exact hx))).fr lq (fun x hx hn=>N2 (by simp only [Uu] at hn;rw [←hn];exact hx));simp only;rw [ii];exact h5
   ·intro p hp
    have:∀ (es:List (Key × Value)),(∀ p∈es,p.1.of .string)->∀ p∈nJ es (.str s) (ac (t.texts.length:Int)),p.1.of .string:=by
     intro es
     induction es with
     | nil=>intro _ p hp;simp [nJ] at hp;subst hp;trivial
     | cons q es ih =>
      intro Qo p hp;unfold nJ at hp;split at hp
      ·rcases Us.1 hp with rfl | hp
       ·trivial
       ·exact Qo p (by simp [hp])
      ·rcases Us.1 hp with rfl | hp
       ·exact Qo _ (by simp)
       ·exact ih (fun p hp=>Qo p (by simp [hp])) p hp
    rw [hl] at hp;exact this es ho p hp
   ·rw [x7,hg x,sx];by_cases hx:x=s
    ·subst hx;rw [hn];simp [hl]
    ·rw [Uq (by simpa using hx)];cases dj t.texts x with
     | some n=>rfl
     | none=>simp only;rw [Uq (fun e:s=x=>hx e.symm)]
   ·have RP:dH es (.str s)=none:=by rw [hg s,hn];rfl
    rw [kH (fD.2 RP),Vf,VI];refine ⟨hnd,by simp,fun x hx y hy S3=>?_⟩;simp only [U8,VP,Uu] at hy;subst hy;subst S3;exact (kT.1 RP) hx
   ·exact ((k2.1.mono fun x hx=>by simp [hx]).step (by simp)).trans (lq.mono fun x hx=>by simp only [Uu] at hx;simp [hx])
   ·rcases Us.1 hx with rfl | hx
    ·exact .inl (by simp)
    ·rcases Us.1 hx with rfl | hx
     ·exact .inl (by simp)
     ·exact (k2.2 x hx).imp (fun h4=>by simp [h4]) id
theorem vG {l:List ByteArray} (hnd:l.Nodup) (n:Nat) (s:ByteArray):dj (l.take n) s=if s∈l.drop n then none else dj l s:=by
 induction l generalizing n with
 | nil=>simp [dj]
 | cons x l ih =>
  rw [Vl] at hnd;cases n with
  | zero =>
   simp only [List.take_zero,List.drop_zero,dj];by_cases h:s∈x :: l
   ·rw [Ur h]
   ·rw [Uq h];have h1:x≠s:=fun e=>h (by simp [e]);have h2:dj l s=none:=li.2 fun hm=>h (by simp [hm]);rw [Uq h1,h2];rfl
  | succ n =>
   simp only [List.take_succ_cons,List.drop_succ_cons,dj];by_cases h1:x=s
   ·subst h1
    have:x∉l.drop n:=fun hm=>hnd.1 (List.mem_of_mem_drop hm);simp [this]
   ·rw [Uq h1,Uq h1,ih hnd.2];split <;> rfl
theorem As (hT:qp H b F t){n:Int} (h:∀ H',qp H' b F (TB.back t n).2->Fr F H H'->Q (ac (TB.back t n).1) H'):ae PP 163 #[Kj b,ac n] Q H:=by
 have K0:=hT;have JJ:=hT.lt;have Ll:eI PP 141=some (.string,some (ac 0)):=by kernel_rfl
 obtain ⟨a,l,c,F',m,es,rfl,h1,h2,h3,hB,hO,hM,ho,hg,hw,hnd⟩:=hT;have na:aq H ⟨b,1,none⟩=some (.slice a l c):=hB.cell 1;have hl:l=t.texts.length:=by have:=hO.len;simpa [bY] using this.symm
 have w6:=hw.m1;have ai:=hw.len;have JK:=hO.2.1;apply DN;dsimp only [mH,bJ,ao,cS,bv,aH,mI,jT,bq,ac,bu,cX,au,ck,ga,aN,am,aZ,bP,bd];unfold TB.back at h;refine oM K0 ⟨_,rfl,?_⟩;simp only [Ut,ah];refine aP (fun g1=>?_) fun g1=>?_
 ·rw [Ur (.inl g1)] at h;exact h H K0 (Fr.refl _ _)
 refine ⟨_,rfl,_,_,_,by rw [aC];exact na,aP (fun g2=>?_) fun g2=>?_⟩
 ·rw [Ur (by omega)] at h;exact h H K0 (Fr.refl _ _)
 rw [Uq (by omega)] at h;have e1:IntKind.wrap .i64 ((l:Int)-n)=(l:Int)-n:=az (by omega) (by omega);refine ⟨_,rfl,_,_,_,by rw [aC];exact na,?_⟩;rw [e1];refine ⟨fun w H'=>∃(i:Nat) (es':List (Key × Value)),w=[ac i]∧(i:Int)<=(l:Int)-n∧Fr [m] H H'∧dJ H' m es'∧es'.Sublist es∧∀ s,dH es' (.str s)=if s∈(t.texts.drop n.toNat).take i then none else dH es (.str s),fun w _=>match w with
  | [.int _ i]=>((l:Int)-n-i).toNat
  | _=>0,⟨0,es,rfl,by omega,Fr.refl _ _,hM,WV _,by simp⟩,?_⟩
 rintro w H1 ⟨i,es',rfl,hi,hf,MF,ap,MY⟩ _;have l8:=hB.fr hf (by simpa using h2);have Ln:=hO.fr hf (fun x hx hm=>h3 (by simp only [Uu] at hm;rw [←hm];exact hx));refine ⟨_,rfl,aP (fun g3=>?_) fun g3=>?_⟩
 ·have e2:IntKind.wrap .i64 (n+(i:Int))=n+i:=az (by omega) (by omega);have e3:IntKind.wrap .i64 ((i:Int)+1)=((i+1:Nat):Int):=by rw [az (by omega) (by omega)];omega
  rw [e2,e3];obtain ⟨p,gw,rfl,aj⟩:=Ln.rd.str (i:=n+(i:Int)) (by omega) (by omega);refine ⟨_,rfl,_,by rw [aC];exact l8.cell 2,_,rfl,_,_,_,by rw [aC];exact l8.cell 1,⟨by omega,by omega⟩,_,rfl,_,by rw [UC];exact aj,?_⟩;have Qp:(es'.map (·.1)).Nodup:=hnd.sublist (ap.map _);refine wJ (k:=.str t.texts[(n+(i:Int)).toNat]) Ll trivial (fun p hp=>ho p (ap.subset hp)) MF fun H2 Do bw=>⟨trivial,⟨i+1,_,rfl,by omega,hf.trans bw,Do,(AK _ _).trans ap,fun s=>?_⟩,by simp;omega⟩;have Lz:i<(t.texts.drop n.toNat).length:=by rw [Wb];omega
  have ix:(t.texts.drop n.toNat).take (i+1)=(t.texts.drop n.toNat).take i++[t.texts[(n+(i:Int)).toNat]]:=by
   rw [Wx Lz,List.getElem_drop]
   congr 3;omega
  rw [y8 Qp,MY,ix];by_cases hs:s=t.texts[(n+(i:Int)).toNat]
  ·rw [Ur (by rw [hs]),Ur (by rw [hs];simp)]
  ·rw [Uq (by simpa using hs)];simp only [Uz,Uu,hs,U5]
 ·have JA:(i:Int)=(l:Int)-n:=by omega
  have ix:(t.texts.drop n.toNat).take i=t.texts.drop n.toNat:=UY (by rw [Wb];omega);rw [ix] at MY;refine ⟨_,rfl,_,_,_,by rw [aC];exact l8.cell 1,⟨by omega,by omega⟩,_,rfl,by rw [aC];exact l8.wr (by simp),?_⟩;rw [aC];have nf:Fr [b] H1 (bc H1 ⟨b,1,none⟩ (.slice a n.toNat c)):=Fr.set (by simp);refine h _ ⟨a,n.toNat,c,F',m,es',rfl,h1,h2,h3,l8.set 1 _,?_,MF.fr nf (by simpa using V5 h2),fun p hp=>ho p (ap.subset hp),fun s=>?_,?_,hnd.sublist (ap.map _)⟩ ((hf.mono fun x hx=>by simp only [Uu] at hx;simp [hx]).trans (nf.mono fun x hx=>by simp only [Uu] at hx;simp [hx]))
  ·have h4:=Ln.fr nf (fun x hx hm=>h1 (by simp only [Uu] at hm;rw [←hm];exact hx));refine ⟨by simp [bY];omega,by omega,?_⟩;rcases h4.2.2 with ⟨h6,h7,h8⟩ | ⟨b',cs,h6,h7,h8,h9,dc⟩
   ·exact .inl ⟨h6,h7,h8⟩
   ·refine .inr ⟨b',cs,h6,h7,h8,h9,?_⟩;have nb:(cs.toList.take (l*1)).take (n.toNat*1)=(bY t.texts).take (n.toNat*1):=by rw [dc]
    rw [WJ] at nb;have k9:min (n.toNat*1) (l*1)=n.toNat*1:=by omega
    rw [k9] at nb;rw [nb];simp [bY,List.map_take]
  ·rw [MY s,vG hw.nodup,hg s];split <;> rfl
  ·exact { hw with len:=by simp;omega,nodup:=hw.nodup.sublist (List.take_sublist _ _),good:=fun s hs=>hw.good s (V0 hs) }
end
section
variable {Q:QT}{H:ag}
variable {a b c d A B D P:Option Addr}{i j k m n x y z I J K M N:Int}{l o r s u v L O R S U V:Nat}{t w T W:ByteArray}{e E g:Bool}{q:Option Nat}{p X Y Z:Value}{F G:Addr}
theorem HX (h:ao (fi a) (Q (am none) H) (aN a fun a=>aE H a fun a=>Q (am a) H)):ae PP 7 #[.pointer a] Q H :=
 okF Tryz.func7 rfl h
theorem FX (h:jl 69 #[ac i,ac j] H fun a b c=>ax (am none) fun d=>ao (b != 0) (Q (bU #[d,ac b]) c) (jl 70 #[ac 4096] c fun b c e=>ao (c != 0) (Q (bU #[d,ac c]) e) (ax (ac 0) fun c=>ax (am a) fun a=>ax (aJ e #[a,am b] 65) fun b=>dU 71 #[] (aJ b #[ac 5,c,ac 6,c,ac 7,c] 120) fun _ f _ g=>jO [au (some (aK b.size)) 3 3,c] g fun b g i j k l m n=>ax (some (aK j.size)) fun o=>ao (bv n (f:Int)) (cC (Builtin.append_ #[121,121] 121 #[au k l m,au o 1 1]) (aJ j #[ac 12,ac 7] 120) fun a c d e=>ck b g [au a c d,ac (bd (n+1))] e i j) (cC (Builtin.append_ #[121,121] 121 #[au k l m,au o 3 3]) (aJ j #[ac 11,c,ac 11,ac 8,ac 11,ac 14] 120) fun b f _ g=>cX [c] g fun g i j k l=>ao (bv l (f:Int)) (bu l f b fun b=>aB k (bq b l 2) fun e=>aB k ((bq b l 2).add 1) fun b=>ax (aK k.size) fun f=>bP (aJ k #[c,c] 120) f (ac e) fun e=>ax (aY k.size 1) fun m=>bP e m (ac b) fun b=>aB b f fun e=>aB b m fun n=>dd 44 #[a] b fun b o=>((aq o m=some (ac n)∧True)∧(aq o f=some (ac e)∧True)∧True)∧aT 73 #[ac e] o fun e f=>((aq f m=some (ac n)∧True)∧True)∧ak 72 #[am b,ac e,ac n,c] f fun b c e=>True∧ao (c != 0) (Q (bU #[d,ac c]) e) (aT 73 #[ac b] e fun b c=>aT 74 #[a,au (some (aK c.size)) 1 1] (aJ c #[ac b] 26) fun a b=>ao (a != 0) (Q (bU #[d,ac a]) b) (ck g i [ac (bd (l+1))] b j k))) (ax (am (some (aK e.size))) fun b=>gg 75 #[b] k fun d=>aT 76 #[a,ac 19] d fun _ d=>aT 8 #[a,ac (f:Int)] d fun _ a=>Q (bU #[b,c]) a))))):ae PP 23 #[ac i,ac j] Q H :=
 okL Tryz.func23 rfl (fun | 10=>some [(10,121),(41,3)] | 15=>some [(56,3)] | _=>none) h
theorem GL (h:bJ 77 #[am a] H fun c d=>ao (!c) (Q (aF 0 2) d) (ak 78 #[am a,aZ t,aZ w,au b l o] d fun c d e=>ao (d != 0) (Q (aF 0 d) e) (dd 79 #[am a] e fun a d=>ak 80 #[am a,aZ t,ac c,au b l o] d fun b c d=>aT 81 #[am a,ac c] d fun a c=>ao (a != 0) (Q (aF 0 a) c) (Q (aF b 0) c)))):ae PP 25 #[.pointer a,.string t,.string w,.slice b l o] Q H :=
 okF Tryz.func25 rfl h
theorem zN (h:ao (fi a) (Q (am none) H) (aN a fun a=>aE H (a.add 1) fun a=>Q (am a) H)):ae PP 33 #[.pointer a] Q H :=
 okF Tryz.func33 rfl h
theorem Gd (h:aN a fun b=>aE H b fun b=>dd 44 #[am b] H fun b c=>dU 71 #[] c fun c d _ e=>cX [ac 0] e fun e f g i j=>ax (ac 18) fun k=>ao (bv j (d:Int)) (bu j d c fun c=>jT i (bq c j 1) fun c=>aN a fun a=>aE i (a.add 1) fun a=>ak 145 #[am a,aZ c] i fun a _ c=>ak 146 #[ac a] c fun a _ c=>aT 73 #[ac 4] c fun c d=>Hk (fun a=>ao (j == 0) (aT 73 #[ac 1] d fun b c=>a [ac b] c) (a [ac c] d)) fun c d=>aT 73 #[k] d fun d l=>aT 73 #[k] l fun l m=>aT 73 #[k] m fun k m=>aT 147 #[ac 0] m fun m n=>ax (ac (bd (j+1))) fun o=>aT 147 #[o] n fun n p=>cX [ac 0] (aJ p #[ac a,ac c,ac d,ac l,ac k,ac m,ac n] 26) fun a c d k l=>ax (ac (bd (4+j))) fun m=>ao (bv l 7) (bu l 7 (some (aK p.size)) fun e=>aB k (bq e l 1) fun e=>aT 148 #[am b,m,ac l,ac e] k fun _ b=>ck a c [ac (bd (l+1))] b d k) (aT 73 #[m] k fun a c=>aT 148 #[am b,ac 20,ac j,ac a] c fun _ a=>ck e f [o] a g i)) (cX [ac 0] (aJ i #[ac 20,k,k,k,ac 1,ac 2,ac 3] 3) fun a c d e f=>ao (bv f 7) (bu f 7 (some (aK i.size)) fun g=>aB e (bq g f 1) fun g=>aT 73 #[ac g] e fun g i=>aT 148 #[am b,ac 19,ac f,ac g] i fun _ b=>ck a c [ac (bd (f+1))] b d e) (Q (bU #[]) e))):ae PP 75 #[.pointer a] Q H :=
 okL Tryz.func75 rfl (fun | 2=>some [(21,3)] | 1009=>some [(9,26)] | 10=>some [(55,3)] | 17=>some [(76,3)] | _=>none) h
theorem Ge (h:ao (!(fi a)) (aN a fun a=>aE H a fun a=>Q (bk (!(fi a))) H) (Q (bk false) H)):ae PP 77 #[.pointer a] Q H :=
 okF Tryz.func77 rfl h
theorem GZ (h:bJ 149 #[aZ t,.int .u8 65,.int .u8 90] H fun c d=>ao (!c) (Q (aF 0 133) d) (ax (am a) fun a=>bJ 150 #[a,aZ t] d fun c d=>ao c (Q (aF 0 131) d) (ak 151 #[a,aZ w] d fun c d e=>ao (d != 0) (Q (aF 0 d) e) (ax (aK e.size) fun d=>bP (aJ e #[am none] 203) d a fun e=>zp (fun a=>aE e d fun b=>aT 152 #[aL #[am b],ac c,ac 6] e fun b c=>ao (cS b 1) (ao (decide (b<=14)) (Q (aF 0 132) c) (a [] c)) (a [] c)) fun e=>aE e d fun d=>dU 153 #[aL #[am d],ac c] e fun d e f g=>cX [ac 0] g fun g i j k m=>ao (bv m (l:Int)) (bu m l b fun a=>jT k (bq a m 1) fun a=>bJ 154 #[aZ a] k fun c l=>ao (!c) (Q (aF 0 133) l) (((0:Int)<=m∧m<=(o:Int))∧bJ 155 #[au b (Int.toNat m) o,aZ a] l fun b c=>ao b (Q (aF 0 134) c) (bJ 155 #[au d e f,aZ a] c fun a b=>ao a (Q (aF 0 135) b) (ck g i [ac (bd (m+1))] b j k)))) (ao (cS (bd ((e:Int)+(l:Int))) 32) (Q (aF 0 137) k) (aT 156 #[a] k fun a b=>ao (decide (a≥256)) (Q (aF 0 138) b) (Q (aF c 0) b))))))):ae PP 78 #[.pointer a,.string t,.string w,.slice b l o] Q H :=
 okL Tryz.func78 rfl (fun | 1012=>some [] | 14=>some [(48,3)] | _=>none) h
theorem FJ (h:aN a fun b=>aE H (b.add 1) fun b=>aN a fun c=>aE H c fun d=>aN a fun e=>aE H e fun f=>aT 34 #[am b] H fun b g=>ax (some (am f)) fun i=>((aq g e=i∧True)∧(aq g c=some (am d)∧True)∧True)∧dd 44 #[am d] g fun c d=>((aq d e=i∧True)∧True)∧aT 60 #[am c] d fun c d=>((aq d e=i∧True)∧True)∧dU 63 #[am f] d fun _ d _ e=>True∧True∧Q (am (some (aK e.size))) (aJ e #[am a,ac b,ac c,ac (d:Int)] 207)):ae PP 79 #[.pointer a] Q H :=
 okF Tryz.func79 rfl h
theorem FM (h:ax (am a) fun c=>ak 157 #[c,aZ t] H fun d e f=>ao (e != 0) (Q (aF 0 e) f) (ax (ac 0) fun e=>jO [au none 0 0,e] f fun f g j k m n o p=>ao (bv p (l:Int)) (bu p l b fun a=>jT k (bq a p 1) fun a=>ak 157 #[c,aZ a] k fun a b c=>ao (b != 0) (Q (aF 0 b) c) (cC (Builtin.append_ #[30,30] 30 #[au m n o,au (some (aK c.size)) 1 1]) (aJ c #[ac a] 26) fun a b c d=>ck f g [au a b c,ac (bd (p+1))] d j k)) (ak 158 #[c,au m n o] k fun b f g=>ao (f != 0) (Q (aF 0 f) g) (aN a fun f=>aE g f fun f=>aT 156 #[am f] g fun f g=>aT 73 #[ac 18] g fun g j=>aT 73 #[ac i] j fun i j=>aT 147 #[e] j fun j k=>aT 147 #[ac (bd (f+1))] k fun f k=>ak 159 #[c,ac 12,au (some (aK k.size)) 7 7] (aJ k #[ac d,ac i,ac b,ac g,ac g,ac j,ac f] 26) fun b d f=>ao (d != 0) (Q (aF 0 d) f) (ax (ac b) fun b=>EQ (fun d=>aN a fun g=>aE f g fun i=>aN a fun a=>aE f a fun j=>ax (some (am i)) fun k=>ax (aL #[am i]) fun i=>aT 161 #[aL #[am j],e] f (fun a e=>((aq e g=k∧True)∧True)∧dU 160 #[i,ac a] e (fun a e f g=>True∧True∧cC (Builtin.append_ #[30,30] 30 #[au a e f,au (some (aK g.size)) 1 1]) (aJ g #[b] 26) fun a b e f=>True∧ak 158 #[c,au a b e] f fun a b c=>True∧d [ac b,ac a] c)∧ax (aJ e #[b] 26) fun b=>((aq b g=k∧True)∧True)∧dU 160 #[i,ac a] b fun a b f g=>True∧cC (Builtin.append_ #[30,30] 30 #[au a b f,au (some (aK e.size)) 1 1]) g fun a b e f=>True∧ak 158 #[c,au a b e] f fun a b c=>True∧d [ac b,ac a] c)∧ax (aJ f #[b] 26) fun b=>((aq b a=some (am j)∧True)∧(aq b g=k∧True)∧True)∧aT 161 #[aL #[am j],e] b fun a b=>((aq b g=k∧True)∧True)∧dU 160 #[i,ac a] b fun a b e g=>True∧cC (Builtin.append_ #[30,30] 30 #[au a b e,au (some (aK f.size)) 1 1]) g fun a b e f=>True∧ak 158 #[c,au a b e] f fun a b c=>True∧d [ac b,ac a] c) fun c d f=>ao (c != 0) (Q (aF 0 c) f) (aN a fun a=>aE f a fun a=>aN a fun a=>aE f a fun a=>aT 162 #[am a,e,ac d] f fun _ a=>ak 89 #[b] a fun a b c=>Q (aF a b) c)))))):ae PP 80 #[.pointer a,.string t,ac i,.slice b l o] Q H :=
 okL Tryz.func80 rfl (fun | 6=>some [(12,30),(33,3)] | 1022=>some [(11,33),(21,26)] | _=>none) h
theorem Gx (h:aN a fun b=>aE H b fun b=>aN b fun b=>aE H b fun b=>aN a fun c=>aB H (c.add 3) fun d=>dU 63 #[am b] H fun _ e _ f=>((aq f (c.add 3)=some (ac d)∧True)∧True)∧aT 8 #[am b,ac (bd ((e:Int)-d))] f fun _ c=>True∧ao (i == 0) (Q (ac i) c) (aN a fun d=>aE c d fun d=>aN d fun d=>aE c (d.add 1) fun d=>aN a fun e=>aB c (e.add 1) fun e=>aT 163 #[am d,ac e] c fun _ c=>True∧ao (i != 24) (aN a fun a=>aB c (a.add 2) fun d=>dd 44 #[am b] c fun b c=>((aq c (a.add 2)=some (ac d)∧True)∧True)∧aT 45 #[am b,ac d] c fun _ a=>True∧Q (ac i) a) (Q (ac i) c))):ae PP 81 #[.pointer a,ac i] Q H :=
 okF Tryz.func81 rfl h
theorem Bz (h:ak 151 #[am a,aZ t] H fun _ b c=>ao (b == 0) (Q (bk true) c) (dU 270 #[am a] c fun a b c d=>bJ 155 #[au a b c,aZ t] d fun a b=>Q (bk a) b)):ae PP 150 #[.pointer a,.string t] Q H :=
 okF Tryz.func150 rfl h
theorem CL (h:bJ 77 #[am a] H fun b c=>ao (!b) (Q (aF 0 2) c) (ax (aK c.size) fun b=>bP (aJ c #[am none] 203) b (am a) fun a=>aE a b fun c=>aT 161 #[aL #[am c],ac 0] a fun a c=>aE c b fun d=>aT 271 #[aL #[am d],ac a] c fun c d=>cX [ac 0] d fun d e f g i=>ao (bv i c) (aE g b fun c=>aT 272 #[aL #[am c],ac a,ac i] g fun a c=>aE c b fun b=>gI 273 #[aL #[am b],ac a,ac 0] c fun b c=>ao (iF b t) (Q (aF a 0) c) (ck d e [ac (bd (i+1))] c f g)) (Q (aF 0 130) g))):ae PP 151 #[.pointer a,.string t] Q H :=
 okL Tryz.func151 rfl (fun | 6=>some [(20,3)] | _=>none) h
theorem C0 (h:ax (aJ H #[am a] 203) fun a=>aE a (aK H.size) fun b=>aT 275 #[aL #[am b],ac i,ac j] a fun a b=>ak 274 #[ac a] b fun a _ b=>Q (ac a) b):ae PP 152 #[.agg #[.pointer a],ac i,ac j] Q H :=
 okF Tryz.func152 rfl h
theorem xK (h:ax (aJ H #[am a] 203) fun a=>ao (i == 0) (Q (au none 0 0) a) (ax (aK H.size) fun b=>aE a b fun c=>aE a b fun d=>aE a b fun e=>aE a b fun f=>aT 276 #[aL #[am d],ac i] a fun a d=>ax (some (am e)) fun g=>ax (aq d b) (fun a=>(a=some (am f)∧True)∧(a=g∧True)∧(a=some (am c)∧True)∧True)∧dU 153 #[aL #[am c],ac a] d fun a c d j=>ax (aq j b) (fun a=>(a=some (am f)∧True)∧(a=g∧True)∧True)∧aT 272 #[aL #[am f],ac i,ac 2] j fun f i=>((aq i b=g∧True)∧True)∧dU 277 #[aL #[am e],ac f] i fun b e f g=>True∧cC (Builtin.append_ #[61,61] 61 #[au a c d,au b e f]) g fun a b c d=>True∧Q (au a b c) d)):ae PP 153 #[.agg #[.pointer a],ac i] Q H :=
 okF Tryz.func153 rfl h
theorem BX (h:bJ 77 #[am a] H fun b c=>ao (!b) (Q (ac 0) c) (ax (aK c.size) fun b=>bP (aJ c #[am none] 203) b (am a) fun a=>aE a b fun c=>aE a b fun d=>aT 161 #[aL #[am d],ac 0] a fun a d=>((aq d b=some (am c)∧True)∧True)∧aT 271 #[aL #[am c],ac a] d fun a b=>True∧Q (ac a) b)):ae PP 156 #[.pointer a] Q H :=
 okF Tryz.func156 rfl h
theorem De (h:aN a fun a=>aE H a fun a=>aN a fun a=>aE H (a.add 1) fun a=>ak 145 #[am a,aZ t] H fun a b c=>ao (b != 0) (Q (aF 0 b) c) (ak 146 #[ac a] c fun a b c=>Q (aF a b) c)):ae PP 157 #[.pointer a,.string t] Q H :=
 okF Tryz.func157 rfl h
theorem Dm (h:ao ((l:Int) == 0) (aT 73 #[ac 18] H fun a b=>Q (aF a 0) b) (ak 159 #[am a,ac 11,au b l o] H fun a b c=>Q (aF a b) c)):ae PP 158 #[.pointer a,.slice b l o] Q H :=
 okF Tryz.func158 rfl h
theorem EE (h:aN a fun c=>aE H c fun d=>aN d fun e=>aE H e fun f=>aT 73 #[ac i] H fun g i=>((aq i e=some (am f)∧True)∧(aq i c=some (am d)∧True)∧True)∧ak 279 #[am f,ac g,ac (l:Int),ac 0] i fun c d e=>True∧ao (d != 0) (Q (aF 0 d) e) (ak 89 #[ac c] e fun d _ e=>cX [ac 0] e fun e f g i j=>ao (bv j (l:Int)) (bu j l b fun b=>aB i (bq b j 1) fun b=>aN a fun a=>aE i a fun a=>aN a fun a=>aE i a fun a=>dd 44 #[am a] i fun a c=>aT 148 #[am a,ac d,ac j,ac b] c fun _ a=>ck e f [ac (bd (j+1))] a g i) (aN a fun a=>aE i a fun a=>aN a fun a=>aE i a fun a=>aT 74 #[am a,au (some (aK i.size)) 1 1] (aJ i #[ac c] 26) fun a b=>Q (aF c a) b))):ae PP 159 #[.pointer a,ac i,.slice b l o] Q H :=
 okL Tryz.func159 rfl (fun | 6=>some [(40,3)] | _=>none) h
theorem Cj (h:ax (aJ H #[am a] 203) fun a=>aE a (aK H.size) fun b=>aT 271 #[aL #[am b],ac i] a fun a b=>jO [au none 0 0,ac 0] b fun b c d e f g j k=>ao (bv k a) (aE e (aK H.size) fun a=>aT 275 #[aL #[am a],ac i,ac k] e fun a i=>cC (Builtin.append_ #[30,30] 30 #[au f g j,au (some (aK i.size)) 1 1]) (aJ i #[ac a] 26) fun a f g i=>ck b c [au a f g,ac (bd (k+1))] i d e) (Q (au f g j) e)):ae PP 160 #[.agg #[.pointer a],ac i] Q H :=
 okL Tryz.func160 rfl (fun | 3=>some [(5,30),(10,3)] | _=>none) h
theorem DD (h:ax (aJ H #[am a] 203) fun a=>aE a (aK H.size) fun b=>aT 272 #[aL #[am b],ac 19,ac i] a fun a b=>Q (ac a) b):ae PP 161 #[.agg #[.pointer a],ac i] Q H :=
 okF Tryz.func161 rfl h
theorem DM (h:bJ 77 #[am a] H fun b c=>ao (!b) (Q (aF 0 2) c) (aT 13 #[ac i] c fun b c=>ao (b == 1) (Q (aF 8 0) c) (ao (b == 2) (Q (aF 9 0) c) (ao (b == 3) (ak 89 #[ac i] c fun b _ c=>aN a fun a=>aE c a fun a=>dd 44 #[am a] c fun a c=>ak 54 #[am a,ac b] c fun a b c=>ao (b != 0) (Q (aF 0 b) c) (ak 89 #[ac a] c fun a b c=>Q (aF a b) c)) (Q (aF 0 10) c))))):ae PP 220 #[.pointer a,ac i] Q H :=
 okF Tryz.func220 rfl h
theorem Br (h:ik 311 #[am a,ac i] H fun a b c=>bP (aJ c #[am none] 203) (aK c.size) (am a) fun a=>ao (b != 0) (Q (aF 0 b) a) (aE a (aK c.size) fun b=>aT 276 #[aL #[am b],ac i] a fun a b=>Q (aF a 0) b)):ae PP 221 #[.pointer a,ac i] Q H :=
 okF Tryz.func221 rfl h
theorem CE (h:bJ 77 #[am a] H fun b c=>ao (!b) (Q (au none 0 0) c) (ax (aK c.size) fun b=>bP (aJ c #[am none] 203) b (am a) fun a=>aE a b fun c=>aT 161 #[aL #[am c],ac 1] a fun a c=>aE c b fun d=>aT 271 #[aL #[am d],ac a] c fun c d=>jO [au none 0 0,ac 0] d fun d e f g i j k l=>ao (bv l (bd (Int.tdiv c 2))) (aE g b fun b=>gI 273 #[aL #[am b],ac a,ac (bd (2*l))] g fun a b=>cC (Builtin.append_ #[61,61] 61 #[au i j k,au (some (aK b.size)) 1 1]) (aJ b #[aZ a] 9) fun a b c i=>ck d e [au a b c,ac (bd (l+1))] i f g) (Q (au i j k) g))):ae PP 270 #[.pointer a] Q H :=
 okL Tryz.func270 rfl (fun | 7=>some [(5,61),(18,3)] | _=>none) h
theorem CN (h:ax (aJ H #[am a] 203) fun a=>aE a (aK H.size) fun b=>aN b fun b=>aE a b fun b=>dd 44 #[am b] a fun a b=>cB 55 #[am a,ac i] b fun a _ _ b=>Q (ac a) b):ae PP 271 #[.agg #[.pointer a],ac i] Q H :=
 okF Tryz.func271 rfl h
theorem Ea (h:ax (aJ H #[am a] 203) fun a=>aE a (aK H.size) fun b=>aT 275 #[aL #[am b],ac i,ac j] a fun a b=>ak 89 #[ac a] b fun a _ b=>Q (ac a) b):ae PP 272 #[.agg #[.pointer a],ac i,ac j] Q H :=
 okF Tryz.func272 rfl h
theorem BQ (h:ax (aJ H #[am a] 203) fun a=>aE a (aK H.size) fun b=>aT 275 #[aL #[am b],ac i,ac j] a fun a b=>ak 336 #[ac a] b fun a b c=>ao (b != 0) (Q (aZ (⟨#[]⟩:ByteArray)) c) (aE c (aK H.size) fun b=>aN b fun b=>aE c (b.add 1) fun b=>jm 337 #[am b,ac a] c fun a _ b=>Q (aZ a) b)):ae PP 273 #[.agg #[.pointer a],ac i,ac j] Q H :=
 okF Tryz.func273 rfl h
theorem C6 (h:ax (aJ H #[am a] 203) fun a=>aE a (aK H.size) fun b=>aN b fun b=>aE a b fun b=>dd 44 #[am b] a fun a b=>ak 57 #[am a,ac i,ac j] b fun a _ b=>Q (ac a) b):ae PP 275 #[.agg #[.pointer a],ac i,ac j] Q H :=
 okF Tryz.func275 rfl h
theorem Df (h:ax (aJ H #[am a] 203) fun a=>aE a (aK H.size) fun b=>aT 272 #[aL #[am b],ac i,ac 1] a fun a b=>ao (a != 1) (Q (ac a) b) (Q (ac 0) b)):ae PP 276 #[.agg #[.pointer a],ac i] Q H :=
 okF Tryz.func276 rfl h
theorem Ey (h:ax (aJ H #[am a] 203) fun a=>aE a (aK H.size) fun b=>aT 271 #[aL #[am b],ac i] a fun a b=>jO [au none 0 0,ac 0] b fun b c d e f g j k=>ao (bv k a) (aE e (aK H.size) fun a=>gI 273 #[aL #[am a],ac i,ac k] e fun a i=>cC (Builtin.append_ #[61,61] 61 #[au f g j,au (some (aK i.size)) 1 1]) (aJ i #[aZ a] 9) fun a f g i=>ck b c [au a f g,ac (bd (k+1))] i d e) (Q (au f g j) e)):ae PP 277 #[.agg #[.pointer a],ac i] Q H :=
 okL Tryz.func277 rfl (fun | 3=>some [(5,61),(10,3)] | _=>none) h
theorem Ce (h:ik 311 #[am a,ac i] H fun a b c=>bP (aJ c #[am none] 203) (aK c.size) (am a) fun a=>ao (b != 0) (Q (aF 0 b) a) (aE a (aK c.size) fun b=>aT 152 #[aL #[am b],ac i,ac 6] a fun a b=>Q (aF a 0) b)):ae PP 307 #[.pointer a,ac i] Q H :=
 okF Tryz.func307 rfl h
theorem Dw (h:ik 311 #[am a,ac i] H fun a b c=>bP (aJ c #[am none] 203) (aK c.size) (am a) fun a=>ao (b != 0) (Q (bU #[au none 0 0,ac b]) a) (aE a (aK c.size) fun b=>dU 153 #[aL #[am b],ac i] a fun a b c d=>Q (bU #[au a b c,ac 0]) d)):ae PP 308 #[.pointer a,ac i] Q H :=
 okF Tryz.func308 rfl h
theorem DE (h:ax (am none) fun b=>bJ 77 #[am a] (aJ H #[b] 203) fun c d=>ax (aK H.size) fun e=>ao (!c) (bP d e b fun a=>aE a e fun b=>Q (bU #[aL #[am b],ac 2]) a) (ax (aK d.size) fun c=>bP (aJ d #[b] 203) c (am a) fun a=>aE a c fun d=>bJ 361 #[aL #[am d],ac i] a fun a d=>ao (!a) (bP d e b fun a=>aE a e fun b=>Q (bU #[aL #[am b],ac 130]) a) (aE d c fun a=>bP d e (am a) fun a=>aE a e fun b=>Q (bU #[aL #[am b],ac 0]) a))):ae PP 311 #[.pointer a,ac i] Q H :=
 okF Tryz.func311 rfl h
theorem Bk (h:ax (aK H.size) fun b=>ax (aJ H #[am a] 203) fun a=>aE a b fun c=>aT 152 #[aL #[am c],ac i,ac 6] a fun a c=>aE c b fun d=>aT 161 #[aL #[am d],ac 0] c fun c d=>ax (bk false) fun e=>ao (cS i 0) (ao (decide (a≥1)) (aE d b fun f=>aT 271 #[aL #[am f],ac c] d fun d f=>ao (decide (a<=d)) (aE f b fun b=>aT 272 #[aL #[am b],ac c,ac (bd (a-1))] f fun a b=>Q (bk (a == i)) b) (Q e f)) (Q e d)) (Q e d)):ae PP 361 #[.agg #[.pointer a],ac i] Q H :=
 okF Tryz.func361 rfl h
end
theorem pU {H:ag}{x v:Value}{t:TypeId}{fr:Nat × Nat}:bc (H.push (.cells #[x] t fr)) ⟨H.size,0,none⟩ v=H.push (.cells #[v] t fr):=by
 rw [aM];rfl
theorem Fr.late {H H2:ag} (h:Fr [] H H2){b o:Nat}{v:Value} (hb:H.size<=b):Fr [] H (bc H2 ⟨b,o,none⟩ v) :=
 ⟨Ux h.1 (Fr.set (F:=[b]) (H:=H2) (a:=⟨b,o,none⟩) (v:=v) (by simp)).1,fun c hc _=>by rw [cK (by simp only;omega)];exact h.2 c hc (by simp)⟩
def PK (H:ag) (b:Nat) (F:aR) (s:SP) (t:TB):Prop:=∃ sb tb F1 F2,F=b :: (F1++F2)∧b∉F1∧b∉F2∧dB F1 F2∧b≠aS∧aS∉F2 ∧
 bH H b #[Kj sb,Kj tb]∧iu H sb F1 s∧qp H tb F2 t
theorem PK.lt {H:ag}{b:Nat}{F:aR}{s:SP}{t:TB} (h:PK H b F s t):∀ x∈F,x<H.size:=by
 obtain ⟨sb,tb,F1,F2,rfl,h1,h2,h3,k1,k2,hB,hS,hT⟩:=h;intro x hx;rcases Us.1 hx with rfl | hx
 ·exact hB.lt
 ·rcases Uz.1 hx with hx | hx
  ·exact hS.lt x hx
  ·exact hT.lt x hx
theorem PK.bmem {H:ag}{b:Nat}{F:aR}{s:SP}{t:TB} (h:PK H b F s t):b∈F:=by obtain ⟨_,_,_,_,rfl,_⟩:=h;simp
theorem PK.kinds {H:ag}{b:Nat}{F:aR}{s:SP}{t:TB} (h:PK H b F s t):dT H:=by obtain ⟨_,_,_,_,_,_,_,_,_,_,_,hS,_⟩:=h;exact hS.kinds
theorem PK.gk {H:ag}{b:Nat}{F:aR}{s:SP}{t:TB} (h:PK H b F s t):aS∉F:=by
 obtain ⟨sb,tb,F1,F2,rfl,h1,h2,h3,k1,k2,hB,hS,hT⟩:=h;simp only [Us,Uz,Vt];exact ⟨fun e=>k1 e.symm,hS.gk,k2⟩
theorem PK.fr {H H':ag}{b:Nat}{F G:aR}{s:SP}{t:TB} (h:PK H b F s t) (hf:Fr G H H') (hd:dB F G) (hg:aS∉G):PK H' b F s t:=by
 obtain ⟨sb,tb,F1,F2,rfl,h1,h2,h3,k1,k2,hB,hS,hT⟩:=h;exact ⟨sb,tb,F1,F2,rfl,h1,h2,h3,k1,k2,hB.fr hf (hd b (by simp)),hS.fr hf (hd.mono (fun x hx=>by simp [hx]) fun _ h=>h) hg,hT.fr hf (hd.mono (fun x hx=>by simp [hx]) fun _ h=>h)⟩
theorem PK.nil {H H':ag}{b:Nat}{F:aR}{s:SP}{t:TB} (h:PK H b F s t) (hf:Fr [] H H'):PK H' b F s t:=h.fr hf (dB.nil_right _) (by simp)
theorem PK.wfs {H:ag}{b:Nat}{F:aR}{s:SP}{t:TB} (h:PK H b F s t):WFS s:=by obtain ⟨_,_,_,_,_,_,_,_,_,_,_,hS,_⟩:=h;exact hS.wf
theorem PK.wft {H:ag}{b:Nat}{F:aR}{s:SP}{t:TB} (h:PK H b F s t):WFT t:=by obtain ⟨_,_,_,_,_,_,_,_,_,_,_,_,hT⟩:=h;exact hT.wf
theorem PK.sp {H:ag}{b:Nat}{F:aR}{s:SP}{t:TB} (h:PK H b F s t):∃ sb F1,aq H ⟨b,0,none⟩=some (Kj sb)∧iu H sb F1 s∧(∀ x∈F1,x∈F)∧b∉F1 ∧
  (∀ H' F1' s',iu H' sb F1' s'->Up F1 H F1' H'->∃ F',PK H' b F' s' t∧Up F H F' H')∧(∀ H' s',iu H' sb F1 s'->Fr F1 H H'->PK H' b F s' t):=by
 have aa:=h.lt;have LB:=h.kinds.lt;obtain ⟨sb,tb,F1,F2,rfl,h1,h2,h3,k1,k2,hB,hS,hT⟩:=h;refine ⟨sb,F1,hB.cell 0,hS,fun x hx=>by simp [hx],h1,fun H' F1' s' Qq hu=>⟨b :: (F1'++F2),⟨sb,tb,F1',F2,rfl,fun hx=>?_,h2,fun x hx qz=>?_,k1,k2,hB.fr hu.1 h1,Qq,hT.fr hu.1 h3.symm⟩,hu.1.mono fun x hx=>by simp [hx],fun x hx=>?_⟩,fun H' s' Qq hf=>⟨sb,tb,F1,F2,rfl,h1,h2,h3,k1,k2,hB.fr hf h1,Qq,hT.fr hf h3.symm⟩⟩
 ·rcases hu.2 b hx with h4 | h4
  ·exact h1 h4
  ·have:=aa b (by simp);omega
 ·rcases hu.2 x hx with h4 | h4
  ·exact h3 x h4 qz
  ·have:=aa x (by simp [qz]);omega
 ·rcases Us.1 hx with rfl | hx
  ·exact .inl (by simp)
  ·rcases Uz.1 hx with hx | hx
   ·exact (hu.2 x hx).imp (fun h4=>by simp [h4]) id
   ·exact .inl (by simp [hx])
theorem PK.tb {H:ag}{b:Nat}{F:aR}{s:SP}{t:TB} (h:PK H b F s t):∃ tb F2,aq H ⟨b,1,none⟩=some (Kj tb)∧qp H tb F2 t∧(∀ x∈F2,x∈F)∧b∉F2 ∧
  (∀ H' F2' t',qp H' tb F2' t'->Up F2 H F2' H'->∃ F',PK H' b F' s t'∧Up F H F' H')∧(∀ H' t',qp H' tb F2 t'->Fr F2 H H'->PK H' b F s t'):=by
 have aa:=h.lt;have LB:=h.kinds.lt;obtain ⟨sb,tb,F1,F2,rfl,h1,h2,h3,k1,k2,hB,hS,hT⟩:=h;have S4:=hS.gk;refine ⟨tb,F2,hB.cell 1,hT,fun x hx=>by simp [hx],h2,fun H' F2' t' OZ hu=>⟨b :: (F1++F2'),⟨sb,tb,F1,F2',rfl,h1,fun hx=>?_,fun x hx qz=>?_,k1,fun hx=>?_,hB.fr hu.1 h2,hS.fr hu.1 h3 k2,OZ⟩,hu.1.mono fun x hx=>by simp [hx],fun x hx=>?_⟩,fun H' t' OZ hf=>⟨sb,tb,F1,F2,rfl,h1,h2,h3,k1,k2,hB.fr hf h2,hS.fr hf h3 k2,OZ⟩⟩
 ·rcases hu.2 b hx with h4 | h4
  ·exact h2 h4
  ·have:=aa b (by simp);omega
 ·rcases hu.2 x qz with h4 | h4
  ·exact h3 x hx h4
  ·have:=aa x (by simp [hx]);omega
 ·rcases hu.2 _ hx with h4 | h4
  ·exact k2 h4
  ·omega
 ·rcases Us.1 hx with rfl | hx
  ·exact .inl (by simp)
  ·rcases Uz.1 hx with hx | hx
   ·exact .inl (by simp [hx])
   ·exact (hu.2 x hx).imp (fun h4=>by simp [h4]) id
abbrev rd (b:Nat):Value:=.agg #[Kj b]
section
variable {H:ag}{b:Nat}{F:aR}{s:SP}{t:TB}{Q:QT}
theorem kD (hK:PK H b F s t) (h:Q (.bool true) H):ae PP 77 #[Kj b] Q H:=by
 obtain ⟨sb,F1,hc,_⟩:=hK.sp;apply Ge;dsimp only [bk,ao,aE,aN,fi];exact ⟨_,rfl,_,hc,h⟩
theorem sr (hK:PK H b F s t){o i:Int} (h:∀ H',Fr [] H H'->Q (ac (kslot s.h o i)) H'):ae PP 275 #[rd b,ac o,ac i] Q H:=by
 apply C6;dsimp only [aK,dd,ak,aE,ac,aN,am,aJ,ax];have hf:Fr [] H (H.push (.cells #[Kj b] 203)):=Fr.push _ _ _;obtain ⟨sb,F1,hc,hS,_⟩:=(hK.nil hf).sp;refine ⟨_,(bH.new _ _ _).cell 0,_,rfl,_,hc,eV hS fun hb F2 hR _ _=>⟨_,rfl,wS hR ⟨_,_,rfl,h _ hf⟩⟩⟩
theorem ro (hK:PK H b F s t){o i:Int} (h:∀ H',Fr [] H H'->Q (ac (jQ s.h o i)) H'):ae PP 272 #[rd b,ac o,ac i] Q H:=by
 apply Ea;dsimp only [aK,aT,ak,aE,aL,ac,am,aJ,ax];have hf:Fr [] H (H.push (.cells #[Kj b] 203)):=Fr.push _ _ _;have e9:=hK.nil hf;refine ⟨_,(bH.new _ _ _).cell 0,sr e9 fun H' ca=>⟨_,rfl,jP (e9.nil ca).kinds ?_⟩⟩
 have:=h H' (hf.trans ca);unfold jQ jN at this;unfold mE;split
 ·rename_i hk;rw [Ur hk] at this;exact ⟨_,_,rfl,this⟩
 ·rename_i hk;rw [Uq hk] at this;exact ⟨_,_,rfl,this⟩
theorem zX (hK:PK H b F s t){o i:Int} (h:∀ H',Fr [] H H'->Q (ac (sJ s.h o i)) H'):ae PP 152 #[rd b,ac o,ac i] Q H:=by
 apply C0;dsimp only [aK,aT,ak,aE,aL,ac,am,aJ,ax];have hf:Fr [] H (H.push (.cells #[Kj b] 203)):=Fr.push _ _ _;have e9:=hK.nil hf;refine ⟨_,(bH.new _ _ _).cell 0,sr e9 fun H' ca=>⟨_,rfl,ph (e9.nil ca).kinds ?_⟩⟩
 have:=h H' (hf.trans ca);unfold sJ dp at this;unfold mE;split
 ·rename_i hk;rw [Ur hk] at this;exact ⟨_,_,rfl,this⟩
 ·rename_i hk;rw [Uq hk] at this;exact ⟨_,_,rfl,this⟩
theorem vZ (hK:PK H b F s t){o i:Int} (h:∀ H',Fr [] H H'->Q (.string (kQ s.h t o i)) H'):ae PP 273 #[rd b,ac o,ac i] Q H:=by
 apply BQ;dsimp only [aK,aT,ao,ak,jm,aE,aL,ac,aN,am,aJ,aZ,ax];have hf:Fr [] H (H.push (.cells #[Kj b] 203)):=Fr.push _ _ _;have e9:=hK.nil hf;refine ⟨_,(bH.new _ _ _).cell 0,sr e9 fun H' ca=>⟨_,rfl,sK (e9.nil ca).kinds ?_⟩⟩;have P3:=(bH.new H #[Kj b] 203).fr ca (by simp)
 have:=h H' (hf.trans ca);unfold kQ wR at this;unfold mE;split
 ·rename_i hk;rw [Ur hk] at this;refine ⟨_,_,rfl,?_⟩;simp only [show ((0:Int) != 0)=false from rfl,Ut];obtain ⟨tb,F2,hc,hT,_⟩:=(e9.nil ca).tb;refine ⟨_,P3.cell 0,_,rfl,_,hc,uW hT ?_⟩;unfold ug;by_cases aa:0<=kslot s.h o i / 4∧kslot s.h o i / 4<t.texts.length
  ·rw [dif_pos aa];refine ⟨_,_,rfl,?_⟩;have e:t.texts[(kslot s.h o i / 4).toNat]'(by omega)=tx t (kslot s.h o i / 4).toNat:=by
    unfold tx;rw [UD,UF (by omega)];rfl
   rw [e];exact this
  ·rw [dif_neg aa];refine ⟨_,_,rfl,?_⟩;have dn:=bl (kslot s.h o i);have e:tx t (kslot s.h o i / 4).toNat=⟨#[]⟩:=by
    unfold tx;rw [UD,Vd (by omega)];rfl
   rw [e] at this;exact this
 ·rename_i hk;rw [Uq hk] at this;exact ⟨_,_,rfl,this⟩
theorem lk (hK:PK H b F s t){o:Int} (h:∀ H',Fr [] H H'->Q (ac (ksize s.h o)) H'):ae PP 271 #[rd b,ac o] Q H:=by
 apply CN;dsimp only [aK,dd,cB,aE,ac,aN,am,aJ,ax];have hf:Fr [] H (H.push (.cells #[Kj b] 203)):=Fr.push _ _ _;obtain ⟨sb,F1,hc,hS,_⟩:=(hK.nil hf).sp;refine ⟨_,(bH.new _ _ _).cell 0,_,rfl,_,hc,eV hS fun hb F2 hR _ _=>⟨_,rfl,sC hR ⟨_,_,_,rfl,h _ hf⟩⟩⟩
theorem nc (hK:PK H b F s t){i:Int} (h:∀ H',Fr [] H H'->Q (ac (jQ s.h 19 i)) H'):ae PP 161 #[rd b,ac i] Q H:=by
 apply DD;dsimp only [aK,aT,aE,aL,ac,am,aJ,ax];have hf:Fr [] H (H.push (.cells #[Kj b] 203)):=Fr.push _ _ _;exact ⟨_,(bH.new _ _ _).cell 0,ro (hK.nil hf) fun H' ca=>⟨_,rfl,h _ (hf.trans ca)⟩⟩
theorem xN (hK:PK H b F s t){o:Int} (h:∀ H',Fr [] H H'->Q (ac (if jQ s.h o 1=1 then 0 else jQ s.h o 1)) H'):ae PP 276 #[rd b,ac o] Q H:=by
 apply Df;dsimp only [aK,aT,ao,aE,aL,ac,am,aJ,ax];have hf:Fr [] H (H.push (.cells #[Kj b] 203)):=Fr.push _ _ _;refine ⟨_,(bH.new _ _ _).cell 0,ro (hK.nil hf) fun H' ca=>⟨_,rfl,?_⟩⟩
 have:=h _ (hf.trans ca);rw [bK,ah];refine aP (fun h1=>?_) fun h1=>?_
 ·rw [Uq h1] at this;exact this
 ·rw [Ur (Uv h1)] at this;exact this
def jH (r:RH) (t:TB) (o:Int):List ByteArray:=(List.range (ksize r o).toNat).map fun i:Nat=>kQ r t o i
theorem Bm (hK:PK H b F s t){o:Int} (h:∀ a l c G H',cZ 1 H' a l c (bY (jH s.h t o)) G->Fr [] H H'->(∀ x∈G,H.size<=x)->Q (.slice a l c) H'):ae PP 277 #[rd b,ac o] Q H:=by
 have ic:bj PP 61=some (1,16,some (.string (⟨#[]⟩:ByteArray))):=by kernel_rfl
 have G8:=nS (r:=s.h) o;have Nt:=xc hK.wfs.h o;apply Ey;dsimp only [aK,aT,gI,ao,bv,aE,aL,ac,jO,au,ck,am,aJ,cC,aZ,ax,bd];have hf:Fr [] H (H.push (.cells #[Kj b] 203)):=Fr.push _ _ _;refine ⟨_,(bH.new _ _ _).cell 0,lk (hK.nil hf) fun H0 hE=>⟨_,rfl,?_⟩⟩;have If:=(bH.new H #[Kj b] 203).fr hE (by simp);refine ⟨fun w H'=>∃(i:Nat) (a:Option Addr) (l' c:Nat) (G:aR),w=[.slice a l' c,ac i]∧(i:Int)<=ksize s.h o∧cZ 1 H' a l' c (bY ((jH s.h t o).take i)) G∧Fr [] H0 H'∧(∀ x∈G,H0.size<=x),fun w _=>match w with
  | [_,.int _ i]=>(ksize s.h o-i).toNat
  | _=>0,⟨0,none,0,0,[],rfl,G8,by simpa [bY] using cZ.nil 1 H0,Fr.refl _ _,by simp⟩,?_⟩
 rintro w H1 ⟨i,a1,l1,c1,G,rfl,hi,ho,be,hG⟩ _;have ai:(jH s.h t o).length=(ksize s.h o).toNat:=by simp [jH]
 have Lv:l1=i:=by have:=ho.len;simp only [bY,UZ,U4] at this;omega
 have tl:Fr [] H H1:=(hf.trans hE).trans be;refine ⟨_,_,_,_,rfl,?_⟩;rw [ah];refine aP (fun aa=>?_) fun aa=>?_
 ·have ix:(jH s.h t o).take (i+1)=(jH s.h t o).take i++[kQ s.h t o i]:=by
   rw [Vj,UF (by omega)];simp [jH]
  have e:IntKind.wrap .i64 ((i:Int)+1)=((i+1:Nat):Int):=by rw [az (by omega) (by omega)];omega
  refine ⟨_,(If.fr be (by simp)).cell 0,vZ (hK.nil tl) fun H2 bw=>⟨_,rfl,?_⟩⟩;refine dl ic rfl (by kernel_rfl) (ho.fr bw (by simp)) rfl (by simp [ge]) (by omega) (by decide) (by decide) fun a' c' G2 H3 g1 g2 g3=>⟨_,_,_,rfl,?_⟩;have r9:=Up.fresh (be.trans bw) g2 hG;rw [e];refine ⟨⟨i+1,a',l1+1,c',G2,rfl,by omega,?_,r9.1,r9.2⟩,by simp;omega⟩;rw [ix,ii];exact g1
 ·rw [UY (by omega)] at ho;exact h _ _ _ _ H1 ho tl fun x hx=>Ux (hf.trans hE).1 (hG x hx)
end
section
variable {H:ag}{b:Nat}{F:aR}{s:SP}{t:TB}{v:KV}{Q:QT}
theorem Bp (hK:PK H b F s t) (hv:KAllW s t v){o:Int} (h:∀ H',Fr [] H H'->Q (.bool (eK v o).isSome) H'):ae PP 361 #[rd b,ac o] Q H:=by
 have w6:=hv.ks.shape.many1;apply Bk;dsimp only [aK,bk,aT,ao,cS,aE,aL,ac,am,aJ,ax,bd];have hf:Fr [] H (H.push (.cells #[Kj b] 203)):=Fr.push _ _ _;have hB:=bH.new H #[Kj b] 203;refine ⟨_,hB.cell 0,zX (hK.nil hf) fun H1 be=>⟨_,rfl,_,(hB.fr be (by simp)).cell 0,?_⟩⟩;have tl:=hf.trans be;refine nc (hK.nil tl) fun H2 bw=>⟨_,rfl,?_⟩;rw [hv.ks.root0];have s6:=tl.trans bw;have l7:=(hB.fr be (by simp)).fr bw (by simp);cases hp:eK v o with
 | some i =>
  rw [hp] at h;obtain ⟨hi,he⟩:=dE hp;have hb:=(rZ hv.ks hi).1;have hn:sJ s.h o 6=(i:Int)+1:=by rw [←he];exact hv.ks.num hi
  rw [hn,ah,Ur (by omega),ah,Ur (by omega)];refine ⟨_,l7.cell 0,lk (hK.nil s6) fun H3 la=>⟨_,rfl,?_⟩⟩;rw [hv.ks.size0,ah,Ur (by omega)];refine ⟨_,(l7.fr la (by simp)).cell 0,ro (hK.nil (s6.trans la)) fun H4 lq=>⟨_,rfl,?_⟩⟩;have e:IntKind.wrap .i64 ((i:Int)+1-1)=(i:Nat):=by rw [az (by omega) (by omega)];omega
  rw [e,(hv.ks.clsAt hi).2,he]
  have:=h H4 ((s6.trans la).trans lq);simpa using this
 | none =>
  rw [hp] at h;rw [ah];refine aP (fun h1=>?_) fun h1=>h _ s6;rw [ah];refine aP (fun h2=>?_) fun h2=>h _ s6;refine ⟨_,l7.cell 0,lk (hK.nil s6) fun H3 la=>⟨_,rfl,?_⟩⟩;rw [hv.ks.size0,ah];refine aP (fun h3=>?_) fun h3=>h _ (s6.trans la);refine ⟨_,(l7.fr la (by simp)).cell 0,ro (hK.nil (s6.trans la)) fun H4 lq=>⟨_,rfl,?_⟩⟩;have hi:(sJ s.h o 6-1).toNat<v.cls.length:=by omega
  have e:IntKind.wrap .i64 (sJ s.h o 6-1)=((sJ s.h o 6-1).toNat:Nat):=by rw [az (by omega) (by omega)];omega
  have b9:=tI hp _ hi;rw [e,(hv.ks.clsAt hi).2]
  have:=h H4 ((s6.trans la).trans lq);rw [bI,Vz b9];exact this
theorem vD (hK:PK H b F s t) (hv:KAllW s t v){o:Int} (h1:∀ i,eK v o=some i->∀ H',Fr [] H H'->Q (.tuple #[rd b,ac 0]) H') (h2:eK v o=none->∀ H',Fr [] H H'->Q (.tuple #[.agg #[.pointer none],ac 130]) H'):ae PP 311 #[Kj b,ac o] Q H:=by
 apply DE;dsimp only [aK,bJ,ao,aE,aL,ac,am,aJ,ax,bP,bU];have hf:Fr [] H (H.push (.cells #[.pointer none] 203)):=Fr.push _ _ _;have hB:=bH.new H #[.pointer none] 203;have e9:=hK.nil hf;generalize (H.push (.cells #[.pointer none] 203))=H1 at hf hB e9 ⊢;refine kD e9 ⟨_,rfl,?_⟩;simp only [UB,Ut];rw [pU];have be:Fr [] H1 (H1.push (.cells #[Kj b] 203)):=Fr.push _ _ _;have l8:=bH.new H1 #[Kj b] 203;refine ⟨aU.2 (by simp),_,l8.cell 0,Bp (e9.nil be) hv fun H2 bw=>⟨_,rfl,?_⟩⟩;have l7:=(hB.fr be (by simp)).fr bw (by simp);have s6:=(hf.trans be).trans bw;have s4:∀ x,Fr [] H (bc H2 ⟨H.size,0,none⟩ x):=fun x=>Fr.late s6 (UI _);cases hp:eK v o with
 | none =>
  simp only [VU,UG,UK];exact ⟨l7.wr (by simp),_,(l7.set 0 _).cell 0,h2 hp _ (s4 _)⟩
 | some i =>
  simp only [WO,UB,Ut];exact ⟨_,(l8.fr bw (by simp)).cell 0,l7.wr (by simp),_,(l7.set 0 _).cell 0,h1 i hp _ (s4 _)⟩
theorem tM (hK:PK H b F s t) (hv:KAllW s t v){o:Int} (h:∀ H',Fr [] H H'->Q (match eK v o with | some i=>.tuple #[ac ((i:Int)+1),ac 0] | none=>.tuple #[ac 0,ac 130]) H'):ae PP 307 #[Kj b,ac o] Q H:=by
 apply Ce;dsimp only [aK,aF,aT,ao,ik,aE,aL,ac,am,aJ,bP];refine vD hK hv (fun i hp H1 hf=>?_) fun hp H1 hf=>?_
 ·refine ⟨_,_,rfl,aU.2 (by simp),?_⟩;rw [hp] at h;simp only [show ((0:Int) != 0)=false from rfl,Ut];rw [pU];have be:Fr [] H1 (H1.push (.cells #[Kj b] 203)):=Fr.push _ _ _;obtain ⟨hi,he⟩:=dE hp;refine ⟨_,(bH.new H1 _ _).cell 0,zX (hK.nil (hf.trans be)) fun H2 bw=>⟨_,rfl,?_⟩⟩;have hn:sJ s.h o 6=(i:Int)+1:=by rw [←he];exact hv.ks.num hi
  rw [hn];exact h _ ((hf.trans be).trans bw)
 ·refine ⟨_,_,rfl,aU.2 (by simp),?_⟩;rw [hp] at h;simp only [show ((130:Int) != 0)=true from rfl,UK];rw [pU];exact h _ hf.more
theorem Aa (hK:PK H b F s t) (hv:KAllW s t v){o:Int} (h:∀ H',Fr [] H H'->Q (match eK v o with | some i=>.tuple #[ac (dt v i),ac 0] | none=>.tuple #[ac 0,ac 130]) H'):ae PP 221 #[Kj b,ac o] Q H:=by
 apply Br;dsimp only [aK,aF,aT,ao,ik,aE,aL,ac,am,aJ,bP];refine vD hK hv (fun i hp H1 hf=>?_) fun hp H1 hf=>?_
 ·refine ⟨_,_,rfl,aU.2 (by simp),?_⟩;rw [hp] at h;simp only [show ((0:Int) != 0)=false from rfl,Ut];rw [pU];have be:Fr [] H1 (H1.push (.cells #[Kj b] 203)):=Fr.push _ _ _;obtain ⟨hi,he⟩:=dE hp;refine ⟨_,(bH.new H1 _ _).cell 0,xN (hK.nil (hf.trans be)) fun H2 bw=>⟨_,rfl,?_⟩⟩;have hn:jQ s.h o 1=(v.cls[i]).up:=by rw [←he];exact hv.ks.up hi
  have:=h _ ((hf.trans be).trans bw);simp only [dt,UF hi] at this;rw [hn];exact this
 ·refine ⟨_,_,rfl,aU.2 (by simp),?_⟩;rw [hp] at h;simp only [show ((130:Int) != 0)=true from rfl,UK];rw [pU];exact h _ hf.more
theorem uE (hK:PK H b F s t) (hv:KS s v) (h:∀ H',Fr [] H H'->Q (ac (v.cls.length:Int)) H'):ae PP 156 #[Kj b] Q H:=by
 apply BX;dsimp only [aK,bJ,aT,ao,aE,aL,ac,am,aJ,ax,bP];refine kD hK ⟨_,rfl,?_⟩;simp only [UB,Ut];rw [pU];have be:Fr [] H (H.push (.cells #[Kj b] 203)):=Fr.push _ _ _;have hB:=bH.new H #[Kj b] 203;refine ⟨aU.2 (by simp),_,hB.cell 0,_,hB.cell 0,nc (hK.nil be) fun H2 bw=>⟨_,rfl,⟨⟨(hB.fr bw (by simp)).cell 0,trivial⟩,trivial⟩,?_⟩⟩;rw [hv.root0];refine lk (hK.nil (be.trans bw)) fun H3 la=>⟨_,rfl,trivial,?_⟩;rw [hv.size0];exact h _ ((be.trans bw).trans la)
theorem Dc (hK:PK H b F s t) (hv:KAllW s t v) (h:∀ H',Fr [] H H'->Q (ac (v.cls.length:Int)) H'):ae PP 156 #[Kj b] Q H:=uE hK hv.ks h
theorem xz (hK:PK H b F s t) (hv:KAllW s t v){name:ByteArray} (h:∀ H',Fr [] H H'->Q (.tuple #[ac (fE v t name).1,ac (fE v t name).2]) H'):ae PP 151 #[Kj b,.string name] Q H:=by
 have w6:=hv.ks.shape.many1;apply CL;dsimp only [aK,aF,bJ,aT,gI,ao,bv,aE,aL,ac,cX,ck,am,aJ,ax,bP,bd];refine kD hK ⟨_,rfl,?_⟩;simp only [UB,Ut];rw [pU];have be:Fr [] H (H.push (.cells #[Kj b] 203)):=Fr.push _ _ _;have hB:=bH.new H #[Kj b] 203;refine ⟨aU.2 (by simp),_,hB.cell 0,nc (hK.nil be) fun H2 bw=>⟨_,rfl,?_⟩⟩;rw [hv.ks.root0];have s6:=be.trans bw;have l7:=hB.fr bw (by simp);refine ⟨_,l7.cell 0,lk (hK.nil s6) fun H3 la=>⟨_,rfl,?_⟩⟩;rw [hv.ks.size0];have J2:=s6.trans la;have Lm:=l7.fr la (by simp);refine ⟨fun w H'=>∃ i:Nat,w=[ac i]∧i<=v.cls.length∧Fr [] H3 H'∧∀ j (hj:j<v.cls.length),j<i->tx t (v.cls[j]).name≠name,fun w _=>match w with
  | [.int _ i]=>(v.cls.length-i).toNat
  | _=>0,⟨0,rfl,U7 _,Fr.refl _ _,fun j _ hj=>by omega⟩,?_⟩
 rintro w H4 ⟨i,rfl,hi,lq,tc⟩ _;have LD:=J2.trans lq;have L0:=Lm.fr lq (by simp);refine ⟨_,rfl,?_⟩;rw [ah];refine aP (fun aa=>?_) fun aa=>?_
 ·have dq:i<v.cls.length:=by omega
  refine ⟨_,L0.cell 0,ro (hK.nil LD) fun H5 Jo=>⟨_,rfl,_,(L0.fr Jo (by simp)).cell 0,?_⟩⟩;rw [(hv.ks.clsAt dq).2];refine vZ (hK.nil (LD.trans Jo)) fun H6 Ju=>⟨_,rfl,?_⟩;rw [hv.name dq,kM,ah];refine aP (fun he=>?_) fun he=>?_
  ·have Qr:fE v t name=((v.cls[i]).oop,0):=by
    unfold fE
    have:v.cls.findIdx? (fun c=>decide (tx t c.name=name))=some i:=by
     rw [V3];exact ⟨dq,by simpa using he,fun j hj=>by simpa using tc j (by omega) hj⟩
    rw [this];simp [dq]
   rw [Qr] at h;exact h _ ((LD.trans Jo).trans Ju)
  ·have e:IntKind.wrap .i64 ((i:Int)+1)=((i+1:Nat):Int):=by rw [az (by omega) (by omega)];omega
   rw [e];refine ⟨⟨i+1,rfl,by omega,(lq.trans Jo).trans Ju,fun j hj D4=>?_⟩,by simp;omega⟩;rcases Vp j i with h1 | h1
   ·exact tc j hj h1
   ·have:j=i:=by omega
    subst this;exact he
 ·have Qr:fE v t name=(0,130):=by
   unfold fE
   have:v.cls.findIdx? (fun c=>decide (tx t c.name=name))=none:=by
    rw [Wi];intro c hc;obtain ⟨j,hj,rfl⟩:=hv.ks.view.idx hc;simpa using tc j hj (by omega)
   rw [this]
  rw [Qr] at h;exact h _ LD
end
section
variable {H:ag}{b:Nat}{F:aR}{s:SP}{t:TB}{v:KV}{Q:QT}
theorem sf (hK:PK H b F s t){o:Int} (h:∀ a l c G H',cZ 1 H' a l c (av (kwords s.h o)) G->Fr [] H H'->(∀ x∈G,H.size<=x)->Q (.slice a l c) H'):ae PP 160 #[rd b,ac o] Q H:=by
 have ic:bj PP 30=some (1,8,some (ac 0)):=by kernel_rfl
 have G8:=nS (r:=s.h) o;have Nt:=xc hK.wfs.h o;apply Cj;dsimp only [aK,aT,ao,bv,aE,aL,ac,jO,au,ck,am,aJ,cC,ax,bd];have hf:Fr [] H (H.push (.cells #[Kj b] 203)):=Fr.push _ _ _;refine ⟨_,(bH.new _ _ _).cell 0,lk (hK.nil hf) fun H0 hE=>⟨_,rfl,?_⟩⟩;have If:=(bH.new H #[Kj b] 203).fr hE (by simp);refine ⟨fun w H'=>∃(i:Nat) (a:Option Addr) (l' c:Nat) (G:aR),w=[.slice a l' c,ac i]∧(i:Int)<=ksize s.h o∧cZ 1 H' a l' c (av ((kwords s.h o).take i)) G∧Fr [] H0 H'∧(∀ x∈G,H0.size<=x),fun w _=>match w with
  | [_,.int _ i]=>(ksize s.h o-i).toNat
  | _=>0,⟨0,none,0,0,[],rfl,G8,by simpa [av] using cZ.nil 1 H0,Fr.refl _ _,by simp⟩,?_⟩
 rintro w H1 ⟨i,a1,l1,c1,G,rfl,hi,ho,be,hG⟩ _;have ai:(kwords s.h o).length=(ksize s.h o).toNat:=by simp [kwords]
 have Lv:l1=i:=by have:=ho.len;simp only [av,UZ,U4] at this;omega
 have tl:Fr [] H H1:=(hf.trans hE).trans be;refine ⟨_,_,_,_,rfl,?_⟩;rw [ah];refine aP (fun aa=>?_) fun aa=>?_
 ·have ix:(kwords s.h o).take (i+1)=(kwords s.h o).take i++[kslot s.h o i]:=by
   rw [Vj,UF (by omega)];simp [kwords]
  have e:IntKind.wrap .i64 ((i:Int)+1)=((i+1:Nat):Int):=by rw [az (by omega) (by omega)];omega
  refine ⟨_,(If.fr be (by simp)).cell 0,sr (hK.nil tl) fun H2 bw=>⟨_,rfl,?_⟩⟩;refine dl ic rfl (by kernel_rfl) (ho.fr bw (by simp)) rfl (by simp [ge]) (by omega) (by decide) (by decide) fun a' c' G2 H3 g1 g2 g3=>⟨_,_,_,rfl,?_⟩;have r9:=Up.fresh (be.trans bw) g2 hG;rw [e];refine ⟨⟨i+1,a',l1+1,c',G2,rfl,by omega,?_,r9.1,r9.2⟩,by simp;omega⟩;rw [ix,cT];exact g1
 ·rw [UY (by omega)] at ho;exact h _ _ _ _ H1 ho tl fun x hx=>Ux (hf.trans hE).1 (hG x hx)
theorem zg (hK:PK H b F s t) (hv:KAllW s t v) (h:∀ a l c G H',cZ 1 H' a l c (bY (iA v t)) G->Fr [] H H'->(∀ x∈G,H.size<=x)->Q (.slice a l c) H'):ae PP 270 #[Kj b] Q H:=by
 have ic:bj PP 61=some (1,16,some (.string (⟨#[]⟩:ByteArray))):=by kernel_rfl
 have hg:=hv.ks.shape.globs;apply CE;dsimp only [aK,bJ,aT,gI,ao,bv,aE,aL,ac,jO,au,ck,am,aJ,cC,aZ,ax,bP,bd];refine kD hK ⟨_,rfl,?_⟩;simp only [UB,Ut];rw [pU];have be:Fr [] H (H.push (.cells #[Kj b] 203)):=Fr.push _ _ _;have hB:=bH.new H #[Kj b] 203;refine ⟨aU.2 (by simp),_,hB.cell 0,nc (hK.nil be) fun H2 bw=>⟨_,rfl,?_⟩⟩;rw [hv.ks.root1];have s6:=be.trans bw;have l7:=hB.fr bw (by simp);refine ⟨_,l7.cell 0,lk (hK.nil s6) fun H0 hE=>⟨_,rfl,?_⟩⟩;rw [hv.ks.size1];have M0:=s6.trans hE;have If:=l7.fr hE (by simp);have ed:IntKind.wrap .i64 (Int.tdiv (2*(v.glob.length:Int)) 2)=v.glob.length:=by
  rw [show Int.tdiv (2*(v.glob.length:Int)) 2=v.glob.length by rw [Wf (by omega)];omega];exact az (by omega) (by omega)
 have ai:(iA v t).length=v.glob.length:=by simp [iA]
 refine ⟨fun w H'=>∃(i:Nat) (a:Option Addr) (l' c:Nat) (G:aR),w=[.slice a l' c,ac i]∧i<=v.glob.length∧cZ 1 H' a l' c (bY ((iA v t).take i)) G∧Fr [] H0 H'∧(∀ x∈G,H0.size<=x),fun w _=>match w with
  | [_,.int _ i]=>(v.glob.length-i).toNat
  | _=>0,⟨0,none,0,0,[],rfl,U7 _,by simpa [bY] using cZ.nil 1 H0,Fr.refl _ _,by simp⟩,?_⟩
 rintro w H1 ⟨i,a1,l1,c1,G,rfl,hi,ho,la,hG⟩ _;have Lv:l1=i:=by have:=ho.len;simp only [bY,UZ,U4] at this;omega
 have tl:Fr [] H H1:=M0.trans la;refine ⟨_,_,_,_,rfl,?_⟩;rw [ed,ah];refine aP (fun aa=>?_) fun aa=>?_
 ·have dq:i<v.glob.length:=by omega
  have ix:(iA v t).take (i+1)=(iA v t).take i++[tx t v.glob[i].1]:=by
   rw [Vj,UF (by omega)];simp [iA]
  have e:IntKind.wrap .i64 ((i:Int)+1)=((i+1:Nat):Int):=by rw [az (by omega) (by omega)];omega
  have e2:IntKind.wrap .i64 (2*(i:Int))=((2*i:Nat):Int):=by rw [az (by omega) (by omega)];omega
  rw [e2];refine ⟨_,(If.fr la (by simp)).cell 0,vZ (hK.nil tl) fun H2 lq=>⟨_,rfl,?_⟩⟩;rw [hv.gname dq];refine dl ic rfl (by kernel_rfl) (ho.fr lq (by simp)) rfl (by simp [ge]) (by omega) (by decide) (by decide) fun a' c' G2 H3 g1 g2 g3=>⟨_,_,_,rfl,?_⟩;have r9:=Up.fresh (la.trans lq) g2 hG;rw [e];refine ⟨⟨i+1,a',l1+1,c',G2,rfl,by omega,?_,r9.1,r9.2⟩,by simp;omega⟩;rw [ix,ii];exact g1
 ·rw [UY (by omega)] at ho;exact h _ _ _ _ H1 ho tl fun x hx=>Ux M0.1 (hG x hx)
theorem IG (hK:PK H b F s t) (hv:KAllW s t v){w:Int} (h:Q (.tuple #[ac (qQ s.h w).1,ac (qQ s.h w).2]) H):ae PP 220 #[Kj b,ac w] Q H:=by
 apply DM;dsimp only [aF,bJ,aT,dd,ao,ak,aE,ac,aN,am];unfold qQ at h;refine kD hK ⟨_,rfl,?_⟩;simp only [UB,Ut];refine jF hK.kinds ⟨_,rfl,?_⟩;rw [bI,bI,bI,ah];refine aP (fun h1=>?_) fun h1=>?_
 ·rw [Ur h1] at h;exact h
 rw [Uq h1] at h;rw [ah];refine aP (fun h2=>?_) fun h2=>?_
 ·rw [Ur h2] at h;exact h
 rw [Uq h2] at h;rw [ah];refine aP (fun h3=>?_) fun h3=>?_
 ·rw [Ur h3] at h;refine jP hK.kinds ?_;unfold mE;rw [Ur h3];obtain ⟨sb,F1,hc,hS,_⟩:=hK.sp;refine ⟨_,_,rfl,_,rfl,_,hc,eV hS fun hb F2 hR _ _=>⟨_,rfl,lN hR ?_⟩⟩;unfold RH.clsAt at h ⊢;cases ho:aG s.h.objs (w / 4) with
  | none=>rw [ho] at h;exact ⟨_,_,rfl,h⟩
  | some x =>
   rw [ho] at h;refine ⟨_,_,rfl,?_⟩;have hc:=hv.ks.gc x (aD ho).1;simp only [show ((0:Int) != 0)=false from rfl,Ut];refine jP hK.kinds ?_;unfold mE;rw [Ur hc];refine ⟨_,_,rfl,?_⟩;simp only [jN,Ur hc] at h;exact h
 ·rw [Uq h3] at h;exact h
end
section
variable {H:ag}{b:Nat}{F:aR}{s:SP}{t:TB}{v:KV}{Q:QT}
theorem wn (hv:KAllW s t v){i:Nat} (hi:i<v.cls.length):jH s.h t (v.cls[i]).ownA=(v.cls[i]).own.map (tx t):=by
 unfold jH;rw [hv.ks.ownL hi,Uy];apply VM (by simp);intro j h1 h2;simp only [VT,Wm];exact hv.ownT hi (by simpa using h2)
theorem uJ (hv:KAllW s t v):∀ (i:Nat){H:ag}{Q:QT} (hK:PK H b F s t) (hi:i<v.cls.length) (h:∀ a l c G H',cZ 1 H' a l c (bY ((cF v i).map (tx t))) G->Fr [] H H'->(∀ x∈G,H.size<=x)->Q (.slice a l c) H'),ae PP 153 #[rd b,ac (v.cls[i]).oop] Q H:=by
 intro i
 induction i using Nat.strongRecOn with
 | ind i ih =>
  intro H Q hK hi h;have ic:bj PP 61=some (1,16,some (.string (⟨#[]⟩:ByteArray))):=by kernel_rfl
  have w6:=hv.ks.shape.many1;have hb:=rZ hv.ks hi;have LM:=py hv.ks i hi;apply xK;dsimp only [aK,aT,dU,ao,aE,aL,ac,au,am,aJ,cC,ax];rw [bI,ah,Uq (by omega)];have hf:Fr [] H (H.push (.cells #[Kj b] 203)):=Fr.push _ _ _;have hB:=bH.new H #[Kj b] 203;refine ⟨_,hB.cell 0,_,hB.cell 0,_,hB.cell 0,_,hB.cell 0,xN (hK.nil hf) fun H1 be=>⟨_,rfl,?_⟩⟩;have l8:=hB.fr be (by simp);have tl:=hf.trans be;refine ⟨⟨⟨l8.cell 0,trivial⟩,⟨l8.cell 0,trivial⟩,⟨l8.cell 0,trivial⟩,trivial⟩,?_⟩;have es:(if jQ s.h (v.cls[i]).oop 1=1 then 0 else jQ s.h (v.cls[i]).oop 1)=dt v i:=by
   rw [hv.ks.up hi];unfold dt;rw [UF hi]
  rw [es];have fin:∀ (l:List Nat) (hl:cF v i=l++(v.cls[i]).own) (a:Option Addr) (n c:Nat) (G:aR) (H2:ag),cZ 1 H2 a n c (bY (l.map (tx t))) G->Fr [] H1 H2->(∀ x∈G,H1.size<=x) ->
    ∃ a10 l10 c10,Value.slice a n c=.slice a10 l10 c10∧((aq H2 ⟨H.size,0,none⟩=some (Kj b)∧True)∧((aq H2 ⟨H.size,0,none⟩=some (Kj b)∧True)∧True))∧ae PP 272 #[rd b,ac (v.cls[i]).oop,ac 2] (fun v11 H3=>∃ n12:Int,v11=ac n12∧((aq H3 ⟨H.size,0,none⟩=some (Kj b)∧True)∧True)∧ae PP 277 #[rd b,ac n12] (fun v13 H4=>∃ a14:Option Addr,∃ l14:Nat,∃ c14:Nat,v13=.slice a14 l14 c14∧True∧cu PP (Builtin.append_ #[61,61] 61 #[.slice a10 l10 c10,.slice a14 l14 c14]) (fun v15 H5=>∃ a16:Option Addr,∃ l16:Nat,∃ c16:Nat,v15=.slice a16 l16 c16∧True∧Q (.slice a16 l16 c16) H5) H4) H3) H2:=by
   intro l hl a n c G H2 ho bw hG;have l7:=l8.fr bw (by simp);refine ⟨_,_,_,rfl,⟨⟨l7.cell 0,trivial⟩,⟨l7.cell 0,trivial⟩,trivial⟩,ro (hK.nil (tl.trans bw)) fun H3 la=>⟨_,rfl,⟨⟨(l7.fr la (by simp)).cell 0,trivial⟩,trivial⟩,?_⟩⟩;rw [hv.ks.ownO hi];refine Bm (hK.nil ((tl.trans bw).trans la)) fun a3 l3 c3 G3 H4 Fh lq Na=>⟨_,_,_,rfl,trivial,?_⟩;rw [wn hv hi] at Fh;have ai:n+l3<=8192*(i+1):=by
    have h1:=ho.len;have h2:=Fh.len;rw [hl,UP] at LM;simp only [bY,UZ] at h1 h2;omega
   refine eU ic rfl (by kernel_rfl) (ho.fr (la.trans lq) (by simp)) Fh.rd yt (by omega) (by decide) (by decide) fun a' c' G4 H5 g1 g2 g3=>⟨_,_,_,rfl,trivial,?_⟩;have r9:=Up.fresh ((bw.trans la).trans lq) g2 hG;refine h _ _ _ G4 H5 ?_ (tl.trans r9.1) fun x hx=>Ux tl.1 (r9.2 x hx);rw [hl,Vf,ii];exact g1
  rcases hv.ks.upI hi with ⟨h0,e0,_⟩ | ⟨j,hj,aa,e0,_,e⟩
  ·rw [e0];show ae PP 153 #[rd b,ac 0] _ H1;apply xK;dsimp only [aK,aT,dU,ao,aE,aL,ac,au,am,aJ,cC,ax];simp only [show ((0:Int) == 0)=true from rfl,UK];subst h0;exact fin [] (by rw [hv.ks.fields0 hi];rfl) none 0 0 [] _ (by simpa [bY] using cZ.nil 1 _) (Fr.push _ _ _) (by simp)
  ·rw [e0];exact ih j aa (hK.nil tl) hj fun a n c G H2 ho bw hG=>fin (cF v j) (hv.ks.fieldsS hi aa e) a n c G H2 ho bw hG
theorem zd (hK:PK H b F s t) (hv:KAllW s t v){o:Int} (h1:∀ i,eK v o=some i->∀ a l c G H',cZ 1 H' a l c (bY ((cF v i).map (tx t))) G->Fr [] H H'->(∀ x∈G,H.size<=x)->Q (.tuple #[.slice a l c,ac 0]) H')
  (h2:eK v o=none->∀ H',Fr [] H H'->Q (.tuple #[.slice none 0 0,ac 130]) H'):ae PP 308 #[Kj b,ac o] Q H:=by
 apply Dw;dsimp only [aK,dU,ao,ik,aE,aL,ac,au,am,aJ,bP,bU];refine vD hK hv (fun i hp H1 hf=>?_) fun hp H1 hf=>?_
 ·refine ⟨_,_,rfl,aU.2 (by simp),?_⟩;simp only [show ((0:Int) != 0)=false from rfl,Ut];rw [pU];have be:Fr [] H1 (H1.push (.cells #[Kj b] 203)):=Fr.push _ _ _;obtain ⟨hi,he⟩:=dE hp;refine ⟨_,(bH.new H1 _ _).cell 0,?_⟩;rw [←he];refine uJ hv i (hK.nil (hf.trans be)) hi fun a l c G H2 ho bw hG=>⟨_,_,_,rfl,h1 i hp _ _ _ G H2 ho ((hf.trans be).trans bw) fun x hx=>Ux (hf.trans be).1 (hG x hx)⟩
 ·refine ⟨_,_,rfl,aU.2 (by simp),?_⟩;simp only [show ((130:Int) != 0)=true from rfl,UK];rw [pU];exact h2 hp _ hf.more
end
theorem Gz {s:ByteArray}{i:Nat} (h:i<s.size):s[i]?=some s[i]∧(s[i]).toNat=gB s i:=by
 have:s[i]?=some s[i]:=by simp [h]
 exact ⟨this,by rw [Eo this]⟩
section
variable {H:ag}{b:Nat}{F:aR}{s:SP}{t:TB}{v:KV}{Q:QT}
theorem wW {x:ByteArray}{lo up:Nat} (h:∀ H',Fr [] H H'->Q (.bool (decide (jM lo up x))) H'):ae PP 149 #[.string x,.int .u8 lo,.int .u8 up] Q H:=by
 apply EF;dsimp only [bk,ao,cS,bv,bq,ac,bu,cX,ck,cC,aZ,ax,zr,bd];have no:¬ jM lo up x->∀ H',Fr [] H H'->Q (.bool false) H':=fun hn H' hf=>by have:=h H' hf;rw [Vz hn] at this;exact this
 rw [kM,ah];refine aP (fun h1=>no (fun hn=>?_) _ (Fr.refl _ _)) fun h1=>?_
 ·have:=hn.1;rw [h1] at this;exact absurd this (by decide)
 have ly:0<x.size:=by
  rcases WN x.size with h0 | h0
  ·exfalso;apply h1;obtain ⟨d⟩:=x
   have:d=#[]:=Array.eq_empty_of_size_eq_zero h0;rw [this]
  ·exact h0
 rw [ah];refine aP (fun h2=>no (fun hn=>by have:=hn.2.1;omega) _ (Fr.refl _ _)) fun h2=>?_;obtain ⟨g1,g2⟩:=Gz ly;refine ⟨_,⟨Vo 0,g1⟩,?_⟩;rw [g2,ah];refine aP (fun h3=>no (fun hn=>by have:=hn.2.2.1;omega) _ (Fr.refl _ _)) fun h3=>⟨_,⟨Vo 0,g1⟩,?_⟩;rw [g2,ah];refine aP (fun h4=>no (fun hn=>by have:=hn.2.2.2.1;omega) _ (Fr.refl _ _)) fun h4=>?_;refine yk (e:=5) (by kernel_rfl) (by kernel_rfl) (by kernel_rfl) fun cap H0 hE aj=>⟨_,_,_,rfl,?_⟩;refine ⟨fun w H'=>H'=H0∧∃ i:Nat,w=[ac i]∧i<=x.size∧∀ j,j<i->eS (gB x j),fun w _=>match w with
  | [.int _ i]=>(x.size-i).toNat
  | _=>0,⟨rfl,0,rfl,U7 _,fun j hj=>by omega⟩,?_⟩
 rintro w H1 ⟨rfl,i,rfl,hi,al⟩ _;refine ⟨_,rfl,?_⟩;rw [ah];refine aP (fun aa=>?_) fun aa=>?_
 ·have dq:i<x.size:=by omega
  have e:IntKind.wrap .i64 ((i:Int)+1)=((i+1:Nat):Int):=by rw [az (by omega) (by omega)];omega
  have hc:=aj i dq;have S5:((x[i]?.getD 0).toNat:Int)=(gB x i:Int):=rfl;rw [S5] at hc;refine ⟨⟨by omega,aa⟩,_,rfl,_,by rw [Uy,UC,aC,UE];exact hc,?_⟩;have go:eS (gB x i)->(True∧∃ i_1:Nat,[Value.int .i64 (IntKind.wrap .i64 ((i:Int)+1))]=[ac i_1]∧i_1<=x.size∧∀ j,j<i_1->eS (gB x j))∧((x.size:Int)-(IntKind.wrap .i64 ((i:Int)+1))).toNat<((x.size:Int)-(i:Int)).toNat:=fun ha=>by
   rw [e];refine ⟨⟨trivial,i+1,rfl,by omega,fun j hj=>?_⟩,by omega⟩;rcases Vp j i with h5 | h5
   ·exact al j h5
   ·have:j=i:=by omega
    rw [this];exact ha
  have bad:¬ eS (gB x i)->Q (.bool false) H1:=fun ha=>no (fun hn=>ha (hn.2.2.2.2 i dq)) _ hE;simp only [ah];refine aP (fun c1=>aP (fun c2=>aP (fun c3=>bad (by unfold eS;omega)) fun c3=>aP (fun c4=>bad (by unfold eS;omega)) fun c4=>go (by unfold eS;omega)) fun c2=>aP (fun c3=>aP (fun c4=>bad (by unfold eS;omega)) fun c4=>aP (fun c5=>bad (by unfold eS;omega)) fun c5=>go (by unfold eS;omega)) fun c3=>go (by unfold eS;omega)) fun c1=>aP (fun c2=>aP (fun c3=>aP (fun c4=>bad (by unfold eS;omega)) fun c4=>aP (fun c5=>bad (by unfold eS;omega)) fun c5=>go (by unfold eS;omega)) fun c3=>aP (fun c4=>aP (fun c5=>bad (by unfold eS;omega)) fun c5=>aP (fun c6=>bad (by unfold eS;omega)) fun c6=>go (by unfold eS;omega)) fun c4=>go (by unfold eS;omega)) fun c2=>go (by unfold eS;omega)
 ·have:i=x.size:=by omega
  subst this
  have:=h H1 hE;have S6:jM lo up x:=⟨ly,by omega,by omega,by omega,al⟩;rw [Vs S6] at this;exact this
theorem Cp {x:ByteArray} (h:∀ H',Fr [] H H'->Q (.bool (decide (iJ x))) H'):ae PP 154 #[.string x] Q H:=by
 apply Ck;dsimp only [bk,bJ,ao,aZ,ax];have no:¬ iJ x->Q (.bool false) H:=fun hn=>by have:=h H (Fr.refl _ _);rw [Vz hn] at this;exact this
 simp only [kM,ah];refine aP (fun h1=>no fun hn=>hn.1 (.inl h1)) fun h1=>aP (fun h2=>no fun hn=>hn.1 (.inr (.inl h2))) fun h2=>aP (fun h3=>no fun hn=>hn.1 (.inr (.inr (.inl h3)))) fun h3=>aP (fun h4=>no fun hn=>hn.1 (.inr (.inr (.inr (.inl h4))))) fun h4=>aP (fun h5=>no fun hn=>hn.1 (.inr (.inr (.inr (.inr h5))))) fun h5=>?_;refine wW (lo:=97) (up:=122) fun H' hf=>⟨_,rfl,?_⟩
 have:=h H' hf;have e:decide (iJ x)=decide (jM 97 122 x):=by
  rw [decide_eq_decide];unfold iJ zv;constructor
  ·exact fun h=>h.2
  ·exact fun hn=>⟨fun h=>by rcases h with h | h | h | h | h <;> contradiction,hn⟩
 rw [e] at this;exact this
theorem lh {a:Option Addr}{l c:Nat}{xs:List ByteArray}{x:ByteArray} (hk:Rd 1 H a l (bY xs)) (HP:l<=1000000000000000) (h:Q (.bool (decide (x∈xs))) H):ae PP 155 #[.slice a l c,.string x] Q H:=by
 have hl:l=xs.length:=by have:=hk.1;simpa [bY] using this.symm
 apply Co;dsimp only [bk,aT,au,aZ];apply Cx;dsimp only [ao,bv,jT,bq,ac,bu,cX,ck,bd];refine ⟨fun w H'=>H'=H∧∃ i:Nat,w=[ac i]∧i<=l∧∀ j (hj:j<xs.length),j<i->xs[j]≠x,fun w _=>match w with
  | [.int _ i]=>(l-i).toNat
  | _=>0,⟨rfl,0,rfl,U7 _,fun j _ hj=>by omega⟩,?_⟩
 rintro w H1 ⟨rfl,i,rfl,hi,al⟩ _;refine ⟨_,rfl,?_⟩;rw [ah];refine aP (fun aa=>?_) fun aa=>?_
 ·obtain ⟨p,gw,rfl,aj⟩:=hk.str (i:=(i:Int)) (by omega) aa;simp only [Uy] at aj gw;have e:IntKind.wrap .i64 ((i:Int)+1)=((i+1:Nat):Int):=by rw [az (by omega) (by omega)];omega
  refine ⟨⟨by omega,aa⟩,_,rfl,_,by rw [Uy,UC];exact aj,?_⟩;rw [kM,ah];refine aP (fun he=>⟨_,rfl,?_⟩) fun he=>?_
  ·rw [Vs (show x∈xs by rw [he];exact UQ _)] at h;rw [Vs (show (i:Int) ≥ 0 by omega)];exact h
  ·rw [e];refine ⟨⟨rfl,i+1,rfl,by omega,fun j hj D4=>?_⟩,by simp;omega⟩;rcases Vp j i with h5 | h5
   ·exact al j hj h5
   ·have:j=i:=by omega
    subst this;exact fun e=>he e.symm
 ·refine ⟨_,rfl,?_⟩
  have:x∉xs:=fun hm=>by
   obtain ⟨j,hj,he⟩:=VK hm;exact al j hj (by omega) he
  rw [Vz this] at h;exact h
theorem CX (hK:PK H b F s t) (hv:KAllW s t v){name:ByteArray} (h:∀ H',Fr [] H H'->Q (.bool (decide (kn v t name))) H'):ae PP 150 #[Kj b,.string name] Q H:=by
 have hg:=hv.ks.shape.globs;apply Bz;dsimp only [bk,bJ,dU,ao,ak,au,am,aZ];refine xz hK hv fun H1 be=>⟨_,_,rfl,?_⟩;rw [bI,ah];refine aP (fun h1=>?_) fun h1=>?_
 ·have:=h H1 be;rw [Vs (show kn v t name from .inl h1)] at this;exact this
 ·refine zg (hK.nil be) hv fun a l c G H2 ho bw hG=>⟨_,_,_,rfl,lh ho.rd ?_ ⟨_,rfl,?_⟩⟩
  ·have:=ho.len;simp only [bY,iA,UZ] at this;omega
  ·have:=h H2 (be.trans bw);have e:decide (kn v t name)=decide (name∈iA v t):=by
    rw [decide_eq_decide];unfold kn;exact ⟨fun h=>h.resolve_left h1,.inr⟩
   rw [e] at this;exact this
theorem tY (hK:PK H b F s t) (hv:KAllW s t v){name sup:ByteArray}{a:Option Addr}{l c:Nat}{own:List ByteArray} (hk:Rd 1 H a l (bY own)) (JK:l<=c) (HP:l<=1000000000000000)
  (h:∀ H',Fr [] H H'->Q (.tuple #[ac (jL v t name sup own).1,ac (jL v t name sup own).2]) H'):ae PP 78 #[Kj b,.string name,.string sup,.slice a l c] Q H:=by
 have w6:=hv.ks.shape.many1;have hl:l=own.length:=by have:=hk.1;simpa [bY] using this.symm
 apply GZ;dsimp only [aK,aF,bJ,aT,dU,ao,ak,cS,bv,aE,jT,bq,aL,ac,bu,zp,cX,au,ck,am,aJ,aZ,ax,bP,bd];unfold jL at h;refine wW (lo:=65) (up:=90) fun H1 be=>⟨_,rfl,?_⟩;rw [←decide_not,ah];refine aP (fun h1=>?_) fun h1=>?_
 ·rw [Ur h1] at h;exact h H1 be
 rw [Uq h1] at h;refine CX (hK.nil be) hv fun H2 bw=>⟨_,rfl,?_⟩;have s6:=be.trans bw;rw [ah];refine aP (fun h2=>?_) fun h2=>?_
 ·rw [Ur h2] at h;exact h H2 s6
 rw [Uq h2] at h;refine xz (hK.nil s6) hv fun H3 la=>⟨_,_,rfl,?_⟩;have J2:=s6.trans la;rw [bK,ah];refine aP (fun h3=>?_) fun h3=>?_
 ·rw [Ur h3] at h;exact h H3 J2
 rw [Uq h3] at h;rcases iD v t sup with ⟨e,_⟩ | ⟨j,hj,e,_⟩
 ·rw [e] at h3;simp at h3
 have LM:=py hv.ks j hj;rw [e] at h ⊢;simp only [hv.ks.idx hj] at h;rw [pU];have lq:Fr [] H3 (H3.push (.cells #[Kj b] 203)):=Fr.push _ _ _;have hB:=bH.new H3 #[Kj b] 203;have LD:=J2.trans lq;generalize (H3.push (.cells #[Kj b] 203))=H4 at lq hB LD ⊢;have hW:Wr (H3.push (.cells #[.pointer none] 203)) ⟨H3.size,0,none⟩:=aU.2 (by simp);refine ⟨hW,fun w H'=>w=[]∧Fr [] H4 H'∧¬ (1<=j∧j<14),⟨_,hB.cell 0,zX (hK.nil LD) fun H5 Jo=>⟨_,rfl,?_⟩⟩,?_⟩
 ·rw [hv.ks.num hj,ah];refine aP (fun h4=>?_) fun h4=>⟨rfl,Jo,by omega⟩;rw [ah];refine aP (fun h5=>?_) fun h5=>⟨rfl,Jo,by omega⟩;rw [Ur (by omega)] at h;exact h H5 (LD.trans Jo)
 rintro w H5 ⟨rfl,Jo,h4⟩ _;rw [Uq h4] at h;have RQ:=LD.trans Jo;refine ⟨rfl,_,(hB.fr Jo (by simp)).cell 0,uJ hv j (hK.nil RQ) hj fun a6 l6 c6 G H6 RR Ju hG=>⟨_,_,_,rfl,?_⟩⟩;have S7:=RQ.trans Ju;have S8:l6=(cF v j).length:=by have:=RR.len;simpa [bY] using this.symm
 refine ⟨fun w H'=>∃ i:Nat,w=[ac i]∧i<=l∧Fr [] H6 H'∧mh ((cF v j).map (tx t)) (own.take i) (own.drop i)=mh ((cF v j).map (tx t)) [] own,fun w _=>match w with
  | [.int _ i]=>(l-i).toNat
  | _=>0,⟨0,rfl,U7 _,Fr.refl _ _,by simp⟩,?_⟩
 rintro w H7 ⟨i,rfl,hi,Jw,cr⟩ _;have MG:=S7.trans Jw;refine ⟨_,rfl,?_⟩;rw [ah];refine aP (fun aa=>?_) fun aa=>?_
 ·have dq:i<own.length:=by omega
  obtain ⟨p,gw,rfl,aj⟩:=(hk.fr' MG (by simp)).str (i:=(i:Int)) (by omega) aa;simp only [Uy] at aj gw;have e1:IntKind.wrap .i64 ((i:Int)+1)=((i+1:Nat):Int):=by rw [az (by omega) (by omega)];omega
  have ed:own.drop i=own[i] :: own.drop (i+1):=Vr dq;have et:own.take (i+1)=own.take i++[own[i]]:=by rw [Vj];simp [dq]
  rw [ed] at cr;rw [mh] at cr;refine ⟨⟨by omega,aa⟩,_,rfl,_,by rw [Uy,UC];exact aj,Cp fun H8 MH=>⟨_,rfl,?_⟩⟩;rw [←decide_not,ah];refine aP (fun h5=>?_) fun h5=>?_
  ·rw [Ur h5] at cr;rw [Ur (by rw [←cr];decide),←cr] at h;exact h H8 (MG.trans MH)
  rw [Uq h5] at cr;have Qs:=MG.trans MH;refine ⟨⟨by omega,by omega⟩,lh (xs:=own.take i) ?_ (by simp;omega) ⟨_,rfl,?_⟩⟩
  ·have:=hk.fr' Qs (by simp);refine ⟨by simp [bY];omega,(fun hn=>by cases hn),fun q hq k dn=>?_⟩;rw [Uy] at dn;have h6:=this.2.2 q hq k (by omega);rw [h6];simp only [bY,Va];rw [VQ (by omega)]
  rw [ah];refine aP (fun h6=>?_) fun h6=>?_
  ·rw [Ur h6] at cr;rw [Ur (by rw [←cr];decide),←cr] at h;exact h H8 Qs
  rw [Uq h6] at cr;refine lh ((RR.fr Jw (by simp)).fr MH (by simp)).rd (by omega) ⟨_,rfl,?_⟩;rw [ah];refine aP (fun h7=>?_) fun h7=>?_
  ·rw [Ur h7] at cr;rw [Ur (by rw [←cr];decide),←cr] at h;exact h H8 Qs
  rw [Uq h7] at cr;rw [e1];exact ⟨⟨i+1,rfl,by omega,Jw.trans MH,by rw [et];exact cr⟩,by simp;omega⟩
 ·have lp:i=own.length:=by omega
  rw [lp,Wd] at cr;have h0:mh ((cF v j).map (tx t)) [] own=0:=by rw [←cr];rfl
  rw [Uq (by rw [h0];decide)] at h;have ew:IntKind.wrap .i64 ((l6:Int)+(l:Int))=(l6:Int)+l:=az (by omega) (by omega);rw [ew,ah];refine aP (fun h5=>?_) fun h5=>?_
  ·rw [Ur (by omega)] at h;exact h H7 MG
  rw [Uq (by omega)] at h;refine Dc (hK.nil MG) hv fun H8 MH=>⟨_,rfl,?_⟩;rw [ah];refine aP (fun h6=>?_) fun h6=>?_
  ·rw [Ur (by omega)] at h;exact h H8 (MG.trans MH)
  rw [Uq (by omega)] at h;exact h H8 (MG.trans MH)
end
structure PM (H:ag) (mb b:Nat) (F:aR) (s:SP) (t:TB) (cnt mk kp:Int):Prop where
 k:PK H b F s t
 m:bH H mb #[Kj b,ac cnt,ac mk,ac kp]
 out:mb∉F
theorem Up.out {F F':aR}{H H':ag} (h:Up F H F' H'){x:Nat} (hx:x∉F) (hl:x<H.size):x∉F':=fun hm=>by
 rcases h.2 x hm with h1 | h1
 ·exact hx h1
 ·omega
theorem PM.up {H H':ag}{mb b:Nat}{F F':aR}{s s':SP}{t t':TB}{cnt mk kp:Int} (h:PM H mb b F s t cnt mk kp) (hk:PK H' b F' s' t') (hu:Up F H F' H'):PM H' mb b F' s' t' cnt mk kp :=
 ⟨hk,h.m.fr hu.1 h.out,Up.out hu h.out h.m.lt⟩
theorem PM.nil {H H':ag}{mb b:Nat}{F:aR}{s:SP}{t:TB}{cnt mk kp:Int} (h:PM H mb b F s t cnt mk kp) (hf:Fr [] H H'):PM H' mb b F s t cnt mk kp:=⟨h.k.nil hf,h.m.fr hf (by simp),h.out⟩
theorem Up.of_nil {F:aR}{H H':ag} (h:Fr [] H H'):Up F H F H':=⟨Kw.Fr.of_nil h,fun _ h=>.inl h⟩
theorem xa {r:RH} (k i w j:Int){y:RO} (h:aG (r.put k i w).2.objs j=some y):∃ x,aG r.objs j=some x∧y.fmt=x.fmt:=by
 unfold RH.put at h;split at h
 ·exact ⟨y,h,rfl⟩
 split at h
 ·exact ⟨y,h,rfl⟩
 split at h
 ·exact ⟨y,h,rfl⟩
 ·simp only at h;rw [dG (f:=eC i w) (fun o=>rfl)] at h;cases hx:aG r.objs j with
  | none=>rw [hx] at h;cases h
  | some x =>
   rw [hx] at h;simp only [Vw,Option.some.injEq] at h;refine ⟨x,rfl,?_⟩;rw [←h];split <;> rfl
section
variable {H:ag}{mb b:Nat}{F:aR}{s:SP}{t:TB}{v:KV}{cnt mk kp:Int}{Q:QT}
theorem qR (hM:PM H mb b F s t cnt mk kp){x:ByteArray} (h:∀ H' F',PM H' mb b F' s (t.add x).2 cnt mk kp->Up F H F' H'->Q (.tuple #[ac (if (t.add x).1.2=0 then 4*(t.add x).1.1+2 else 0),ac (t.add x).1.2]) H'):ae PP 157 #[Kj mb,.string x] Q H:=by
 apply De;dsimp only [aF,ao,ak,aE,ac,aN,am,aZ];obtain ⟨tb,F2,hc,hT,ap,LV,cx,_⟩:=hM.k.tb;refine ⟨_,rfl,_,hM.m.cell 0,_,rfl,_,hc,sg hT fun H1 F1 S9 Lo=>⟨_,_,rfl,?_⟩⟩;obtain ⟨F',lc,Lp⟩:=cx H1 F1 _ S9 Lo;have zw:=hM.up lc Lp;rw [bK,ah];refine aP (fun h1=>?_) fun h1=>?_
 ·have:=h _ _ zw Lp;rw [Uq h1] at this;exact this
 ·have hz:(t.add x).1.2=0:=Uv h1;obtain ⟨n,e1,e2,_⟩:=lC x hz;have hw:=lc.wft;have h2:=(ij e2).2;have h3:=hw.m1;have h4:=hw.len;rw [e1];refine A5 ⟨by omega,by omega⟩ ⟨_,_,rfl,?_⟩
  have:=h _ _ zw Lp;rw [Ur hz,e1,hz] at this;exact this
theorem xo (hM:PM H mb b F s t cnt mk kp){cls:Int} (u0:1<=cls∧cls<=65536){a:Option Addr}{l c:Nat}{ws:List Int} (hk:Rd 1 H a l (av ws)) (hd:∀ p,a=some p->p.block∉F) (HP:l<=1000000000)
  (h:∀ H' F',PM H' mb b F' (s.make cls ws).2 t cnt mk kp->Up F H F' H'->Q (.tuple #[ac (s.make cls ws).1.1,ac (s.make cls ws).1.2]) H'):ae PP 159 #[Kj mb,ac cls,.slice a l c] Q H:=by
 have hl:l=ws.length:=by have:=hk.1;simpa [av] using this.symm
 apply EE;dsimp only [aK,aF,aT,dd,ao,ak,bv,aB,aE,bq,ac,bu,cX,au,ck,aN,am,aJ,bd];unfold SP.make at h;obtain ⟨sb,F1,hc,hS,ap,LV,_,cx⟩:=hM.k.sp;refine ⟨_,rfl,_,hM.m.cell 0,_,rfl,_,hc,dN u0 ⟨_,rfl,⟨⟨hc,trivial⟩,⟨hM.m.cell 0,trivial⟩,trivial⟩,?_⟩⟩;rw [hl];refine je hS fun H1 Jv be=>⟨_,_,rfl,trivial,?_⟩;have MI:=be.mono ap;have Lp:Up F H F H1:=⟨MI,fun _ h=>.inl h⟩;have zw:=hM.up (cx H1 _ Jv be) Lp;have JP:=hk.fr' MI hd;rw [bK,ah];refine aP (fun h1=>?_) fun h1=>?_
 ·rw [Ur h1] at h;exact h _ _ zw Lp
 rw [Uq h1] at h;have hz:(s.alloc (4*cls) ws.length 0).1.2=0:=Uv h1;obtain ⟨o,e1,o1,o2,_,_,MA,_⟩:=rp hM.k.wfs hz;rw [Ur hz];rw [e1] at h ⊢;have e2:4*o / 4=o:=by omega
 rw [e2] at h;generalize (s.alloc (4*cls) ws.length 0).2=s1 at *;have JB:aA (4*o)=3:=by have:=bl (4*o);omega
 refine jP zw.k.kinds ?_;unfold mE;rw [Ur JB];simp only [e2];refine ⟨_,_,rfl,?_⟩;refine ⟨fun w H'=>∃(i:Nat) (r:RH),w=[ac i]∧i<=ws.length∧PM H' mb b F { s1 with h:=r } t cnt mk kp∧Fr F H1 H'∧r.lay o i (ws.drop i)=s1.h.lay o 0 ws∧∀ x,aG r.objs o=some x->x.fmt=0,fun w _=>match w with
  | [.int _ i]=>(ws.length-i).toNat
  | _=>0,⟨0,s1.h,rfl,U7 _,zw,Fr.refl _ _,rfl,fun x hx=>by obtain ⟨y,h2,h3,_⟩:=MA;rw [h2] at hx;cases hx;exact h3⟩,?_⟩
 rintro w H4 ⟨i,r,rfl,hi,Jg,lq,rF,K4⟩ _;refine ⟨_,rfl,?_⟩;rw [ah];refine aP (fun aa=>?_) fun aa=>?_
 ·obtain ⟨p,rfl,aj,gw⟩:=(JP.fr' lq hd).int (i:=(i:Int)) (by omega) (by omega);rw [Uy] at aj gw;have hx:ws.getD i 0=ws[i]:=by simp [gw]
  rw [hx] at aj;have ed:ws.drop i=ws[i] :: ws.drop (i+1):=Vr gw;have e:IntKind.wrap .i64 ((i:Int)+1)=((i+1:Nat):Int):=by rw [az (by omega) (by omega)];omega
  obtain ⟨sb4,F4,L1,LX,Jx,_,_,JM⟩:=Jg.k.sp;refine ⟨⟨by omega,aa⟩,_,rfl,_,by rw [Uy,UC];exact aj,_,rfl,_,Jg.m.cell 0,_,rfl,_,L1,eV LX fun hb F5 hR Fl K5=>⟨_,rfl,ql hR K4 fun H6 OU Ju=>⟨_,rfl,?_⟩⟩⟩;have N3:=K5 H6 _ OU Ju;have Lq:=JM H6 _ N3 (Ju.mono Fl);have N4:Fr F H4 H6:=(Ju.mono Fl).mono Jx;have Ta:=Jg.up Lq ⟨N4,fun _ h=>.inl h⟩;rw [e];refine ⟨⟨i+1,(r.put o i ws[i]).2,rfl,by omega,Ta,lq.trans N4,?_,fun x hx=>?_⟩,by simp;omega⟩
  ·rw [←rF,ed];simp only [RH.lay]
   congr 1
   all_goals omega
  ·obtain ⟨y,h2,h3⟩:=xa o i ws[i] o hx;rw [h3];exact K4 y h2
 ·have lp:i=ws.length:=by omega
  subst lp;rw [Wd] at rF;simp only [RH.lay] at rF;rw [rF] at Jg;obtain ⟨sb4,F4,L1,LX,Jx,_,JM,_⟩:=Jg.k.sp;refine ⟨_,rfl,_,Jg.m.cell 0,_,rfl,_,L1,?_⟩;have fp:Fr [] H4 (H4.push (.cells #[ac (4*o)] 26)):=Fr.push _ _ _;have O0:=Jg.nil fp;obtain ⟨sb5,F5,RT,Qt,Fl,_,K5,_⟩:=O0.k.sp;have MX:sb5=sb4:=by
   have:aq (H4.push (.cells #[ac (4*o)] 26)) ⟨b,0,none⟩=aq H4 ⟨b,0,none⟩:=iO (Jg.k.lt b Jg.k.bmem);rw [this,L1] at RT;simpa using RT.symm
  subst MX;refine qa Qt (ws:=[4*o]) ?_ (by omega) fun H7 F7 Tb Qu=>⟨_,rfl,?_⟩
  ·refine ⟨rfl,(fun h=>by cases h),fun p hp k hk=>?_⟩;cases hp
   have:k=0:=by omega
   subst this;rw [aC];exact (bH.new H4 _ _).cell 0
  ·obtain ⟨F',Lr,N5⟩:=K5 H7 F7 _ Tb Qu;have Tc:=O0.up Lr N5;exact h H7 F' Tc ((Lp.trans ⟨lq,fun _ h=>.inl h⟩).trans ((Up.of_nil fp).trans N5))
theorem uC (hM:PM H mb b F s t cnt mk kp){a:Option Addr}{l c:Nat}{ws:List Int} (hk:Rd 1 H a l (av ws)) (hd:∀ p,a=some p->p.block∉F) (HP:l<=1000000000)
  (h:∀ H' F',PM H' mb b F' (s.array ws).2 t cnt mk kp->Up F H F' H'->Q (.tuple #[ac (s.array ws).1.1,ac (s.array ws).1.2]) H'):ae PP 158 #[Kj mb,.slice a l c] Q H:=by
 have hl:l=ws.length:=by have:=hk.1;simpa [av] using this.symm
 apply Dm;dsimp only [aF,aT,ao,ak,ac,au,am];unfold SP.array at h;rw [bI,ah];refine aP (fun h0=>?_) fun h0=>?_
 ·have:ws=[]:=UX (by omega);rw [Ur this] at h;exact dN (by decide) ⟨_,rfl,h H F hM (Up.refl _ _)⟩
 ·have:ws≠[]:=fun e=>h0 (by rw [hl,e];rfl);rw [Uq this] at h;exact xo hM (by decide) hk hd HP fun H' F' zw hu=>⟨_,_,rfl,h H' F' zw hu⟩
end
def zn (H:ag) (a:Option Addr) (F:aR):Prop:=∀ p,a=some p->p.block<H.size∧p.block∉F
theorem zn.up {H H':ag}{a:Option Addr}{F F':aR} (h:zn H a F) (hu:Up F H F' H'):zn H' a F':=fun p hp=>⟨UJ (h p hp).1 hu.1.1,Up.out hu (h p hp).2 (h p hp).1⟩
theorem zn.rd {H H':ag}{a:Option Addr}{F F':aR}{l:Nat}{ys:List Value} (h:zn H a F) (hu:Up F H F' H') (hk:Rd 1 H a l ys):Rd 1 H' a l ys:=hk.fr' hu.1 fun p hp=>(h p hp).2
def vN (H:ag) (a:Option Addr) (l:Nat) (F:aR):Prop:=l=0∨zn H a F
theorem vN.up {H H':ag}{a:Option Addr}{l:Nat}{F F':aR} (h:vN H a l F) (hu:Up F H F' H'):vN H' a l F':=h.imp id fun h=>h.up hu
theorem vN.rd {H H':ag}{a:Option Addr}{F F':aR}{l:Nat}{ys:List Value} (h:vN H a l F) (hu:Up F H F' H') (hk:Rd 1 H a l ys):Rd 1 H' a l ys:=by
 rcases h with h | h
 ·subst h;exact ⟨hk.1,hk.2.1,fun p _ i hi=>by simp at hi⟩
 ·exact h.rd hu hk
theorem cZ.out {H:ag}{a:Option Addr}{l c:Nat}{xs:List Value}{F G:aR} (h:cZ 1 H a l c xs G) (hd:dB G F):zn H a F:=fun p hp=>by
 have aa:=h.lt;rcases h.2.2 with ⟨h1,_⟩ | ⟨b',cs,h1,rfl,_⟩
 ·rw [h1] at hp;cases hp
 ·rw [h1] at hp;cases hp;exact ⟨aa _ (by simp),hd _ (by simp)⟩
theorem eH {F:aR}{H H':ag}{b o:Nat} (hf:Fr F H H') (hb:b∉F) (hl:b<H.size):aq H' ⟨b,o,none⟩=aq H ⟨b,o,none⟩:=by
 unfold aq;rw [hf.2 b hl hb]
theorem pO {H:ag}{cs:List Int}{t:TypeId}:Rd 1 (H.push (.cells (av cs).toArray t)) (some ⟨H.size,0,none⟩) cs.length (av cs):=by
 refine ⟨by simp [av],(fun h=>by cases h),fun p hp k hk=>?_⟩;cases hp;rw [aC,UE,(bH.new H _ _).cell];simp
section
variable {H:ag}{mb b:Nat}{F:aR}{s:SP}{t:TB}{v:KV}{cnt mk kp:Int}{Q:QT}
theorem Ez (hK:PK H b F s t) (h:∀ H' mb,PM H' mb b F s t t.texts.length s.h.mark s.stack.length->Fr [] H H'->Q (Kj mb) H'):ae PP 79 #[Kj b] Q H:=by
 apply FJ;dsimp only [aK,aT,dU,dd,aE,ac,aN,am,aJ,ax];obtain ⟨tb,F2,nq,hT,_⟩:=hK.tb;obtain ⟨sb,F1,hc,hS,_⟩:=hK.sp;refine ⟨_,rfl,_,nq,_,rfl,_,hc,_,rfl,_,hc,zf hT ⟨_,rfl,⟨⟨hc,trivial⟩,⟨hc,trivial⟩,trivial⟩,eV hS fun hb F3 hR _ _=>⟨_,rfl,⟨⟨hc,trivial⟩,trivial⟩,yh hR ⟨_,rfl,⟨⟨hc,trivial⟩,trivial⟩,?_⟩⟩⟩⟩;refine vh hS fun a c H1 _ hf=>⟨_,_,_,rfl,trivial,trivial,?_⟩;have bw:=hf.more (o:=.cells #[Kj b,ac (t.texts.length:Int),ac s.h.mark,ac (s.stack.length:Int)] 207);refine h _ H1.size ⟨hK.nil bw,bH.new _ _ _,fun hm=>?_⟩ bw
 have:=(hK.nil hf).lt _ hm;omega
theorem Hu (hM:PM H mb b F s t cnt mk kp) (Ni:0<=kp∧kp<=1000000){e:Int} (h:∀ H',PK H' b F (lP s t mk cnt kp e).1 (lP s t mk cnt kp e).2->Fr F H H'->Q (ac e) H'):ae PP 81 #[Kj mb,ac e] Q H:=by
 have NC:=hM.k.wfs.many;apply Gx;dsimp only [aT,dU,dd,ao,aB,aE,ac,aN,am,bd];unfold lP at h;obtain ⟨sb,F1,hc,hS,ap,Qv,_,cx⟩:=hM.k.sp;refine ⟨_,rfl,_,hM.m.cell 0,_,rfl,_,hc,_,rfl,_,hM.m.cell 3,vh hS fun a c H1 _ hf=>⟨_,_,_,rfl,⟨⟨(hM.m.fr hf (by simp)).cell 3,trivial⟩,trivial⟩,?_⟩⟩;have ew:IntKind.wrap .i64 ((s.stack.length:Int)-kp)=(s.stack.length:Int)-kp:=az (by omega) (by omega);rw [ew];refine o5 (hS.nilfr hf) ⟨by omega,by omega⟩ fun H2 I3 bw=>⟨_,rfl,trivial,?_⟩;have l9:Fr F1 H H2:=hf.of_nil.trans bw;have MI:Fr F H H2:=l9.mono ap;have Do:=hM.up (cx H2 _ I3 l9) ⟨MI,fun _ h=>.inl h⟩;rw [bI,ah];refine aP (fun h1=>?_) fun h1=>?_
 ·rw [Ur h1] at h;exact h H2 Do.k MI
 rw [Uq h1] at h;obtain ⟨tb,F3,kv,hT,K3,Jl,_,Mw⟩:=Do.k.tb;refine ⟨_,rfl,_,Do.m.cell 0,_,rfl,_,kv,_,rfl,_,Do.m.cell 1,As hT fun H3 Td la=>⟨_,rfl,trivial,?_⟩⟩;have MJ:Fr F H2 H3:=la.mono K3;have G7:=Do.up (Mw H3 _ Td la) ⟨MJ,fun _ h=>.inl h⟩;rw [bK,ah];refine aP (fun h2=>?_) fun h2=>?_
 ·rw [Uq h2] at h;obtain ⟨sb4,F4,L1,LX,Jx,_,_,JM⟩:=G7.k.sp;have MX:sb4=sb:=by
   have w9:=hM.k.lt b hM.k.bmem;have e1:aq H3 ⟨b,0,none⟩=some (Kj sb):=by
    rw [eH la Jl (UJ w9 l9.1),eH l9 Qv w9,hc]
   rw [L1] at e1;simpa using e1
  subst MX;refine ⟨_,rfl,_,G7.m.cell 2,eV LX fun hb F5 hR Fl K5=>⟨_,rfl,⟨⟨G7.m.cell 2,trivial⟩,trivial⟩,GG hR fun H5 Te Jo=>⟨_,rfl,trivial,?_⟩⟩⟩;have Qt:=K5 H5 _ Te Jo;have L2:=JM H5 _ Qt (Jo.mono Fl)
  have:=h H5 ?_ ((MI.trans MJ).trans ((Jo.mono Fl).mono Jx))
  ·exact this
  ·have ed:(s.drop ((s.stack.length:Int)-kp)).2.h=s.h:=by unfold SP.drop;split <;> rfl
   simp only [ed] at L2;exact L2
 ·have Jn:e=24:=Uv h2;rw [Ur Jn] at h;refine h H3 ?_ (MI.trans MJ);have ed:(s.drop ((s.stack.length:Int)-kp)).2.h=s.h:=by unfold SP.drop;split <;> rfl
  have v7:=G7.k;generalize (s.drop ((s.stack.length:Int)-kp)).2=s' at *;cases s';simp only at ed;subst ed;exact v7
theorem KS.words {s:SP}{v:KV} (h:KS s v):kwords s.h v.clsA=v.clsW:=h.view.all.kwords
theorem mO {H0:ag} (hM:PM H0 mb b F s t cnt mk kp) (hf:Fr [] H0 H){a a2:Option Addr}{l c c2 l2:Nat}{G:aR}{ws xs:List Int}{Q:QT} (ho:cZ 1 H a l c (av ws) G) (hG:∀ x∈G,H0.size<=x) (hZ:ws.length<=8192) (h2:Rd 1 H a2 l2 (av xs)) (Rr:l2<=8192)
  (h:∀ H' F',PM H' mb b F' (s.array (ws++xs)).2 t cnt mk kp->Up F H0 F' H'->Q (.tuple #[ac (s.array (ws++xs)).1.1,ac (s.array (ws++xs)).1.2]) H') :
  cu PP (Builtin.append_ #[30,30] 30 #[.slice a l c,.slice a2 l2 c2]) (fun v H'=>∃ a3:Option Addr,∃ l3:Nat,∃ c3:Nat,v=.slice a3 l3 c3∧True∧ae PP 158 #[Kj mb,.slice a3 l3 c3] Q H') H:=by
 have ic:bj PP 30=some (1,8,some (ac 0)):=by kernel_rfl
 have hl:l=ws.length:=by have:=ho.len;simpa [av] using this.symm
 have aa:=hM.k.lt;refine eU ic rfl (by kernel_rfl) ho h2 il (by omega) (by decide) (by decide) fun a' c' G' H' g1 g2 g3=>⟨_,_,_,rfl,trivial,?_⟩;obtain ⟨ca,Tf⟩:=Up.fresh hf g2 hG;have eF:zn H' a' F:=cZ.out g1 fun x hx hm=>by have:=Tf x hx;have:=aa x hm;omega
 rw [←cT] at g1;exact uC (hM.nil ca) g1.rd (fun p hp=>(eF p hp).2) (by omega) fun H2 F' Do hu=>h H2 F' Do ((Up.of_nil ca).trans hu)
theorem vy (hM:PM H mb b F s t cnt mk kp) (hk:KS s v){c:Int} (hc:1<=c∧c<=65536) (ci:s.stack.length<65000)
  (h:∀ H' F',PM H' mb b F' (dL s t v.clsW (4*c)).2.1 t cnt mk kp->Up F H F' H'->Q (.tuple #[ac (dL s t v.clsW (4*c)).1.1,ac (dL s t v.clsW (4*c)).1.2]) H') :
  ∃ J37:List Value->ag->Prop,(∃ q38,(some ⟨mb,0,none⟩:Option Addr)=some q38∧∃ p39:Option Addr,aq H q38=some (.pointer p39)∧∃ q40,(some ⟨mb,0,none⟩:Option Addr)=some q40∧∃ p41:Option Addr,aq H q40=some (.pointer p41)∧(ae PP 161 #[.agg #[.pointer p41],ac 0] (fun v42 H12=>∃ n43:Int,v42=ac n43∧((aq H12 q38=some (.pointer p39)∧True)∧True)∧(ae PP 160 #[.agg #[.pointer p39],ac n43] (fun v44 H13=>∃ a45:Option Addr,∃ l45:Nat,∃ c45:Nat,v44=.slice a45 l45 c45∧True∧True∧cu PP (Builtin.append_ #[30,30] 30 #[.slice a45 l45 c45,.slice (some (⟨H13.size,0,none⟩:Addr)) 1 1]) (fun v46 H14=>∃ a47:Option Addr,∃ l47:Nat,∃ c47:Nat,v46=.slice a47 l47 c47∧True∧ae PP 158 #[.pointer (some ⟨mb,0,none⟩:Option Addr),.slice a47 l47 c47] (fun v48 H15=>∃ n49:Int,∃ n50:Int,v48=.tuple #[ac n49,ac n50]∧True∧J37 [ac n50,ac n49] H15) H14) (H13.push (.cells #[ac (4*c)] 26))) H12)∧(((aq (H12.push (.cells #[ac (4*c)] 26)) q38=some (.pointer p39)∧True)∧True)∧ae PP 160 #[.agg #[.pointer p39],ac n43] (fun v51 H16=>∃ a52:Option Addr,∃ l52:Nat,∃ c52:Nat,v51=.slice a52 l52 c52∧True∧cu PP (Builtin.append_ #[30,30] 30 #[.slice a52 l52 c52,.slice (some (⟨H12.size,0,none⟩:Addr)) 1 1]) (fun v53 H17=>∃ a54:Option Addr,∃ l54:Nat,∃ c54:Nat,v53=.slice a54 l54 c54∧True∧ae PP 158 #[.pointer (some ⟨mb,0,none⟩:Option Addr),.slice a54 l54 c54] (fun v55 H18=>∃ n56:Int,∃ n57:Int,v55=.tuple #[ac n56,ac n57]∧True∧J37 [ac n57,ac n56] H18) H17) H16) (H12.push (.cells #[ac (4*c)] 26)))) H)∧(((aq (H.push (.cells #[ac (4*c)] 26)) q40=some (.pointer p41)∧True)∧((aq (H.push (.cells #[ac (4*c)] 26)) q38=some (.pointer p39)∧True)∧True))∧ae PP 161 #[.agg #[.pointer p41],ac 0] (fun v58 H19=>∃ n59:Int,v58=ac n59∧((aq H19 q38=some (.pointer p39)∧True)∧True)∧ae PP 160 #[.agg #[.pointer p39],ac n59] (fun v60 H20=>∃ a61:Option Addr,∃ l61:Nat,∃ c61:Nat,v60=.slice a61 l61 c61∧True∧cu PP (Builtin.append_ #[30,30] 30 #[.slice a61 l61 c61,.slice (some (⟨H.size,0,none⟩:Addr)) 1 1]) (fun v62 H21=>∃ a63:Option Addr,∃ l63:Nat,∃ c63:Nat,v62=.slice a63 l63 c63∧True∧ae PP 158 #[.pointer (some ⟨mb,0,none⟩:Option Addr),.slice a63 l63 c63] (fun v64 H22=>∃ n65:Int,∃ n66:Int,v64=.tuple #[ac n65,ac n66]∧True∧J37 [ac n66,ac n65] H22) H21) H20) H19) (H.push (.cells #[ac (4*c)] 26))))∧∀ w67 H23,J37 w67 H23->∀ _g:Nat->Value,∃ n68:Int,∃ n69:Int,w67=[ac n68,ac n69]∧cond (n68 != 0) (Q (.tuple #[ac 0,ac n68]) H23) (∃ q70,(some ⟨mb,0,none⟩:Option Addr)=some q70∧∃ p71:Option Addr,aq H23 q70=some (.pointer p71)∧∃ q72,p71=some q72∧∃ p73:Option Addr,aq H23 q72=some (.pointer p73)∧ae PP 162 #[.pointer p73,ac 0,ac n69] (fun v74 H24=>∃ n75:Int,v74=ac n75∧ae PP 89 #[ac (4*c)] (fun v76 H25=>∃ n77:Int,∃ n78:Int,v76=.tuple #[ac n77,ac n78]∧Q (.tuple #[ac n77,ac n78]) H25) H24) H23):=by
 have w6:=hk.shape.many1;have Jf:v.clsW.length<=8192:=by simp [KV.clsW];omega
 have hZ:∀ w∈v.clsW++[4*c],cP w:=fun w hw=>by
  rcases Uz.1 hw with hw | hw
  ·exact js hk w hw
  ·simp only [Uu] at hw;rw [hw];exact cH hc.1 hc.2
 obtain ⟨h1,h2,⟨m,h3,s5⟩,h4⟩:=iv hk (by omega) hZ;refine ⟨fun w H'=>∃ F',w=[ac (s.array (v.clsW++[4*c])).1.2,ac (s.array (v.clsW++[4*c])).1.1]∧PM H' mb b F' (s.array (v.clsW++[4*c])).2 t cnt mk kp∧Up F H F' H',?_,?_⟩
 ·have hB:=hM.m;have mc:∀ {H':ag},Fr [] H H'->aq H' ⟨mb,0,none⟩=some (Kj b):=fun hf=>(hB.fr hf (by simp)).cell 0;have one:∀ {H':ag},Rd 1 (H'.push (.cells #[ac (4*c)] 26)) (some ⟨H'.size,0,none⟩) 1 (av [4*c]):=fun {H'}=>pO (H:=H') (cs:=[4*c]);refine ⟨_,rfl,_,hB.cell 0,_,rfl,_,hB.cell 0,?_,?_⟩
  ·refine nc hM.k fun H12 f12=>⟨_,rfl,⟨⟨mc f12,trivial⟩,trivial⟩,?_,?_⟩
   ·rw [hk.root0];refine sf (hM.k.nil f12) fun a l cc G H13 ho f13 hG=>⟨_,_,_,rfl,trivial,trivial,?_⟩;rw [KS.words hk] at ho;have fp:=(Fr.push [] H13 (.cells #[ac (4*c)] 26));refine mO hM ((f12.trans f13).trans fp) (ho.fr fp (by simp)) (fun x hx=>Ux f12.1 (hG x hx)) Jf one (by decide) fun H' F' zw hu=>⟨_,_,rfl,trivial,F',rfl,zw,hu⟩
   ·have fp:=(Fr.push [] H12 (.cells #[ac (4*c)] 26));refine ⟨⟨⟨mc (f12.trans fp),trivial⟩,trivial⟩,?_⟩;rw [hk.root0];refine sf (hM.k.nil (f12.trans fp)) fun a l cc G H13 ho f13 hG=>⟨_,_,_,rfl,trivial,?_⟩;rw [KS.words hk] at ho;refine mO hM ((f12.trans fp).trans f13) ho (fun x hx=>Ux (f12.trans fp).1 (hG x hx)) Jf (one.fr' f13 (by simp)) (by decide) fun H' F' zw hu=>⟨_,_,rfl,trivial,F',rfl,zw,hu⟩
  ·have fp:=(Fr.push [] H (.cells #[ac (4*c)] 26));refine ⟨⟨⟨mc fp,trivial⟩,⟨mc fp,trivial⟩,trivial⟩,?_⟩;refine nc (hM.k.nil fp) fun H12 f12=>⟨_,rfl,⟨⟨mc (fp.trans f12),trivial⟩,trivial⟩,?_⟩;rw [hk.root0];refine sf (hM.k.nil (fp.trans f12)) fun a l cc G H13 ho f13 hG=>⟨_,_,_,rfl,trivial,?_⟩;rw [KS.words hk] at ho;refine mO hM ((fp.trans f12).trans f13) ho (fun x hx=>Ux (fp.trans f12).1 (hG x hx)) Jf (one.fr' (f12.trans f13) (by simp)) (by decide) fun H' F' zw hu=>⟨_,_,rfl,trivial,F',rfl,zw,hu⟩
 ·rintro w H23 ⟨F',rfl,zw,hu⟩ _;unfold dL at h;refine ⟨_,_,rfl,?_⟩;rw [bK,ah];refine aP (fun he=>?_) fun he=>?_
  ·rw [Ur he] at h;exact h _ _ zw hu
  rw [Uq he] at h;obtain ⟨sb,F1,Hc,hS,ap,_,_,cx⟩:=zw.k.sp;refine ⟨_,rfl,_,zw.m.cell 0,_,rfl,_,Hc,vg hS (fun o ho=>?_) fun H4 LX lq=>⟨_,rfl,?_⟩⟩
  ·obtain ⟨x,JL,qz,_⟩:=h1.view.root;rw [h1.king] at ho;rw [JL] at ho;cases ho;exact qz
  have K6:=cx H4 _ LX lq;have Lt:Up F' H23 F' H4:=⟨lq.mono ap,fun _ h=>.inl h⟩;have Jg:=zw.up K6 Lt;refine jP Jg.k.kinds ?_;unfold mE;rw [Ur (show aA (4*c)=3 by have:=bl (4*c);omega)];exact ⟨_,_,rfl,h _ _ Jg (hu.trans Lt)⟩
theorem vP (hM:PM H mb b F s t cnt mk kp) (hk:KS s v){n up l:Int} (hn:cP n) (cx:1<=up∧up<=65536) (hl:cP l) (ci:s.stack.length<64000){n27 n31:Int} (e27:n27=72) (e31:n31=1)
  {n29:Int} (e29:n29=4*up){n33:Int} (e33:n33=2*((v.cls.length:Int)+1)+1)
  (h:∀ H' F',PM H' mb b F' (fI s t v.clsW n up l).2.1 t cnt mk kp->Up F H F' H'->Q (.tuple #[ac (fI s t v.clsW n up l).1.1,ac (fI s t v.clsW n up l).1.2]) H') :
  ae PP 159 #[.pointer (some ⟨mb,0,none⟩:Option Addr),ac 12,.slice (some (⟨H.size,0,none⟩:Addr)) 7 7] (fun v34 H11=>∃ n35:Int,∃ n36:Int,v34=.tuple #[ac n35,ac n36]∧cond (n36 != 0) (Q (.tuple #[ac 0,ac n36]) H11) (∃ J37:List Value->ag->Prop,(∃ q38,(some ⟨mb,0,none⟩:Option Addr)=some q38∧∃ p39:Option Addr,aq H11 q38=some (.pointer p39)∧∃ q40,(some ⟨mb,0,none⟩:Option Addr)=some q40∧∃ p41:Option Addr,aq H11 q40=some (.pointer p41)∧(ae PP 161 #[.agg #[.pointer p41],ac 0] (fun v42 H12=>∃ n43:Int,v42=ac n43∧((aq H12 q38=some (.pointer p39)∧True)∧True)∧(ae PP 160 #[.agg #[.pointer p39],ac n43] (fun v44 H13=>∃ a45:Option Addr,∃ l45:Nat,∃ c45:Nat,v44=.slice a45 l45 c45∧True∧True∧cu PP (Builtin.append_ #[30,30] 30 #[.slice a45 l45 c45,.slice (some (⟨H13.size,0,none⟩:Addr)) 1 1]) (fun v46 H14=>∃ a47:Option Addr,∃ l47:Nat,∃ c47:Nat,v46=.slice a47 l47 c47∧True∧ae PP 158 #[.pointer (some ⟨mb,0,none⟩:Option Addr),.slice a47 l47 c47] (fun v48 H15=>∃ n49:Int,∃ n50:Int,v48=.tuple #[ac n49,ac n50]∧True∧J37 [ac n50,ac n49] H15) H14) (H13.push (.cells #[ac n35] 26))) H12)∧(((aq (H12.push (.cells #[ac n35] 26)) q38=some (.pointer p39)∧True)∧True)∧ae PP 160 #[.agg #[.pointer p39],ac n43] (fun v51 H16=>∃ a52:Option Addr,∃ l52:Nat,∃ c52:Nat,v51=.slice a52 l52 c52∧True∧cu PP (Builtin.append_ #[30,30] 30 #[.slice a52 l52 c52,.slice (some (⟨H12.size,0,none⟩:Addr)) 1 1]) (fun v53 H17=>∃ a54:Option Addr,∃ l54:Nat,∃ c54:Nat,v53=.slice a54 l54 c54∧True∧ae PP 158 #[.pointer (some ⟨mb,0,none⟩:Option Addr),.slice a54 l54 c54] (fun v55 H18=>∃ n56:Int,∃ n57:Int,v55=.tuple #[ac n56,ac n57]∧True∧J37 [ac n57,ac n56] H18) H17) H16) (H12.push (.cells #[ac n35] 26)))) H11)∧(((aq (H11.push (.cells #[ac n35] 26)) q40=some (.pointer p41)∧True)∧((aq (H11.push (.cells #[ac n35] 26)) q38=some (.pointer p39)∧True)∧True))∧ae PP 161 #[.agg #[.pointer p41],ac 0] (fun v58 H19=>∃ n59:Int,v58=ac n59∧((aq H19 q38=some (.pointer p39)∧True)∧True)∧ae PP 160 #[.agg #[.pointer p39],ac n59] (fun v60 H20=>∃ a61:Option Addr,∃ l61:Nat,∃ c61:Nat,v60=.slice a61 l61 c61∧True∧cu PP (Builtin.append_ #[30,30] 30 #[.slice a61 l61 c61,.slice (some (⟨H11.size,0,none⟩:Addr)) 1 1]) (fun v62 H21=>∃ a63:Option Addr,∃ l63:Nat,∃ c63:Nat,v62=.slice a63 l63 c63∧True∧ae PP 158 #[.pointer (some ⟨mb,0,none⟩:Option Addr),.slice a63 l63 c63] (fun v64 H22=>∃ n5:Int,∃ n6:Int,v64=.tuple #[ac n5,ac n6]∧True∧J37 [ac n6,ac n5] H22) H21) H20) H19) (H11.push (.cells #[ac n35] 26))))∧∀ w67 H23,J37 w67 H23->∀ _g:Nat->Value,∃ n8:Int,∃ n9:Int,w67=[ac n8,ac n9]∧cond (n8 != 0) (Q (.tuple #[ac 0,ac n8]) H23) (∃ q70,(some ⟨mb,0,none⟩:Option Addr)=some q70∧∃ p71:Option Addr,aq H23 q70=some (.pointer p71)∧∃ q72,p71=some q72∧∃ p73:Option Addr,aq H23 q72=some (.pointer p73)∧ae PP 162 #[.pointer p73,ac 0,ac n9] (fun v74 H24=>∃ n75:Int,v74=ac n75∧ae PP 89 #[ac n35] (fun v76 H25=>∃ n77:Int,∃ n78:Int,v76=.tuple #[ac n77,ac n78]∧Q (.tuple #[ac n77,ac n78]) H25) H24) H23))) (H.push (.cells #[ac n,ac n29,ac l,ac n27,ac n27,ac n31,ac n33] 26)):=by
 have w6:=hk.shape.many1;have Jf:v.clsW.length=v.cls.length:=by simp [KV.clsW]
 subst e27 e31 e29 e33;have hZ:=fX (n:=n) (up:=up) (l:=l) (k:=v.clsW.length) hn (cH cx.1 cx.2) hl (by omega);obtain ⟨b1,b2,b3,b4⟩:=kN hk (by omega) (cls:=12) (by decide) hZ;have fp:=(Fr.push [] H (.cells (av (cL n up l v.clsW.length)).toArray 26));have aa:=hM.k.lt;rw [←Jf];unfold fI at h;refine xo (s:=s) (ws:=cL n up l v.clsW.length) (hM.nil fp) (by decide) pO (fun p hp hm=>?_) (by decide) fun H' F' zw hu=>⟨_,_,rfl,?_⟩
 ·cases hp;exact absurd (aa _ hm) (Wg _)
 rw [bK,ah];have Lp:=(Up.of_nil fp).trans hu;refine aP (fun he=>?_) fun he=>?_
 ·rw [Ur he] at h
  have:=h _ _ zw Lp;have hz:=(b3 he).2;exact this
 rw [Uq he] at h;have hz:(s.make 12 (cL n up l v.clsW.length)).1.2=0:=Uv he;obtain ⟨c,ec,est,c1,c2,_⟩:=b4 hz;rw [ec] at h ⊢;exact vy zw b1 ⟨c1,c2⟩ (by rw [est,UP];simp;omega) fun H2 F2 Do JI=>h H2 F2 Do (Lp.trans JI)
theorem Dx (s:SP) (t:TB) (cw:List Int) (n up l:Int):(fI s t cw n up l).2.2=t:=by
 unfold fI;split
 ·rfl
 ·unfold dL;split <;> rfl
theorem yK (hM:PM H mb b F s t cnt mk kp) (hk:KS s v){name:ByteArray}{up:Int} (cx:1<=up∧up<=65536) (ci:s.stack.length<60000){a:Option Addr}{l c:Nat}{own:List ByteArray} (hr:Rd 1 H a l (bY own)) (hout:vN H a l F) (HP:l<=100000000)
  (h:∀ H' F',PM H' mb b F' (dR s t v.clsW name up own).2.1 (dR s t v.clsW name up own).2.2 cnt mk kp->Up F H F' H'->Q (.tuple #[ac (dR s t v.clsW name up own).1.1,ac (dR s t v.clsW name up own).1.2]) H') :
  ae PP 80 #[Kj mb,.string name,ac up,.slice a l c] Q H:=by
 have ic:bj PP 30=some (1,8,some (ac 0)):=by kernel_rfl
 have w6:=hk.shape.many1;have hl:l=own.length:=by have:=hr.1;simpa [bY] using this.symm
 apply FM;dsimp only [aK,aF,aT,dU,ao,ak,bv,aE,jT,bq,aL,ac,bu,EQ,jO,au,ck,aN,am,aJ,cC,aZ,ax,bd];unfold dR at h;refine qR hM fun H1 F1 MF Lo=>⟨_,_,rfl,?_⟩;rw [bK,ah];refine aP (fun h1=>?_) fun h1=>?_
 ·rw [Ur h1] at h;exact h H1 F1 MF Lo
 rw [Uq h1] at h;have OQ:(t.add name).1.2=0:=Uv h1;rw [Ur OQ];obtain ⟨nn,en,en2,_⟩:=lC name OQ;rw [en] at h ⊢;generalize (t.add name).2=t1 at *;have N6:=hout.up Lo;have I9:=hout.rd Lo hr;refine ⟨fun w H'=>∃(i:Nat) (t':TB) (acc:List Int) (a':Option Addr) (l' c':Nat) (G F':aR),w=[.slice a' l' c',ac i]∧i<=own.length∧PM H' mb b F' s t' cnt mk kp∧Up F1 H1 F' H'∧t'.addAll acc (own.drop i)=t1.addAll [] own∧cZ 1 H' a' l' c' (av acc) G∧(∀ x∈G,H1.size<=x∧x∉F')∧acc.length=i,fun w _=>match w with
  | [_,.int _ i]=>(own.length-i).toNat
  | _=>0,⟨0,t1,[],none,0,0,[],F1,rfl,U7 _,MF,Up.refl _ _,rfl,by simpa [av] using cZ.nil 1 H1,by simp,rfl⟩,?_⟩
 rintro w H2 ⟨i,t2,acc,a2,l2,c2,G,F2,rfl,hi,Do,JI,s7,ho,hG,Qw⟩ _;have JC:l2=i:=by have:=ho.len;simp only [av,UZ] at this;omega
 have hgm:=MF.m.lt;have PD:=MF.k.kinds.lt;refine ⟨_,_,_,_,rfl,?_⟩;rw [ah];refine aP (fun aa=>?_) fun aa=>?_
 ·obtain ⟨p,gw,rfl,aj⟩:=(N6.rd JI I9).str (i:=(i:Int)) (by omega) aa;simp only [Uy] at aj gw;have e1:IntKind.wrap .i64 ((i:Int)+1)=((i+1:Nat):Int):=by rw [az (by omega) (by omega)];omega
  have ed:own.drop i=own[i] :: own.drop (i+1):=Vr gw;rw [ed,TB.addAll] at s7;refine ⟨⟨by omega,aa⟩,_,rfl,_,by rw [Uy,UC];exact aj,qR Do fun H3 F3 G7 JN=>⟨_,_,rfl,?_⟩⟩;rw [bK,ah];refine aP (fun h3=>?_) fun h3=>?_
  ·rw [Ur h3] at s7;rw [Ur (by rw [←s7];exact h3),←s7] at h;exact h H3 F3 G7 ((Lo.trans JI).trans JN)
  rw [Uq h3] at s7;have Tg:(t2.add own[i]).1.2=0:=Uv h3;rw [Ur Tg];have Th:∀ x∈G,x<H2.size:=ho.lt;have Fh:cZ 1 H3 a2 l2 c2 (av acc) G:=ho.fr JN.1 fun x hx=>(hG x hx).2;refine dl ic rfl (by kernel_rfl) Fh rfl (by simp [ge]) (by omega) (by decide) (by decide) fun a' c' G2 H4 g1 g2 g3=>⟨_,_,_,rfl,?_⟩;rw [e1];have Na:∀ x∈G,H1.size<=x∧x∉F3:=fun x hx=>⟨(hG x hx).1,Up.out JN (hG x hx).2 (Th x hx)⟩;have hF3lt:=G7.k.lt;have Jg:PM H4 mb b F3 s (t2.add own[i]).2 cnt mk kp:=⟨G7.k.fr g2.1 (fun x hx hm=>(Na x hm).2 hx) (fun hm=>by have:=(Na _ hm).1;omega),G7.m.fr g2.1 (fun hm=>by have:=(Na _ hm).1;omega),G7.out⟩;have Lt:Up F1 H1 F3 H4:=by
   have k9:=JI.trans JN;refine ⟨⟨Ux k9.1.1 g2.1.1,fun x hx hn=>?_⟩,k9.2⟩;rw [g2.1.2 x (UJ hx k9.1.1) (fun hm=>by have:=(Na x hm).1;omega),k9.1.2 x hx hn]
  refine ⟨⟨i+1,_,_,a',l2+1,c',G2,F3,rfl,by omega,Jg,Lt,s7,?_,fun x hx=>?_,by simp [Qw]⟩,by simp;omega⟩
  ·rw [cT];exact g1
  ·rcases g2.2 x hx with h5 | h5
   ·exact Na x h5
   ·exact ⟨Ux (JI.trans JN).1.1 h5,fun hm=>by have:=hF3lt x hm;omega⟩
 ·have lp:i=own.length:=by omega
  rw [lp,Wd,TB.addAll] at s7;rw [Uq (by rw [←s7];simp),←s7] at h;simp only at h;unfold gY at h;have Qx:=Lo.trans JI;have al:=mS (t:=t1) [] own (by rw [←s7]);rw [←s7] at al;simp only at al;obtain ⟨ns,ens,ens2⟩:=al;rw [Wj] at ens;have N7:=Do.k.wft;have Je:∀ n∈ns,n<t2.texts.length:=fun n hn=>by
   have:t2.texts[n]?∈own.map some:=by rw [←ens2];exact UM.2 ⟨n,hn,rfl⟩
   obtain ⟨s,_,hs⟩:=UM.1 this;exact (ij hs.symm).2
  have Mk:nn<t2.texts.length:=by
   have h5:=(ij en2).2;have h6:=(jv t1 [] own).2;rw [←s7] at h6;obtain ⟨m,e⟩:=h6;rw [e,UP];omega
  have hZ:∀ w∈acc,cP w:=fun w hw=>by
   rw [ens] at hw;obtain ⟨x,hx,rfl⟩:=UM.1 hw;exact oD N7 (Je x hx)
  obtain ⟨a1,a2',⟨m1,a3,a3'⟩,a4⟩:=iv hk (by omega) hZ;refine uC Do ho.rd (fun p hp=>?_) (by omega) fun H3 F3 G7 JN=>⟨_,_,rfl,?_⟩
  ·rcases ho.2.2 with ⟨h5,_⟩ | ⟨b',cs,h5,h6,_⟩
   ·rw [h5] at hp;cases hp
   ·rw [h5] at hp;cases hp;exact (hG b' (by rw [h6];simp)).2
  have N8:=Qx.trans JN;rw [bK,ah];refine aP (fun h5=>?_) fun h5=>?_
  ·rw [Ur h5] at h;exact h H3 F3 G7 N8
  rw [Uq h5] at h;have Ti:(s.array acc).1.2=0:=Uv h5;obtain ⟨lo,elo,lo1,lo2,_⟩:=a4 Ti;refine ⟨_,rfl,_,G7.m.cell 0,uE G7.k a1 fun H4 f4=>⟨_,rfl,dN (by decide) ⟨_,rfl,dN cx ⟨_,rfl,kK (by decide) ⟨_,rfl,?_⟩⟩⟩⟩⟩;have ew:IntKind.wrap .i64 ((v.cls.length:Int)+1)=(v.cls.length:Int)+1:=az (by omega) (by omega);rw [ew];refine kK ⟨by omega,by omega⟩ ⟨_,rfl,?_⟩;have Lt:Up F3 H3 F3 H4:=Up.of_nil f4;refine vP (G7.nil f4) a1 (oD N7 Mk) cx (by rw [elo];exact cH lo1 lo2) (by rw [a3,UP];omega) rfl rfl rfl rfl fun H5 F5 O0 Qy=>?_;have et:(fI (s.array acc).2 t2 v.clsW (4*(nn:Int)+2) up (s.array acc).1.1).2.2=t2:=Dx _ _ _ _ _ _;exact h H5 F5 (by rw [et];exact O0) ((N8.trans Lt).trans Qy)
end
section
variable {H:ag}{b:Nat}{F:aR}{s:SP}{t:TB}{v:KV}{Q:QT}
theorem yP (hK:PK H b F s t) (hv:KAllW s t v) (ci:s.stack.length<60000){name sup:ByteArray}{a:Option Addr}{l c:Nat}{own:List ByteArray} (hr:Rd 1 H a l (bY own)) (hout:vN H a l F) (JK:l<=c) (HP:l<=1000000000000000)
  (h:∀ H' F',PK H' b F' (aO s v t name sup own).2.1 (aO s v t name sup own).2.2->Up F H F' H'->Q (.tuple #[ac (aO s v t name sup own).1.1,ac (aO s v t name sup own).1.2]) H') :
  ae PP 25 #[Kj b,.string name,.string sup,.slice a l c] Q H:=by
 apply GL;dsimp only [aF,bJ,aT,dd,ao,ak,ac,au,am,aZ];unfold aO at h;refine kD hK ⟨_,rfl,?_⟩;simp only [UB,Ut];refine tY hK hv hr JK (by omega) fun H1 be=>⟨_,_,rfl,?_⟩;rw [bK,ah];refine aP (fun h1=>?_) fun h1=>?_
 ·rw [Ur h1] at h;exact h H1 F (hK.nil be) (Up.of_nil be)
 rw [Uq h1] at h;obtain ⟨j,hj,ej,aa,tc,_,_⟩:=sH hv (Uv h1);rw [ej] at h ⊢;have hb:=rZ hv.ks hj;refine Ez (hK.nil be) fun H2 mb Do bw=>⟨_,rfl,?_⟩;have l9:=be.trans bw;have JI:Up F H F H2:=Up.of_nil l9;have hl32:=Aw (Uv h1);refine yK Do hv.ks hb ci (hout.rd JI hr) (hout.up JI) (by have:=hr.1;simp only [bY,UZ] at this;omega) fun H3 F3 G7 JN=>⟨_,_,rfl,?_⟩;refine Hu G7 ⟨by omega,by omega⟩ fun H4 K6 lq=>⟨_,rfl,?_⟩;have Lt:Up F H F3 H4:=(JI.trans JN).trans ⟨lq,fun _ h=>.inl h⟩
 have:=h H4 F3 K6 Lt;unfold bM at this;rw [bK,ah];refine aP (fun h2=>?_) fun h2=>?_
 ·rw [Uq h2] at this;exact this
 ·have hz:=Uv h2;rw [Ur hz] at this;have e0:(dR s t v.clsW name (v.cls[j]).oop own).1.2=0:=hz;rw [e0] at this;exact this
theorem dS (hK:PK H b F s t) (h:∀ sb F1,aq H ⟨b,0,none⟩=some (Kj sb)->iu H sb F1 s->(∀ x∈F1,x∈F)->(∀ H' F1' s',iu H' sb F1' s'->Up F1 H F1' H'->∃ F',PK H' b F' s' t∧Up F H F' H')->(∀ H' s',iu H' sb F1 s'->Fr F1 H H'->PK H' b F s' t)->Q (Kj sb) H):ae PP 7 #[Kj b] Q H:=by
 obtain ⟨sb,F1,hc,hS,ap,_,cx,G9⟩:=hK.sp;apply HX;dsimp only [ao,aE,aN,fi,am];exact ⟨_,rfl,_,hc,h sb F1 hc hS ap cx G9⟩
theorem vt (hK:PK H b F s t) (h:∀ tb F1,aq H ⟨b,1,none⟩=some (Kj tb)->qp H tb F1 t->Q (Kj tb) H):ae PP 33 #[Kj b] Q H:=by
 obtain ⟨tb,F1,hc,hT,_⟩:=hK.tb;apply zN;dsimp only [ao,aE,aN,fi,am];exact ⟨_,rfl,_,hc,h tb F1 hc hT⟩
end
end Go.Proofs.YtgjfejoohojokaaGreatDoor
namespace Kw
open Go
theorem HE (s j:Nat):(255*2 ^ s).testBit j=(decide (s<=j) && decide (j-s<8)):=by
 rw [←Nat.shiftLeft_eq,Nat.testBit_shiftLeft]
 have:(255:Nat)=2 ^ 8-1:=rfl;rw [this,Nat.testBit_two_pow_sub_one]
theorem Ko (w s j:Nat):(w*2 ^ s).testBit j=(decide (s<=j) && w.testBit (j-s)):=by
 rw [←Nat.shiftLeft_eq,Nat.testBit_shiftLeft]
theorem xm {w s:Nat} (hw:w<256) (hs:s<=24):gQ .i64 (w:Int) (s:Int)=((w*2 ^ s:Nat):Int):=by
 have h1:2 ^ s<=2 ^ 24:=Vy (by decide) hs;have h2:w*2 ^ s<=255*2 ^ 24:=Nat.mul_le_mul (by omega) h1;have h3:((w:Int)*((2 ^ s:Nat):Int))=((w*2 ^ s:Nat):Int):=by rw [W5]
 rw [lK _ _ (by omega) (by rw [h3];constructor <;> omega),h3]
theorem kG (n:Nat):BitVec.ofInt 64 (n:Int)=BitVec.ofNat 64 n:=by simp
def gX (n w s:Nat):Nat:=(BitVec.ofNat 64 n &&& ~~~(BitVec.ofNat 64 (255*2 ^ s)) ||| BitVec.ofNat 64 (w*2 ^ s)).toNat
theorem nj {n w s:Nat} (hn:n<4294967296) (hw:w<256) (hs:s<=24) (i:Nat):(gX n w s).testBit i=((n.testBit i && !(decide (s<=i) && decide (i-s<8))) || (decide (s<=i) && w.testBit (i-s))):=by
 unfold gX;rw [BitVec.testBit_toNat,BitVec.getLsbD_or,BitVec.getLsbD_and,BitVec.getLsbD_not,WG,WG,WG,HE,Ko];by_cases h:i<64
 ·simp [h]
 ·have h1:n.testBit i=false:=VL (UJ hn (by
   have:2 ^ 32<=2 ^ i:=Vy (by decide) (by omega);exact this))
  have h2:w.testBit (i-s)=false:=VL (UJ hw (by
   have:2 ^ 8<=2 ^ (i-s):=Vy (by decide) (by omega);exact this))
  simp [h,h1,h2]
theorem uG {n w s:Nat} (hn:n<4294967296) (hw:w<256) (hs:s<=24):gX n w s<4294967296:=by
 have:gX n w s<2 ^ 32:=by
  refine Nat.lt_pow_two_of_testBit _ fun i hi=>?_;rw [nj hn hw hs];have h1:n.testBit i=false:=VL (UJ hn (by
   have:2 ^ 32<=2 ^ i:=Vy (by decide) (by omega);exact this))
  have h2:w.testBit (i-s)=false:=VL (UJ hw (by
   have:2 ^ 8<=2 ^ (i-s):=Vy (by decide) (by omega);exact this))
  simp [h1,h2]
 exact this
theorem wy {n w s:Nat} (hn:n<4294967296) (hw:w<256) (hs:s<=24):gX n w s / 2 ^ s % 256=w:=by
 have:gX n w s / 2 ^ s % 2 ^ 8=w:=by
  refine Nat.eq_of_testBit_eq fun i=>?_;rw [Wp,Wq,nj hn hw hs];by_cases h:i<8
  ·have h1:s<=i+s:=by omega
   have h2:i+s-s=i:=by omega
   simp [h,h1,h2]
  ·have h2:w.testBit i=false:=VL (UJ hw (by
    have:2 ^ 8<=2 ^ i:=Vy (by decide) (by omega);exact this))
   simp [h,h2]
 exact this
theorem uT {n w s s':Nat} (hn:n<4294967296) (hw:w<256) (hs:s<=24) (hd:s'+8<=s∨s+8<=s'):gX n w s / 2 ^ s' % 256=n / 2 ^ s' % 256:=by
 have:gX n w s / 2 ^ s' % 2 ^ 8=n / 2 ^ s' % 2 ^ 8:=by
  refine Nat.eq_of_testBit_eq fun i=>?_;rw [Wp,Wq,nj hn hw hs,Wp,Wq];by_cases h:i<8
  ·rcases hd with hd | hd
   ·have h1:¬ s<=i+s':=by omega
    simp [h,h1]
   ·have h1:¬ (i+s'-s<8):=by omega
    have h2:w.testBit (i+s'-s)=false:=VL (UJ hw (by
     have:2 ^ 8<=2 ^ (i+s'-s):=Vy (by decide) (by omega);exact this))
    simp [h,h1,h2]
  ·simp [h]
 exact this
theorem Bh {n w s:Nat} (hn:n<4294967296) (hw:w<256) (hs:s<=24):xG .i64 (lQ .i64 (n:Int) (gQ .i64 255 (s:Int))) (gQ .i64 (w:Int) (s:Int))=(gX n w s:Int):=by
 have e255:gQ .i64 255 (s:Int)=((255*2 ^ s:Nat):Int):=xm (w:=255) (by decide) hs;have e1:lQ .i64 (n:Int) (gQ .i64 255 (s:Int))=((BitVec.ofNat 64 n &&& ~~~(BitVec.ofNat 64 (255*2 ^ s))).toNat:Int):=by
  unfold lQ;rw [e255];show IntKind.wrap .i64 ((BitVec.ofInt 64 (n:Int) &&& ~~~(BitVec.ofInt 64 ((255*2 ^ s:Nat):Int))).toNat:Int)=_;rw [kG,kG];have h1:(BitVec.ofNat 64 n &&& ~~~(BitVec.ofNat 64 (255*2 ^ s))).toNat<=n:=by
   rw [BitVec.toNat_and];refine Ux Nat.and_le_left ?_;rw [BitVec.toNat_ofNat];exact Nat.mod_le _ _
  exact jx (by omega) (by omega)
 rw [e1,xm hw hs];unfold xG;show IntKind.wrap .i64 ((BitVec.ofInt 64 ((BitVec.ofNat 64 n &&& ~~~(BitVec.ofNat 64 (255*2 ^ s))).toNat:Int) ||| BitVec.ofInt 64 ((w*2 ^ s:Nat):Int)).toNat:Int)=_;rw [kG,kG,BitVec.ofNat_toNat,BitVec.setWidth_eq];have h2:=uG hn hw hs;unfold gX at h2 ⊢;exact jx (by omega) (by omega)
end Kw
namespace Go.Proofs.YtgjfejoohojokaaGreatDoor
open Kw
section
variable {H:ag}{hb:Nat}{W T B:Int->Int}{low:Int}{r:RH}{Q:QT}
theorem Cb (hw:WFH r) (hs:SimH W T B low r){o:RO}{k i w:Int} (ho:aG r.objs k=some o) (h0:0<=i) (h1:i<o.slots.length) (hf:o.fmt=1) (w0:0<=w) (w1:w<=255) :
  SimH (upd W (o.place+2+i / 4) (gX (W (o.place+2+i / 4)).toNat w.toNat (i % 4*8).toNat:Nat)) T B low { r with objs:=iq r.objs k (eC i w) }:=by
 have Lw:=aD ho;have ai:o.len=2+((o.slots.length:Int)+3) / 4:=by unfold RO.len lenOf;rw [Ur hf]
 obtain ⟨n0,n1⟩:=hs.byr o Lw.1 hf (o.place+2+i / 4) (by omega) (by omega);have hn:(W (o.place+2+i / 4)).toNat<4294967296:=by omega
 have Qz:w.toNat<256:=by omega
 have QA:(i % 4*8).toNat<=24:=by omega
 have key:∀ o'∈iq r.objs k (eC i w),∃ a∈r.objs,(a.oop=k∧a=o∧o'=eC i w o)∨(a.oop≠k∧o'=a∧(a.place+a.len<=o.place∨o.place+o.len<=a.place)):=by
  intro o' eF;simp only [iq,UM] at eF;obtain ⟨a,ha,rfl⟩:=eF;refine ⟨a,ha,?_⟩;split
  ·rename_i hk
   have:a=o:=by have:=cY hw.objs ha;rw [hk,ho] at this;exact (Option.some.inj this).symm
   exact .inl ⟨hk,this,by rw [this]⟩
  ·rename_i hk;exact .inr ⟨hk,rfl,apart hw.objs ha Lw.1 (by rw [Lw.2];exact hk)⟩
 refine { tab:=fun j g0 g1=>?_,bor:=fun o' eF=>?_,cls:=fun o' eF=>?_,shp:=fun o' eF=>?_,wrd:=fun o' eF ca j hj=>?_,byt:=fun o' eF ca j hj=>?_,byr:=fun o' eF ca j JW sc=>?_,low1:=hs.low1,low2:=hs.low2,low3:=fun j g0 g1=>?_ }
 ·rw [hs.tab j g0 g1];have e:=dG (l:=r.objs) (k:=k) (j:=j) (f:=eC i w) fun _=>rfl;simp only [e];cases aG r.objs j with
  | none=>rfl
  | some a=>simp only [Vw];split <;> rfl
 ·obtain ⟨a,ha,⟨hk,rfl,rfl⟩ | ⟨hk,rfl,hd⟩⟩:=key o' eF
  ·exact hs.bor a ha
  ·exact hs.bor _ ha
 ·obtain ⟨a,ha,⟨hk,rfl,rfl⟩ | ⟨hk,rfl,hd⟩⟩:=key o' eF
  ·show upd W _ _ a.place=a.cls;rw [upd,Uq (by omega)];exact hs.cls _ ha
  ·have:=o'.len_pos;rw [upd,Uq (by omega)];exact hs.cls _ ha
 ·obtain ⟨a,ha,⟨hk,rfl,rfl⟩ | ⟨hk,rfl,hd⟩⟩:=key o' eF
  ·show upd W _ _ (a.place+1)=2*(((a.slots.set i.toNat w).length:Nat):Int)+a.fmt;rw [upd,Uq (by omega),WD];exact hs.shp _ ha
  ·have:=o'.len_pos;rw [upd,Uq (by omega)];exact hs.shp _ ha
 ·obtain ⟨a,ha,⟨hk,rfl,rfl⟩ | ⟨hk,rfl,hd⟩⟩:=key o' eF
  ·have:a.fmt=0:=ca;omega
  ·have hl:o'.len=2+(o'.slots.length:Int):=by unfold RO.len lenOf;rw [Uq (by omega)]
   rw [upd,Uq (by omega)];exact hs.wrd _ ha ca j hj
 ·obtain ⟨a,ha,⟨hk,rfl,rfl⟩ | ⟨hk,rfl,hd⟩⟩:=key o' eF
  ·have Lj:j<a.slots.length:=by simpa [eC] using hj
   show upd W _ _ (a.place+2+(j / 4:Nat)) / ((2 ^ (j % 4*8):Nat):Int) % 256=(a.slots.set i.toNat w).getD j 0;have KW:=hs.byt _ ha hf j Lj;unfold upd;split
   ·rename_i he;have e4:(j / 4:Nat)=i / 4:=by omega
    by_cases D4:i.toNat=j
    ·have es:j % 4*8=(i % 4*8).toNat:=by omega
     rw [es]
     have:=wy hn Qz QA;have h2:((gX (W (a.place+2+i / 4)).toNat w.toNat (i % 4*8).toNat:Nat):Int) / ((2 ^ (i % 4*8).toNat:Nat):Int) % 256=(w.toNat:Int):=by
      rw [←W2];have h3:=congrArg (fun x:Nat=>(x:Int)) this;simp only [Int.natCast_emod] at h3;exact h3
     rw [h2];simp [D4,Lj];omega
    ·have:=uT (s':=j % 4*8) hn Qz QA (by omega);have h2:((gX (W (a.place+2+i / 4)).toNat w.toNat (i % 4*8).toNat:Nat):Int) / ((2 ^ (j % 4*8):Nat):Int) % 256=W (a.place+2+i / 4) / ((2 ^ (j % 4*8):Nat):Int) % 256:=by
      rw [←W2];have h3:=congrArg (fun x:Nat=>(x:Int)) this;simp only [Int.natCast_emod] at h3;rw [W2 (W (a.place+2+i / 4)).toNat,Vh n0] at h3;exact h3
     rw [h2];have e5:a.place+2+((j / 4:Nat):Int)=a.place+2+i / 4:=by omega
     rw [e5] at KW;rw [KW];simp [VY,D4]
   ·rename_i he;have D4:i.toNat≠j:=by omega
    rw [KW];simp [VY,D4]
  ·have hl:o'.len=2+((o'.slots.length:Int)+3) / 4:=by unfold RO.len lenOf;rw [Ur ca]
   rw [upd,Uq (by omega)];exact hs.byt _ ha ca j hj
 ·obtain ⟨a,ha,⟨hk,rfl,rfl⟩ | ⟨hk,rfl,hd⟩⟩:=key o' eF
  ·have JC:(eC i w a).len=a.len:=jg i w a;have QB:j<a.place+a.len:=by
    have:(eC i w a).place=a.place:=rfl;omega
   have QC:a.place+2<=j:=JW;unfold upd;split
   ·have:=uG hn Qz QA;omega
   ·exact hs.byr _ ha hf j QC QB
  ·rw [upd];split
   ·rename_i he;have hl:o'.len=2+((o'.slots.length:Int)+3) / 4:=by unfold RO.len lenOf;rw [Ur ca]
    omega
   ·exact hs.byr _ ha ca j JW sc
 ·have:=hs.low3 j g0 g1;have e:=dG (l:=r.objs) (k:=k) (j:=j) (f:=eC i w) fun _=>rfl;simp only [e];cases hj:aG r.objs j with
  | none=>exact absurd hj this
  | some a=>simp
theorem Ft {F:aR} (hR:dF H hb F r){k i w:Int} (h:∀ H',dF H' hb F (r.put k i w).2->Fr F H H'->Q (ac (r.put k i w).1) H'):ae PP 148 #[Kj hb,ac k,ac i,ac w] Q H:=by
 cases ho:aG r.objs k with
 | none=>exact ql hR (fun o h=>by rw [ho] at h;cases h) h
 | some o =>
  by_cases hE:o.fmt=0
  ·exact ql hR (fun o' h=>by rw [ho] at h;cases h;exact hE) h
  have Gl:=hR;obtain ⟨wb,tb,bb,W,T,B,low,rfl,hR⟩:=hR;have hm:=(aD ho).1;have be:o.fmt=1:=by have:=(hR.wf.objs.good o hm).fmt;omega
  apply xw;dsimp only [bJ,ao,iU,bv,aB,aH,bq,ac,bu,aN,am,bP];refine vq hR ?_;unfold tJ;have eh:=mN hR.wf k i w;unfold RH.put at h eh;rw [ho] at h eh ⊢;obtain ⟨h1,h2,h3,h4,h5,h6⟩:=hR.in_ hm;simp only at h eh ⊢;split
  ·rename_i hi;simp only [Ur hi] at h;exact ⟨_,_,_,_,rfl,by simpa using h H Gl (Fr.refl _ _)⟩
  ·rename_i hi;simp only [Uq hi] at h eh;have hs:=(sw hR hm (i:=i) (by omega) (by omega)).1 be
   first | rw [Ur be] | skip
   refine ⟨_,_,_,_,rfl,?_⟩;simp only [ah,UK,Ut,Uw,UA,bh,aW,bC,bE,bi,bF,bz,aX,bB,bA,bg,bD,UT,UU,UV,aC,UE,UC,aM,aI,aU,UB,UG,bI,bK,ne_eq,not_true_eq_false,if_false];refine EX hR.kinds ⟨_,rfl,?_⟩;by_cases Gs:dY o.fmt w
   ·simp only [Gs,not_true_eq_false,if_false] at h eh;have uH:dY 1 w:=be ▸ Gs;have MK:0<=w∧w<=255:=by unfold dY at uH;rwa [Ur rfl] at uH
    have Tj:¬ (i % 4*8<0):=by omega
    obtain ⟨n0,n1⟩:=hR.sim.byr o hm be (o.place+2+i / 4) (by omega) (by omega);have Jf:=hR.word (i:=o.place+2+i / 4) (by omega) (by omega);have ew:xG .i64 (lQ .i64 (W (o.place+2+i / 4)) (gQ .i64 255 (i % 4*8))) (gQ .i64 w (i % 4*8))=((gX (W (o.place+2+i / 4)).toNat w.toNat (i % 4*8).toNat:Nat):Int):=by
     have:=Bh (n:=(W (o.place+2+i / 4)).toNat) (w:=w.toNat) (s:=(i % 4*8).toNat) (by omega) (by omega) (by omega);rw [Vh n0,Vh MK.1,Vh (by omega:0<=i % 4*8)] at this;exact this
    simp only [ah,UK,Ut,Uw,UA,bh,aW,bC,bE,bi,bF,bz,aX,bB,bA,bg,bD,UT,UU,UV,aC,UE,UC,aM,aI,aU,UB,UG,bI,bK,uH,decide_true,hR.c0,Jf,Tj,decide_false,if_false,if_true,not_true_eq_false];refine ⟨by omega,by omega,by omega,by omega,hR.mw.wr (by omega) (by omega),?_⟩;rw [ew];refine h _ ⟨wb,tb,bb,upd W (o.place+2+i / 4) ((gX (W (o.place+2+i / 4)).toNat w.toNat (i % 4*8).toNat:Nat):Int),T,B,low,rfl,?_⟩ (Fr.set (by simp));have hd:=hR.d;simp only [Vl,Us,UO,U5,Vt] at hd;refine { hd:=?_,mw:=hR.mw.set (by omega) _,mt:=hR.mt.set_ne (by simp;omega) _,mb:=hR.mb.set_ne (by simp;omega) _,d:=hR.d,kinds:=hR.kinds.fr (Fr.set (F:=[wb]) (by simp)) (by simp;omega),wf:=eh,sim:=Cb hR.wf hR.sim ho (by omega) (by omega) be MK.1 MK.2 }
    have:=hR.hd.set_ne (a:=⟨wb,(o.place+2+i / 4).toNat,none⟩) (by simp;omega) (ac ((gX (W (o.place+2+i / 4)).toNat w.toNat (i % 4*8).toNat:Nat):Int));simp only [uB,nF (k:=k) (f:=eC i w) (l:=r.objs) (fun _=>rfl) (jg i w)];exact this
   ·simp only [Gs,not_false_eq_true,if_true] at h;have uH:¬ dY 1 w:=be ▸ Gs;simp only [ah,UK,Ut,Uw,UA,bh,aW,bC,bE,bi,bF,bz,aX,bB,bA,bg,bD,UT,UU,UV,aC,UE,UC,aM,aI,aU,UB,UG,bI,bK,uH,decide_false,if_false,not_false_eq_true,if_true];exact h H Gl (Fr.refl _ _)
end
abbrev cv (b:Nat) (r:Int) (a:Option Addr) (l c:Nat):Value:=.agg #[Kj b,ac r,.slice a l c]
abbrev cc (b:Nat) (r:Int) (a:Option Addr) (l c:Nat):Array Value:=#[Kj b,ac r,.slice a l c]
section
variable {H:ag}{b:Nat}{F:aR}{s:SP}{t:TB}{v:KV}{Q:QT}{r:Int}{a:Option Addr}{l c:Nat}
theorem dw {x:Bool} (h:Q (.tuple #[ac (tw x),ac 0]) H):ae PP 286 #[.bool x] Q H:=by
 apply Cu;dsimp only [aF,ao,ak,ac];cases x
 ·rw [Ut];exact oo (by decide) ⟨_,_,rfl,h⟩
 ·rw [UK];exact oo (by decide) ⟨_,_,rfl,h⟩
theorem mm (hK:PK H b F s t) (hv:KAllW s t v){w:Int} (h:∀ H',Fr [] H H'->Q (ac (bV s.h w)) H'):ae PP 86 #[cv b r a l c,ac w] Q H:=by
 apply Fo;dsimp only [aK,ao,ak,aE,ac,au,am,aJ,ax];have f:=Fr.push [] H (.cells (cc b r a l c) 138);have hb:=bH.new H (cc b r a l c) 138;refine ⟨_,hb.cell 0,IG (hK.nil f) hv ⟨_,_,rfl,?_⟩⟩
 have:=h _ f;unfold bV at this;rw [bK,ah];refine aP (fun h1=>?_) fun h1=>?_
 ·rw [Ur h1] at this;exact this
 ·rw [Uq h1] at this;exact this
theorem sR (hK:PK H b F s t) (hv:KAllW s t v){w k:Int} (h:∀ H',Fr [] H H'->Q (.bool (fc v k (bV s.h w))) H'):ae PP 87 #[cv b r a l c,ac w,ac k] Q H:=by
 apply FW;dsimp only [aK,aY,bk,aT,ao,ak,aB,aH,aE,aL,ac,cX,au,ck,am,aJ,ax];have f:=Fr.push [] H (.cells (cc b r a l c) 138);have hb:=bH.new H (cc b r a l c) 138;refine ⟨_,hb.cell 0,_,hb.cell 1,_,_,_,hb.cell 2,mm (hK.nil f) hv fun H1 f1=>⟨_,rfl,?_⟩⟩;have f01:=f.trans f1;have an:=hb.fr f1 (by simp);have QD:kY v (bV s.h w)<v.cls.length+3:=by
  unfold kY;split
  ·omega
  ·split
   ·rename_i i hi
    have:=(dE hi).1;omega
   ·omega
 refine ⟨fun w' H'=>∃(o:Int) (n:Nat),w'=[ac o]∧Fr [] H H'∧bH H' H.size (cc b r a l c)∧kY v o<n∧nZ v k n o=fc v k (bV s.h w),fun w' _=>match w' with
  | [.int _ o]=>kY v o
  | _=>0,⟨_,_,rfl,f01,an,QD,rfl⟩,?_⟩
 rintro w' H2 ⟨o,n,rfl,f2,c9,hn,hk⟩ _;refine ⟨_,rfl,?_⟩;obtain ⟨n,rfl⟩:∃ m,n=m+1:=⟨n-1,by omega⟩;unfold nZ at hk;have hq:=h _ f2;rw [←hk] at hq;rw [bK,ah];refine aP (fun h1=>?_) fun h1=>?_
 ·rw [Uq h1] at hq;rw [bI,ah];refine aP (fun h2=>?_) fun h2=>?_
  ·rw [Ur h2] at hq;exact hq
  rw [Uq h2] at hq;rw [Uq h1,Uq h2] at hk;refine ⟨_,c9.cell 0,Aa (hK.nil f2) hv fun H3 f3=>?_⟩;cases hp:eK v o with
  | none =>
   rw [hp] at hk;refine ⟨_,_,rfl,?_⟩;have ML:=h _ (f2.trans f3);rw [←hk] at ML;exact ML
  | some i =>
   rw [hp] at hk;refine ⟨_,_,rfl,?_⟩;have hr:=BC hv.ks h1 hp;exact ⟨⟨_,n,rfl,f2.trans f3,c9.fr f3 (by simp),by omega,hk⟩,hr⟩
 ·have Pt:=Uv h1;rw [Ur Pt] at hq;exact hq
theorem fU (hK:PK H b F s t){w:Int} (h:∀ H',Fr [] H H'->Q (.tuple #[ac (cq s.h w).1,ac (cq s.h w).2]) H'):ae PP 222 #[cv b r a l c,ac w] Q H:=by
 apply EJ;dsimp only [aK,aF,dd,ao,cB,ak,aE,ac,au,am,aJ];have f:=Fr.push [] H (.cells (cc b r a l c) 138);have hb:=bH.new H (cc b r a l c) 138;have e9:=hK.nil f;refine jP e9.kinds ?_;have hq:=h _ f;unfold cq at hq;unfold mE;by_cases hk:aA w=3
 ·rw [Ur hk] at hq ⊢;refine ⟨_,_,rfl,?_⟩;simp only [show ((0:Int) != 0)=false from rfl,Ut];exact ⟨_,hb.cell 0,dS e9 fun sb F1 _ hS _ _ _=>⟨_,rfl,eV hS fun hb F2 hR _ _=>⟨_,rfl,sC hR ⟨_,_,_,rfl,hq⟩⟩⟩⟩
 ·rw [Uq hk] at hq ⊢;exact ⟨_,_,rfl,hq⟩
theorem mn (hK:PK H b F s t){w i:Int} (h:∀ H',Fr [] H H'->Q (ac (dQ s.h w i)) H'):ae PP 223 #[cv b r a l c,ac w,ac i] Q H:=by
 apply EP;dsimp only [aK,dd,ak,aE,ac,au,am,aJ];have f:=Fr.push [] H (.cells (cc b r a l c) 138);have hb:=bH.new H (cc b r a l c) 138;have e9:=hK.nil f;refine jP e9.kinds ?_;have hq:=h _ f;unfold dQ jN at hq;unfold mE;by_cases hk:aA w=3
 ·rw [Ur hk] at hq ⊢;exact ⟨_,_,rfl,_,hb.cell 0,dS e9 fun sb F1 _ hS _ _ _=>⟨_,rfl,eV hS fun hb F2 hR _ _=>⟨_,rfl,wS hR ⟨_,_,rfl,hq⟩⟩⟩⟩
 ·rw [Uq hk] at hq ⊢;exact ⟨_,_,rfl,_,hb.cell 0,dS e9 fun sb F1 _ hS _ _ _=>⟨_,rfl,eV hS fun hb F2 hR _ _=>⟨_,rfl,wS hR ⟨_,_,rfl,hq⟩⟩⟩⟩
theorem ve (hK:PK H b F s t){k:Int} (h:∀ H',Fr [] H H'->Q (.bool (dz s.h k r)) H'):ae PP 88 #[cv b r a l c,ac k] Q H:=by
 apply FZ;dsimp only [aK,aY,bk,aT,ao,ak,aB,aH,aE,aL,ac,au,am,aJ,ax];have f:=Fr.push [] H (.cells (cc b r a l c) 138);have hb:=bH.new H (cc b r a l c) 138;refine ⟨_,hb.cell 0,_,hb.cell 1,_,_,_,hb.cell 2,_,hb.cell 1,fU (hK.nil f) fun H1 f1=>⟨_,_,rfl,?_⟩⟩;have f01:=f.trans f1;have an:=hb.fr f1 (by simp);have hq:=fun H' f=>h H' f;unfold dz at hq;rw [bI,ah];refine aP (fun h1=>?_) fun h1=>?_
 ·simp only [Ur h1] at hq;rw [bI];exact hq _ f01
 simp only [Uq h1] at hq;rw [bI,ah];refine aP (fun h2=>?_) fun h2=>?_
 ·simp only [Ur h2] at hq;rw [bI,ah];refine aP (fun h3=>?_) fun h3=>?_
  ·simp only [Vs h3,Bool.true_and] at hq;refine ⟨_,an.cell 0,_,an.cell 1,_,_,_,an.cell 2,_,an.cell 1,mn (hK.nil f01) fun H2 f2=>⟨_,rfl,jF (hK.nil (f01.trans f2)).kinds ⟨_,rfl,?_⟩⟩⟩;rw [bI];exact hq _ (f01.trans f2)
  ·simp only [Vz h3,WL] at hq;exact hq _ f01
 simp only [Uq h2] at hq;rw [bI,ah];refine aP (fun h3=>?_) fun h3=>?_
 ·simp only [Ur h3] at hq;rw [bI];exact hq _ f01
 ·simp only [Uq h3] at hq;exact hq _ f01
theorem wt (hK:PK H b F s t){w i x:Int} (h:∀ H',PK H' b F (SP.putW s w i x).2 t->Fr F H H'->Q (ac (SP.putW s w i x).1) H'):ae PP 305 #[cv b r a l c,ac w,ac i,ac x] Q H:=by
 apply Ec;dsimp only [aK,aT,dd,ak,aE,ac,au,am,aJ];have f:=Fr.push [] H (.cells (cc b r a l c) 138);have hb:=bH.new H (cc b r a l c) 138;have e9:=hK.nil f;refine jP e9.kinds ?_;have go:∀ o:Int,o=jN w->∃ p10:Option Addr,aq (H.push (.cells (cc b r a l c) 138)) ⟨H.size,0,none⟩=some (.pointer p10)∧ae PP 7 #[.pointer p10] (fun v11 H2=>∃ p12:Option Addr,v11=.pointer p12∧ae PP 44 #[.pointer p12] (fun v13 H3=>∃ p14:Option Addr,v13=.pointer p14∧ae PP 148 #[.pointer p14,ac o,ac i,ac x] (fun v15 H4=>∃ n16:Int,v15=ac n16∧Q (ac n16) H4) H3) H2) (H.push (.cells (cc b r a l c) 138)):=by
  rintro o rfl;refine ⟨_,hb.cell 0,dS e9 fun sb F1 _ hS ap _ cx=>⟨_,rfl,eV hS fun hb F2 hR Fs G9=>⟨_,rfl,Ft hR fun H' LU ca=>⟨_,rfl,h H' ?_ ?_⟩⟩⟩⟩
  ·exact cx H' _ (G9 H' _ LU ca) (ca.mono Fs)
  ·refine ⟨Ux f.1 ca.1,fun x hx hn=>?_⟩;rw [ca.2 x (UJ hx f.1) (fun hm=>hn (ap _ (Fs _ hm))),f.2 x hx (by simp)]
 unfold mE;by_cases hk:aA w=3
 ·rw [Ur hk];exact ⟨_,_,rfl,go _ (by unfold jN;rw [Ur hk])⟩
 ·rw [Uq hk];exact ⟨_,_,rfl,go _ (by unfold jN;rw [Uq hk])⟩
end
theorem xE (w:Int):mE 1 (· / 2) w=.tuple #[ac (dp w),ac (if aA w=1 then 0 else 10)]:=by
 unfold mE dp;by_cases h:aA w=1
 ·rw [Ur h,Ur h,Ur h]
 ·rw [Uq h,Uq h,Uq h]
section
variable {H:ag}{b:Nat}{F:aR}{s:SP}{t:TB}{v:KV}{Q:QT}{r x:Int}{a:Option Addr}{l c:Nat}{ws:List Int}
theorem lg {n:Int} (h:Q (.tuple #[ac (fe n).1,ac (fe n).2]) H):ae PP 268 #[ac n] Q H:=by
 unfold fe at h;by_cases hn:-1073741824<=n∧n<=1073741823
 ·rw [Ur hn] at h;exact EZ hn h
 ·rw [Uq hn] at h;apply xS;dsimp only [aF,bJ,ao,ac];refine Cs ⟨_,rfl,?_⟩;rw [Vz hn];exact h
theorem Ci (hr:Rd 1 H a l (av (x :: ws))):((0:Int)<=0∧0<(l:Int))∧∃ q,a=some q∧∃ n:Int,aq H (q.add (Int.toNat 0*1))=some (ac n)∧n=x:=by
 have hl:=hr.1;simp only [av,UZ,US,UC] at hl;obtain ⟨p,h1,h2,h3⟩:=hr.int (i:=0) (by omega) (by omega);exact ⟨⟨by omega,by omega⟩,p,h1,_,h2,rfl⟩
theorem Rd.nilF {H H':ag}{a:Option Addr}{l:Nat}{ys:List Value} (h:Rd 1 H a l ys) (hf:Fr [] H H'):Rd 1 H' a l ys:=h.fr' hf (by simp)
theorem xp (hK:PK H b F s t) (hr:Rd 1 H a l (av (x :: ws))) (cp:aA x≠1->∀ H',Fr [] H H'->Q (.tuple #[ac 0,ac 0,ac 170]) H')
  (h:aA x=1->∀ H',Fr [] H H'->Q (.tuple #[ac (dp r),ac (x / 2),ac 0]) H'):ae PP 296 #[cv b r a l c] Q H:=by
 apply EK;dsimp only [aY,ao,ak,aB,aH,bq,ac,bu,au,am,aJ,ax,bU];have f:=Fr.push [] H (.cells (cc b r a l c) 138);have hb:=bH.new H (cc b r a l c) 138;refine ⟨_,hb.cell 1,ph (hK.nil f).kinds ?_⟩;rw [xE];obtain ⟨h1,q,h2,n,h3,rfl⟩:=Ci (Rd.nilF hr f);refine ⟨_,_,rfl,_,_,_,hb.cell 2,h1,q,h2,_,h3,ph (hK.nil f).kinds ?_⟩;unfold mE;by_cases hk:aA n=1
 ·rw [Ur hk];exact ⟨_,_,rfl,h hk _ f⟩
 ·rw [Uq hk];exact ⟨_,_,rfl,cp hk _ f⟩
theorem pu (hK:PK H b F s t) (hr:Rd 1 H a l (av (x :: ws))){q g:Nat} (hq:bH H q #[.func (.func g) #[] #[]]) (cp:aA x≠1->∀ H',Fr [] H H'->Q (.tuple #[ac 0,ac 170]) H')
  (h:aA x=1->∀ H',Fr [] H H'->ae PP g #[ac (dp r),ac (x / 2)] (fun v12 H2=>∃ n13:Int,∃ n14:Int,v12=.tuple #[ac n13,ac n14]∧cond (n14 != 0) (Q (.tuple #[ac 0,ac n14]) H2) (ae PP 268 #[ac n13] (fun v15 H3=>∃ n16:Int,∃ n17:Int,v15=.tuple #[ac n16,ac n17]∧Q (.tuple #[ac n16,ac n17]) H3) H2)) H') :
  ae PP 295 #[cv b r a l c,Kj q] Q H:=by
 apply EG;dsimp only [aK,aY,aF,ao,cB,ak,lE,aB,aH,aE,aL,ac,au,am,aJ,ax];have f:=Fr.push [] H (.cells (cc b r a l c) 138);have hb:=bH.new H (cc b r a l c) 138;refine ⟨_,hb.cell 0,_,hb.cell 1,_,_,_,hb.cell 2,xp (hK.nil f) (Rd.nilF hr f) (fun hk H1 f1=>⟨_,_,_,rfl,cp hk _ (f.trans f1)⟩) fun hk H1 f1=>⟨_,_,_,rfl,?_⟩⟩;exact .inl ⟨g,#[],#[],(hq.fr (f.trans f1) (by simp)).cell 0,h hk _ (f.trans f1)⟩
theorem uu (hK:PK H b F s t) (hr:Rd 1 H a l (av (x :: ws))){q g:Nat} (hq:bH H q #[.func (.func g) #[] #[]]){f2:Int->Int->Bool} (hg:∀ (n m:Int){H:ag}{Q:QT},Q (.bool (f2 n m)) H->ae PP g #[ac n,ac m] Q H)
  (cp:aA x≠1->∀ H',Fr [] H H'->Q (.tuple #[ac 0,ac 170]) H') (h:aA x=1->∀ H',Fr [] H H'->Q (.tuple #[ac (tw (f2 (dp r) (x / 2))),ac 0]) H') :
  ae PP 299 #[cv b r a l c,Kj q] Q H:=by
 apply Cq;dsimp only [aK,aY,aF,bk,bJ,ao,cB,ak,lE,aB,aH,aE,aL,ac,au,am,aJ,ax];have f:=Fr.push [] H (.cells (cc b r a l c) 138);have hb:=bH.new H (cc b r a l c) 138;refine ⟨_,hb.cell 0,_,hb.cell 1,_,_,_,hb.cell 2,xp (hK.nil f) (Rd.nilF hr f) (fun hk H1 f1=>⟨_,_,_,rfl,cp hk _ (f.trans f1)⟩) fun hk H1 f1=>⟨_,_,_,rfl,?_⟩⟩;refine .inl ⟨g,#[],#[],(hq.fr (f.trans f1) (by simp)).cell 0,?_⟩;exact hg _ _ ⟨_,rfl,dw ⟨_,_,rfl,h hk _ (f.trans f1)⟩⟩
theorem sY (hr:Rd 1 H a l (av (x :: ws))) (h:∀ H',Fr [] H H'->Q (.tuple #[ac (tw (decide (r=x))),ac 0]) H'):ae PP 171 #[cv b r a l c] Q H:=by
 apply Er;dsimp only [aY,aF,bk,ak,aB,aH,bq,ac,bu,au,am,aJ,ax];have f:=Fr.push [] H (.cells (cc b r a l c) 138);have hb:=bH.new H (cc b r a l c) 138;obtain ⟨h1,q,h2,n,h3,rfl⟩:=Ci (Rd.nilF hr f);refine ⟨_,hb.cell 1,_,_,_,hb.cell 2,h1,q,h2,_,h3,?_⟩;rw [bI];exact dw ⟨_,_,rfl,trivial,h _ f⟩
theorem uK (hr:Rd 1 H a l (av (x :: ws))) (h:∀ H',Fr [] H H'->Q (.tuple #[ac (tw (decide (r≠x))),ac 0]) H'):ae PP 172 #[cv b r a l c] Q H:=by
 apply Ca;dsimp only [aY,aF,bk,ak,aB,aH,bq,ac,bu,au,am,aJ,ax];have f:=Fr.push [] H (.cells (cc b r a l c) 138);have hb:=bH.new H (cc b r a l c) 138;obtain ⟨h1,q,h2,n,h3,rfl⟩:=Ci (Rd.nilF hr f);refine ⟨_,hb.cell 1,_,_,_,hb.cell 2,h1,q,h2,_,h3,?_⟩;rw [bK];exact dw ⟨_,_,rfl,trivial,h _ f⟩
theorem qn (hK:PK H b F s t) (h:∀ H',Fr [] H H'->Q (ac (dp r)) H'):ae PP 300 #[cv b r a l c] Q H:=by
 apply DP;dsimp only [aY,ak,aB,ac,au,am,aJ,ax];have f:=Fr.push [] H (.cells (cc b r a l c) 138);have hb:=bH.new H (cc b r a l c) 138;refine ⟨_,hb.cell 1,ph (hK.nil f).kinds ?_⟩;rw [xE];exact ⟨_,_,rfl,h _ f⟩
theorem Ed (hK:PK H b F s t) (h:∀ H',Fr [] H H'->Q (.tuple #[ac (tw (decide (dp r % 2=0))),ac 0]) H'):ae PP 201 #[cv b r a l c] Q H:=by
 apply D8;dsimp only [aK,aY,aF,bk,aT,ak,aB,aH,aE,aL,ac,au,am,aJ,ax];have f:=Fr.push [] H (.cells (cc b r a l c) 138);have hb:=bH.new H (cc b r a l c) 138;refine ⟨_,hb.cell 0,_,hb.cell 1,_,_,_,hb.cell 2,qn (hK.nil f) fun H1 f1=>⟨_,rfl,?_⟩⟩;rw [xA,bI];exact dw ⟨_,_,rfl,h _ (f.trans f1)⟩
theorem E7 (hK:PK H b F s t) (h:∀ H',Fr [] H H'->Q (.tuple #[ac (tw (decide (dp r % 2=1))),ac 0]) H'):ae PP 202 #[cv b r a l c] Q H:=by
 apply Eg;dsimp only [aK,aY,aF,bk,aT,ak,aB,aH,aE,aL,ac,au,am,aJ,ax];have f:=Fr.push [] H (.cells (cc b r a l c) 138);have hb:=bH.new H (cc b r a l c) 138;refine ⟨_,hb.cell 0,_,hb.cell 1,_,_,_,hb.cell 2,qn (hK.nil f) fun H1 f1=>⟨_,rfl,?_⟩⟩;rw [xA,bI];exact dw ⟨_,_,rfl,h _ (f.trans f1)⟩
theorem xf (hK:PK H b F s t) (h:∀ H',Fr [] H H'->Q (.tuple #[ac (fe (cq s.h r).1).1,ac (fe (cq s.h r).1).2]) H'):ae PP 207 #[cv b r a l c] Q H:=by
 apply Ch;dsimp only [aK,aY,aF,ak,aB,aH,aE,aL,ac,au,am,aJ,ax];have f:=Fr.push [] H (.cells (cc b r a l c) 138);have hb:=bH.new H (cc b r a l c) 138;exact ⟨_,hb.cell 0,_,hb.cell 1,_,_,_,hb.cell 2,_,hb.cell 1,fU (hK.nil f) fun H1 f1=>⟨_,_,rfl,lg ⟨_,_,rfl,h _ (f.trans f1)⟩⟩⟩
theorem tL (hK:PK H b F s t) (h:∀ H',Fr [] H H'->Q (.tuple #[ac (tw (decide ((cq s.h r).1=0))),ac 0]) H'):ae PP 208 #[cv b r a l c] Q H:=by
 apply DA;dsimp only [aK,aY,aF,bk,ak,aB,aH,aE,aL,ac,au,am,aJ,ax];have f:=Fr.push [] H (.cells (cc b r a l c) 138);have hb:=bH.new H (cc b r a l c) 138;refine ⟨_,hb.cell 0,_,hb.cell 1,_,_,_,hb.cell 2,_,hb.cell 1,fU (hK.nil f) fun H1 f1=>⟨_,_,rfl,?_⟩⟩;rw [bI];exact dw ⟨_,_,rfl,h _ (f.trans f1)⟩
theorem pD (hK:PK H b F s t) (hr:Rd 1 H a l (av (x :: ws))){n:Int} (h:∀ H',Fr [] H H'->Q (.tuple #[ac (aV n x).1,ac (aV n x).2]) H'):ae PP 304 #[cv b r a l c,ac n] Q H:=by
 apply CT;dsimp only [aY,aF,ao,ak,cS,bv,aB,aH,bq,ac,bu,au,am,aJ,ax,bd];have f:=Fr.push [] H (.cells (cc b r a l c) 138);have hb:=bH.new H (cc b r a l c) 138;obtain ⟨h1,q,h2,m,h3,rfl⟩:=Ci (Rd.nilF hr f);refine ⟨_,_,_,hb.cell 2,h1,q,h2,_,h3,ph (hK.nil f).kinds ?_⟩;have hq:=h _ f;unfold aV at hq;unfold mE;by_cases hk:aA m=1
 ·rw [Ur hk];rw [Uq (fun e=>e hk)] at hq;refine ⟨_,_,rfl,?_⟩;simp only [show ((0:Int) != 0)=false from rfl,Ut];have hw:=bl m;rw [ah];refine aP (fun h4=>?_) fun h4=>?_
  ·rw [Ur (.inl h4)] at hq;exact hq
  rw [ah];refine aP (fun h5=>?_) fun h5=>?_
  ·rw [Ur (.inr h5)] at hq;exact hq
  ·rw [Uq (by omega)] at hq;rw [az (by omega) (by omega)];exact hq
 ·rw [Uq hk];rw [Ur hk] at hq;exact ⟨_,_,rfl,hq⟩
theorem yu (hK:PK H b F s t) (hr:Rd 1 H a l (av (x :: ws))) (h:∀ H',Fr [] H H'->Q (.tuple #[ac (oa s.h r x).1,ac (oa s.h r x).2]) H'):ae PP 209 #[cv b r a l c] Q H:=by
 apply DH;dsimp only [aK,aY,aF,aT,ao,ak,aB,aH,aE,aL,ac,au,am,aJ,ax];have f:=Fr.push [] H (.cells (cc b r a l c) 138);have hb:=bH.new H (cc b r a l c) 138;refine ⟨_,hb.cell 0,_,hb.cell 1,_,_,_,hb.cell 2,_,hb.cell 1,fU (hK.nil f) fun H1 f1=>⟨_,_,rfl,?_⟩⟩;have f01:=f.trans f1;have an:=hb.fr f1 (by simp);refine ⟨_,an.cell 0,_,an.cell 1,_,_,_,an.cell 2,pD (hK.nil f01) (Rd.nilF hr f01) fun H2 f2=>⟨_,_,rfl,?_⟩⟩;have f02:=f01.trans f2;have c9:=an.fr f2 (by simp);have hq:=fun H' f=>h H' f;unfold oa at hq;rw [bK,ah];refine aP (fun h4=>?_) fun h4=>?_
 ·simp only [Ur h4] at hq;exact hq _ f02
 ·simp only [Uq h4] at hq;exact ⟨_,c9.cell 0,_,c9.cell 1,_,_,_,c9.cell 2,_,c9.cell 1,mn (hK.nil f02) fun H3 f3=>⟨_,rfl,lg ⟨_,_,rfl,hq _ (f02.trans f3)⟩⟩⟩
end
theorem iN {P:Prop} [Decidable P] {A B:Prop} (h1:P->A) (h2:¬ P->B):cond (decide P) A B:=by
 rw [ah];exact aP h1 h2
theorem uy {H:ag}{a:Option Addr}{l c:Nat}{ys:List Value}{F:aR} (ho:cZ 1 H a l c ys F){i:Nat} (hi:i<l) (v:Value):∃ b,a=some ⟨b,0,none⟩∧Wr H ⟨b,i,none⟩∧Fr F H (bc H ⟨b,i,none⟩ v)∧cZ 1 (bc H ⟨b,i,none⟩ v) a l c (ys.set i v) F:=by
 have JK:=ho.2.1;rcases ho.2.2 with ⟨_,h2,_⟩ | ⟨b,cs,rfl,rfl,hb,hsz,ix⟩
 ·omega
 ·refine ⟨b,rfl,hb.wr (by omega),Fr.set (by simp),⟨by rw [WD];exact ho.1,JK,.inr ⟨b,_,rfl,rfl,hb.set i v,by simpa using hsz,?_⟩⟩⟩;rw [←ix];simp [List.take_set]
theorem AW {k:Nat}{H:ag}{a:Option Addr}{l m c:Nat}{xs ys:List Value}{F:aR} (h:cZ k H a (l+m) c (xs++ys) F) (hx:xs.length=l*k):cZ k H a l c xs F:=by
 refine ⟨hx,by have:=h.2.1;omega,h.2.2.imp id ?_⟩;rintro ⟨b,cs,h1,h2,h3,h4,h5⟩;refine ⟨b,cs,h1,h2,h3,h4,?_⟩;have h6:(cs.toList.take ((l+m)*k)).take (l*k)=(xs++ys).take (l*k):=by rw [h5]
 rw [WJ,Nat.min_eq_left (VZ k (by omega))] at h6;rw [h6,VB (by omega)];exact UY (by omega)
section
variable {H:ag}{b:Nat}{F:aR}{s:SP}{t:TB}{v:KV}{Q:QT}{r x:Int}{a:Option Addr}{l c:Nat}{ws:List Int}
theorem xF (hK:PK H b F s t){k fmt:Int} (hk:1<=k∧k<=65536){a6:Option Addr}{l6 c6:Nat}{xs:List Int} (hx:Rd 1 H a6 l6 (av xs)) (ho:∀ p,a6=some p->p.block∉F) (hl:l6<=1000000000)
  (h:∀ H',PK H' b F (s.makeP k fmt xs).2 t->Fr F H H'->Q (.tuple #[ac (s.makeP k fmt xs).1.1,ac (s.makeP k fmt xs).1.2]) H') :
  ae PP 290 #[cv b r a l c,ac k,ac fmt,.slice a6 l6 c6] Q H:=by
 apply C1;dsimp only [aK,aY,aF,aT,dd,ao,ak,bv,aB,aH,aE,bq,aL,ac,bu,cX,au,ck,am,aJ,bd];have ai:l6=xs.length:=by have:=hx.1;simpa [av] using this.symm
 have f:=Fr.push [] H (.cells (cc b r a l c) 138);have hb:=bH.new H (cc b r a l c) 138;have e9:=hK.nil f;have L3:H.size∉F:=fun hm=>by have:=hK.lt _ hm;omega
 have JL:=Rd.nilF hx f;refine oo hk ⟨_,_,rfl,_,hb.cell 0,dS e9 fun sb F1 _ hS ap _ cx=>⟨_,rfl,je hS fun H3 N9 f3=>⟨_,_,rfl,?_⟩⟩⟩;have v7:=cx H3 _ N9 f3;have f3F:Fr F H H3:=⟨Ux f.1 f3.1,fun y hy hn=>by rw [f3.2 y (UJ hy f.1) (fun hm=>hn (ap y hm)),f.2 y hy (by simp)]⟩;have xb:=hb.fr f3 (fun hm=>L3 (ap _ hm));have My:Rd 1 H3 a6 l6 (av xs):=JL.fr' f3 fun p hp hm=>ho p hp (ap _ hm);have hq:=h;unfold SP.makeP at hq;rw [←ai] at hq;generalize s.alloc (4*k) (l6:Int) fmt=A at v7 hq ⊢;rw [bK,ah];refine aP (fun he=>?_) fun he=>?_
 ·simp only [Ur he] at hq;exact hq _ v7 f3F
 have Tk:A.1.2=0:=Uv he;simp only [Uq he] at hq;rw [Ur Tk];obtain ⟨L,eL⟩:∃ L,L=A.2.layE A.1.1 0 xs:=⟨_,rfl⟩;rw [←eL] at hq;refine ⟨fun w H'=>∃(i:Nat) (si:SP),w=[ac i]∧i<=l6∧PK H' b F si t∧Fr F H H'∧bH H' H.size (cc b r a l c)∧Rd 1 H' a6 l6 (av xs)∧si.layE A.1.1 i (xs.drop i)=L,fun w _=>match w with
  | [.int _ i]=>((l6:Int)-i).toNat
  | _=>0,⟨0,A.2,rfl,U7 _,v7,f3F,xb,My,eL.symm⟩,?_⟩
 rintro w H4 ⟨i,si,rfl,hi,K6,f4,s8,RU,hL⟩ _;refine ⟨_,rfl,iN (fun aa=>?_) fun JT=>?_⟩
 ·have lp:i<xs.length:=by omega
  obtain ⟨q,JO,Ji,ML⟩:=RU.int (i:=(i:Int)) (by omega) (by omega);simp only [Uy] at Ji;have e1:IntKind.wrap .i64 ((i:Int)+1)=((i+1:Nat):Int):=by rw [az (by omega) (by omega)];omega
  have hd:xs.drop i=xs.getD i 0 :: xs.drop (i+1):=by
   rw [Vr lp];simp [lp]
  rw [hd] at hL;unfold SP.layE at hL;refine ⟨⟨by omega,aa⟩,q,JO,_,by rw [Uy,UC];exact Ji,_,s8.cell 0,_,s8.cell 1,_,_,_,s8.cell 2,wt K6 fun H5 L2 f5=>⟨_,rfl,?_⟩⟩;have f5F:=f4.trans f5;rw [bK,ah];refine aP (fun hp=>?_) fun hp=>?_
  ·rw [Ur hp] at hL;rw [←hL] at hq;simp only [Uq hp] at hq;exact hq _ L2 f5F
  ·rw [Uq hp] at hL;rw [e1];exact ⟨⟨i+1,_,rfl,by omega,L2,f5F,s8.fr f5 L3,RU.fr' f5 ho,hL⟩,by simp;omega⟩
 ·have lp:i=l6:=by omega
  subst lp;rw [List.drop_of_length_le (by omega)] at hL;unfold SP.layE at hL;rw [←hL] at hq;simp only [if_true] at hq;exact hq _ K6 f4
theorem wI (hK:PK H b F s t){y:ByteArray} (hy:y.size<=1000000) (h:∀ H',PK H' b F (s.makeP 10 1 (bL y)).2 t->Fr F H H'->Q (.tuple #[ac (s.makeP 10 1 (bL y)).1.1,ac (s.makeP 10 1 (bL y)).1.2]) H') :
  ae PP 302 #[cv b r a l c,.string y] Q H:=by
 have ic:bj PP 30=some (1,8,some (ac 0)):=by kernel_rfl
 apply Bu;dsimp only [aK,aY,aF,ao,ak,bv,aB,aH,aE,bq,aL,ac,bu,cX,au,ck,am,aJ,cC,ax,bP,zr,bd];have f:=Fr.push [] H (.cells (cc b r a l c) 138);have hb:=bH.new H (cc b r a l c) 138;have Tl:=hK.lt;refine eA ic rfl (by omega) (Vo _) (by omega) (by decide) fun e=>⟨_,_,_,rfl,?_⟩;have f2:=f.trans (Fr.push [] _ (.cells (Array.replicate (y.size:Int).toNat (ac 0)) e));have c9:=hb.push (.cells (Array.replicate (y.size:Int).toNat (ac 0)) e);have Jk:cZ 1 ((H.push (.cells (cc b r a l c) 138)).push (.cells (Array.replicate (y.size:Int).toNat (ac 0)) e)) (some ⟨(H.push (.cells (cc b r a l c) 138)).size,0,none⟩) (y.size:Int).toNat (y.size:Int).toNat (av (List.replicate y.size 0)) [(H.push (.cells (cc b r a l c) 138)).size]:=by
  refine ⟨by simp [av],UI _,.inr ⟨_,_,rfl,rfl,bH.new _ _ _,by simp,?_⟩⟩;simp [av]
 have hsz:(H.push (.cells (cc b r a l c) 138)).size=H.size+1:=by simp
 rw [hsz] at Jk ⊢;simp only [Uy] at f2 c9 Jk ⊢;generalize ((H.push (.cells (cc b r a l c) 138)).push (.cells (Array.replicate y.size (ac 0)) e))=H2 at f2 c9 Jk ⊢;have QE:H.size+1∉F:=fun hm=>by have:=Tl _ hm;omega
 refine ⟨fun w H'=>∃(i:Nat) (rest:List Int),w=[ac i]∧i<=y.size∧cZ 1 H' (some ⟨H.size+1,0,none⟩) y.size y.size (av ((bL y).take i++rest)) [H.size+1]∧Fr [] H H'∧bH H' H.size (cc b r a l c),fun w _=>match w with
  | [.int _ i]=>((y.size:Int)-i).toNat
  | _=>0,⟨0,_,rfl,U7 _,Jk,f2,c9⟩,?_⟩
 rintro w H3 ⟨i,rest,rfl,hi,Fh,f3,xb⟩ _;have w9:=gz y;have ai:=Fh.len;simp only [av,UZ,UP,U4,UC,w9] at ai;refine ⟨_,rfl,iN (fun aa=>?_) fun JT=>?_⟩
 ·have lp:i<y.size:=by omega
  have e1:IntKind.wrap .i64 ((i:Int)+1)=((i+1:Nat):Int):=by rw [az (by omega) (by omega)];omega
  have hg:y[i]?=some y[i]:=by simp [lp]
  have hu:=(y[i]).toNat_lt;have eu:IntKind.wrap .i64 ((y[i]).toNat:Int)=((y[i]).toNat:Int):=az (by omega) (by omega);obtain ⟨bb,NP,hw,hf,DR⟩:=uy Fh lp (ac ((y[i]).toNat:Int));cases NP;rw [e1];refine ⟨y[i],⟨by omega,by rw [Uy];exact hg⟩,⟨by omega,by omega⟩,_,rfl,?_⟩;rw [aC,UE,UC,Uy,eu];cases rest with
  | nil=>simp at ai;omega
  | cons z rest =>
   have ca:Fr [] H (bc H3 ⟨H.size+1,i,none⟩ (ac ((y[i]).toNat:Int))):=Fr.late f3 (by omega);refine ⟨hw,⟨i+1,rest,rfl,by omega,?_,ca,xb.fr hf (by simp)⟩,by simp;omega⟩;have QF:(bL y)[i]?=some ((y[i]).toNat:Int):=by
    unfold bL;rw [Va,Vm]
    have:y.data[i]?=some y[i]:=by
     have h1:i<y.data.size:=lp;rw [Wk h1];rfl
    rw [this];rfl
   have et:(av ((bL y).take i++z :: rest)).set i (ac ((y[i]).toNat:Int))=av ((bL y).take (i+1)++rest):=by
    have h1:((bL y).take i).length=i:=by rw [U4,w9];omega
    rw [Vj,QF];simp only [av,Vf,U8,Option.toList_some,Vq,List.singleton_append,VP];rw [Wz _ _ (by rw [UZ,h1];exact UI _),UZ,h1,W3];rfl
   rw [et] at DR;exact DR
 ·have Tm:i=y.size:=by omega
  subst Tm;have Lu:rest=[]:=UX (by omega);subst Lu;rw [VJ,UY (by omega)] at Fh;refine ⟨_,xb.cell 0,_,xb.cell 1,_,_,_,xb.cell 2,xF (hK.nil f3) (by decide) Fh.rd (fun p hp=>by cases hp;exact QE) (by omega) fun H' lc f'=>⟨_,_,rfl,h H' lc ?_⟩⟩;exact ⟨Ux f3.1 f'.1,fun z hz hn=>by rw [f'.2 z (UJ hz f3.1) hn,f3.2 z hz (by simp)]⟩
end
end Go.Proofs.YtgjfejoohojokaaGreatDoor
namespace Kw
open Go
def GO (H:ag) (r:Option Nat) (es:List (Key × Value)):Prop :=
 match r with
 | some r=>dJ H r es
 | none=>es=[]
section
variable {P:Program}{H:ag}
theorem od {T:TypeId}{d:TypeDesc}{z:Value}{r:Option Nat}{k:Key}{es:List (Key × Value)}{ok:Bool}{Q:Value->ag->Prop} (hi:eI P T=some (d,some z)) (hk:k.of d) (ho:∀ p∈es,p.1.of d) (hm:GO H r es)
  (h:Q (if ok then .tuple #[(dH es k).getD z,.bool (dH es k).isSome] else (dH es k).getD z) H):cu P (Instr.lookup T (.map r) k.v ok) Q H:=by
 cases r with
 | some r=>exact lx hi hk ho hm h
 | none =>
  have hm:es=[]:=hm;subst hm;obtain ⟨kt,et,i,hu,ta,KU,hz⟩:=eY hi;unfold Instr.lookup;refine ay (bn hu ?_);refine ay (dX ?_);refine ay (ig ta hk ?_);refine ay (iK (ents:=#[]) ta hk rfl ho ?_);exact ay (eb KU hz h)
end
end Kw
namespace Go.Proofs.YtgjfejoohojokaaGreatDoor
open Kw
theorem kZ {a b:Int}{A B:Prop} (h1:a=b->A) (h2:a≠b->B):cond (a == b) A B:=by
 rw [bI,ah];exact aP h1 h2
inductive PF
 | fn (f:Nat)
 | clo (f g:Nat)
 | slot (f:Nat) (i:Int)
 | nil
deriving DecidableEq
abbrev PE:=ByteArray × Int × PF
def oE (H:ag) (n r:Nat):PF->Value->Prop
 | .fn f,v=>v=.func (.func f) #[] #[]
 | .clo f g,v=>∃ b,v=.func (.func f) #[] #[Kj b]∧bH H b #[.func (.func g) #[] #[]]∧n<=b∧b≠r
 | .slot f i,v=>∃ b,v=.func (.func f) #[] #[Kj b]∧bH H b #[ac i]∧n<=b∧b≠r
 | .nil,v=>v=.nilFunc
theorem oE.fr {H H':ag}{n r:Nat}{G:aR}{p:PF}{v:Value} (h:oE H n r p v) (hf:Fr G H H') (hG:∀ x∈G,x<n∨x=r):oE H' n r p v:=by
 cases p with
 | fn f=>exact h
 | clo f g =>
  obtain ⟨b,h1,h2,h3,h4⟩:=h;exact ⟨b,h1,h2.fr hf (fun hm=>by rcases hG b hm with h5 | h5 <;> omega),h3,h4⟩
 | slot f i =>
  obtain ⟨b,h1,h2,h3,h4⟩:=h;exact ⟨b,h1,h2.fr hf (fun hm=>by rcases hG b hm with h5 | h5 <;> omega),h3,h4⟩
 | nil=>exact h
def Hy (H:ag) (n r:Nat) (p:Key × Value) (e:PE):Prop:=p.1=.str e.1∧∃ v,p.2=.agg #[ac e.2.1,v]∧oE H n r e.2.2 v
def fv:List PE->ByteArray->Option (Int × PF)
 | [],_=>none
 | e :: es,x=>if x=e.1 then some e.2 else fv es x
inductive Ents (H:ag) (n r:Nat):List (Key × Value)->List PE->Prop
 | nil:Ents H n r [] []
 | cons {p e ms es}:Hy H n r p e->Ents H n r ms es->Ents H n r (p :: ms) (e :: es)
theorem Ents.fr {H H':ag}{n r:Nat}{G:aR}{ms:List (Key × Value)}{es:List PE} (h:Ents H n r ms es) (hf:Fr G H H') (hG:∀ x∈G,x<n∨x=r):Ents H' n r ms es:=by
 induction h with
 | nil=>exact .nil
 | cons he _ ih =>
  obtain ⟨h1,v,h2,h3⟩:=he;exact .cons ⟨h1,v,h2,h3.fr hf hG⟩ ih
theorem Ents.snoc {H:ag}{n r:Nat}{ms:List (Key × Value)}{es:List PE}{p:Key × Value}{e:PE} (h:Ents H n r ms es) (he:Hy H n r p e):Ents H n r (ms++[p]) (es++[e]):=by
 induction h with
 | nil=>exact .cons he .nil
 | cons h1 _ ih=>exact .cons h1 ih
theorem Ents.keys {H:ag}{n r:Nat}{ms:List (Key × Value)}{es:List PE} (h:Ents H n r ms es):∀ p∈ms,p.1.of .string:=by
 induction h with
 | nil=>intro p hp;cases hp
 | cons he _ ih =>
  intro p hp;rcases Us.1 hp with rfl | hp
  ·rw [he.1];trivial
  ·exact ih p hp
theorem Ents.none {H:ag}{n r:Nat}{ms:List (Key × Value)}{es:List PE} (h:Ents H n r ms es){x:ByteArray} (hx:fv es x=.none):dH ms (.str x)=.none:=by
 induction h with
 | nil=>rfl
 | cons he _ ih =>
  unfold fv at hx;unfold dH;split at hx
  ·cases hx
  ·rename_i hn;rw [Uq (fun e=>hn (by rw [he.1] at e;cases e;rfl))];exact ih hx
theorem Ents.some {H:ag}{n r:Nat}{ms:List (Key × Value)}{es:List PE} (h:Ents H n r ms es){x:ByteArray}{k:Int}{q:PF} (hx:fv es x=.some (k,q)):∃ v,dH ms (.str x)=.some (.agg #[ac k,v])∧oE H n r q v:=by
 induction h with
 | nil=>cases hx
 | cons he _ ih =>
  unfold fv at hx;unfold dH;obtain ⟨h1,v,h2,h3⟩:=he;split at hx
  ·rename_i hn;have e1:=Option.some.inj hx;rw [Ur (by rw [h1,hn])];rw [e1] at h2 h3;exact ⟨v,by rw [h2],h3⟩
  ·rename_i hn;rw [Uq (fun e=>hn (by rw [h1] at e;cases e;rfl))];exact ih hx
structure MapE (H0 H:ag) (r:Nat) (es:List PE):Prop where
 m:∃ ms,dJ H r ms∧Ents H H0.size r ms es
 f:Fr [] H0 H
 l:H0.size<=r
theorem MapE.new (H:ag):MapE H (H.push (.map #[] 0)) H.size []:=⟨⟨[],dJ.new H,.nil⟩,Fr.push _ _ _,UI _⟩
theorem MapE.fr {H0 H H':ag}{r:Nat}{es:List PE} (h:MapE H0 H r es) (hf:Fr [] H H'):MapE H0 H' r es:=by
 obtain ⟨⟨ms,h1,h2⟩,h3,h4⟩:=h;exact ⟨⟨ms,h1.fr hf (by simp),h2.fr hf (by simp)⟩,h3.trans hf,h4⟩
section
variable {H0 H:ag}{r:Nat}{es:List PE}{k:ByteArray}{n:Int}{Q:Unit->ag->Prop}
theorem kh {p:PF}{v:Value} (hm:MapE H0 H r es) (hv:oE H H0.size r p v) (hn:fv es k=none) (h:∀ H',MapE H0 H' r (es++[(k,n,p)])->Q () H'):cu PP (Instr.mapUpdate 135 (.map (some r)) (.string k) (.agg #[ac n,v])) Q H:=by
 obtain ⟨⟨ms,h1,h2⟩,h3,h4⟩:=hm;have hi:eI PP 135=some (.string,some (.agg #[ac 0,.nilFunc])):=by kernel_rfl
 refine iQ (k:=.str k) hi trivial h2.keys h1 fun H' g f=>h H' ⟨⟨_,g,?_⟩,⟨Ux h3.1 f.1,fun y hy _=>?_⟩,h4⟩
 ·rw [kH (fD.2 (h2.none hn))];have hG:∀ x∈[r],x<H0.size∨x=r:=fun x hx=>.inr (Uu.1 hx);exact (h2.fr f hG).snoc ⟨rfl,v,rfl,hv.fr f hG⟩
 ·rw [f.2 y (UJ hy h3.1) (fun e=>by simp only [Uu] at e;omega),h3.2 y hy (by simp)]
theorem bN {f:Nat} (hm:MapE H0 H r es) (hn:fv es k=none) (h:∀ H',MapE H0 H' r (es++[(k,n,.fn f)])->Q () H'):cu PP (Instr.mapUpdate 135 (.map (some r)) (.string k) (.agg #[ac n,.func (.func f) #[] #[]])) Q H :=
 kh (p:=.fn f) hm rfl hn h
theorem uN (hm:MapE H0 H r es) (hn:fv es k=none) (h:∀ H',MapE H0 H' r (es++[(k,n,.nil)])->Q () H'):cu PP (Instr.mapUpdate 135 (.map (some r)) (.string k) (.agg #[ac n,.nilFunc])) Q H :=
 kh (p:=.nil) hm rfl hn h
theorem MapE.lt (hm:MapE H0 H r es):r<H.size:=by obtain ⟨⟨ms,h1,_⟩,_⟩:=hm;exact h1.lt
theorem eT {f:Nat} (hm:MapE H0 H r es) (hn:fv es k=none) (h:∀ H',MapE H0 H' r (es++[(k,n,.clo 295 f)])->Q () H'):ae PP 182 #[.func (.func f) #[] #[]] (fun v H1=>∃ f8:Nat,∃ g8:Array Value,∃ h8:Array Value,v=.func (.func f8) g8 h8∧cu PP (Instr.mapUpdate 135 (.map (some r)) (.string k) (.agg #[ac n,.func (.func f8) g8 h8])) Q H1) H:=by
 apply Ej;dsimp only [aK,am,aJ]
 have:=hm.lt;exact ⟨_,_,_,rfl,kh (p:=.clo _ f) (hm.fr (Fr.push _ _ _)) ⟨_,rfl,bH.new _ _ _,hm.f.1,by omega⟩ hn h⟩
theorem lG {f:Nat} (hm:MapE H0 H r es) (hn:fv es k=none) (h:∀ H',MapE H0 H' r (es++[(k,n,.clo 299 f)])->Q () H'):ae PP 192 #[.func (.func f) #[] #[]] (fun v H1=>∃ f8:Nat,∃ g8:Array Value,∃ h8:Array Value,v=.func (.func f8) g8 h8∧cu PP (Instr.mapUpdate 135 (.map (some r)) (.string k) (.agg #[ac n,.func (.func f8) g8 h8])) Q H1) H:=by
 apply B0;dsimp only [aK,am,aJ]
 have:=hm.lt;exact ⟨_,_,_,rfl,kh (p:=.clo _ f) (hm.fr (Fr.push _ _ _)) ⟨_,rfl,bH.new _ _ _,hm.f.1,by omega⟩ hn h⟩
theorem jh {i:Int} (hm:MapE H0 H r es) (hn:fv es k=none) (h:∀ H',MapE H0 H' r (es++[(k,n,.slot 309 i)])->Q () H'):ae PP 218 #[ac i] (fun v H1=>∃ f8:Nat,∃ g8:Array Value,∃ h8:Array Value,v=.func (.func f8) g8 h8∧cu PP (Instr.mapUpdate 135 (.map (some r)) (.string k) (.agg #[ac n,.func (.func f8) g8 h8])) Q H1) H:=by
 apply Cc;dsimp only [aK,ac,am,aJ]
 have:=hm.lt;exact ⟨_,_,_,rfl,kh (p:=.slot _ i) (hm.fr (Fr.push _ _ _)) ⟨_,rfl,bH.new _ _ _,hm.f.1,by omega⟩ hn h⟩
end
def wX (H0 H:ag) (r:Option Nat) (es:List PE):Prop :=
 match r with
 | some r=>MapE H0 H r es
 | none=>es=[]∧Fr [] H0 H
theorem wX.f {H0 H:ag}{r:Option Nat}{es:List PE} (h:wX H0 H r es):Fr [] H0 H:=by
 cases r
 ·exact h.2
 ·exact MapE.f h
theorem qY {H0 H:ag}{r:Option Nat}{es:List PE}{x:ByteArray}{Q:QT} (h:wX H0 H r es) (tc:fv es x=none->Q (.tuple #[.agg #[ac 0,.nilFunc],.bool false]) H)
  (QG:∀ k q v rr,fv es x=some (k,q)->oE H H0.size rr q v->Q (.tuple #[.agg #[ac k,v],.bool true]) H):cu PP (Instr.lookup 135 (.map r) (.string x) true) Q H:=by
 have hi:eI PP 135=some (.string,some (.agg #[ac 0,.nilFunc])):=by kernel_rfl
 cases r with
 | none =>
  obtain ⟨rfl,_⟩:=h;exact od (k:=.str x) (es:=[]) hi trivial (by simp) rfl (tc rfl)
 | some r =>
  obtain ⟨⟨ms,h1,h2⟩,_,_⟩:=h;refine od (k:=.str x) (r:=some r) hi trivial h2.keys h1 ?_;cases hg:fv es x with
  | none=>rw [h2.none hg];exact tc hg
  | some kq =>
   obtain ⟨k,q⟩:=kq;obtain ⟨v,h3,h4⟩:=h2.some hg;rw [h3];exact QG k q v r hg h4
end Go.Proofs.YtgjfejoohojokaaGreatDoor
namespace Go.Proofs
open Go.Shelf
def Tryz.rep_ren:Go.Shelf.Ren:=⟨fun | 105=>310 | 212=>356 | 99=>357 | 165=>358 | 166=>359 | 170=>360 | 169=>355 | 263=>384 | 264=>385 | 206=>386 | 240=>383 | 241=>387 | 276=>396 | 277=>397 | n=>n,fun | 9=>9 | 3=>3 | 4=>4 | 20=>20 | 0=>0 | 46=>79 | 109=>300 | 5=>5 | 72=>295 | 76=>303 | 51=>286 | 146=>325 | 53=>288 | 148=>327 | 70=>293 | 37=>249 | 75=>297 | 127=>324 | 164=>334 | 80=>299 | n=>n,fun | n=>n⟩
theorem Tryz.rep:Go.Proofs.Lays.n105 Tryz.prog Tryz.rep_ren:={
 mixed:=by kernel_rfl
 f99:=Tryz.func357.trans (congrArg some (by kernel_rfl))
 f105:=Tryz.func310.trans (congrArg some (by kernel_rfl))
 f165:=Tryz.func358.trans (congrArg some (by kernel_rfl))
 f166:=Tryz.func359.trans (congrArg some (by kernel_rfl))
 f169:=Tryz.func355.trans (congrArg some (by kernel_rfl))
 f170:=Tryz.func360.trans (congrArg some (by kernel_rfl))
 f206:=Tryz.func386.trans (congrArg some (by kernel_rfl))
 f212:=Tryz.func356.trans (congrArg some (by kernel_rfl))
 f240:=Tryz.func383.trans (congrArg some (by kernel_rfl))
 f241:=Tryz.func387.trans (congrArg some (by kernel_rfl))
 f263:=Tryz.func384.trans (congrArg some (by kernel_rfl))
 f264:=Tryz.func385.trans (congrArg some (by kernel_rfl))
 f276:=Tryz.func396.trans (congrArg some (by kernel_rfl))
 f277:=Tryz.func397.trans (congrArg some (by kernel_rfl))
 t0:=Tryz.underlying0
 a0:=Tryz.isAgg0
 z0:=Tryz.sizeOf0
 v0:=Tryz.zeroValue0
 t3:=Tryz.underlying3
 a3:=Tryz.isAgg3
 z3:=Tryz.sizeOf3
 v3:=Tryz.zeroValue3
 t4:=Tryz.underlying4
 a4:=Tryz.isAgg4
 z4:=Tryz.sizeOf4
 v4:=Tryz.zeroValue4
 t5:=Tryz.underlying5
 a5:=Tryz.isAgg5
 z5:=Tryz.sizeOf5
 v5:=Tryz.zeroValue5
 t9:=Tryz.underlying9
 a9:=Tryz.isAgg9
 z9:=Tryz.sizeOf9
 v9:=Tryz.zeroValue9
 t20:=Tryz.underlying20
 a20:=Tryz.isAgg20
 z20:=Tryz.sizeOf20
 v20:=Tryz.zeroValue20
 t37:=Tryz.underlying249
 a37:=Tryz.isAgg249
 z37:=Tryz.sizeOf249
 v37:=Tryz.zeroValue249
 t46:=Tryz.underlying79
 a46:=Tryz.isAgg79
 z46:=Tryz.sizeOf79
 v46:=Tryz.zeroValue79
 t51:=Tryz.underlying286
 a51:=Tryz.isAgg286
 z51:=Tryz.sizeOf286
 v51:=Tryz.zeroValue286
 t53:=Tryz.underlying288
 a53:=Tryz.isAgg288
 z53:=Tryz.sizeOf288
 v53:=Tryz.zeroValue288
 t70:=Tryz.underlying293
 a70:=Tryz.isAgg293
 z70:=Tryz.sizeOf293
 v70:=Tryz.zeroValue293
 t72:=Tryz.underlying295
 a72:=Tryz.isAgg295
 z72:=Tryz.sizeOf295
 v72:=Tryz.zeroValue295
 t75:=Tryz.underlying297
 a75:=Tryz.isAgg297
 z75:=Tryz.sizeOf297
 v75:=Tryz.zeroValue297
 t76:=Tryz.underlying303
 a76:=Tryz.isAgg303
 z76:=Tryz.sizeOf303
 v76:=Tryz.zeroValue303
 t109:=Tryz.underlying300
 a109:=Tryz.isAgg300
 z109:=Tryz.sizeOf300
 v109:=Tryz.zeroValue300
 t127:=Tryz.underlying324
 a127:=Tryz.isAgg324
 z127:=Tryz.sizeOf324
 v127:=Tryz.zeroValue324
 t146:=Tryz.underlying325
 a146:=Tryz.isAgg325
 z146:=Tryz.sizeOf325
 v146:=Tryz.zeroValue325
 t148:=Tryz.underlying327
 a148:=Tryz.isAgg327
 z148:=Tryz.sizeOf327
 v148:=Tryz.zeroValue327
 t164:=Tryz.underlying334
 a164:=Tryz.isAgg334
 z164:=Tryz.sizeOf334
 v164:=Tryz.zeroValue334 }
theorem Tryz.repX:Builder.Extra Tryz.prog Tryz.rep_ren:={
 sizeBuilder:=by kernel_rfl
 liesBuilder:=by kernel_rfl
 t5:=Tryz.rep.t5
 a5:=Tryz.rep.a5
 z5:=Tryz.rep.z5
 v5:=Tryz.rep.v5
 infoByte:=by kernel_rfl
 cellsByte:=by kernel_rfl
 sizeByte:=by kernel_rfl
 neB5:=by decide }
def Tryz.itoa_ren:Go.Shelf.Ren:=⟨fun | 171=>353 | 243=>382 | 246=>395 | 283=>399 | 284=>400 | 285=>401 | 286=>402 | 129=>349 | 317=>403 | 318=>404 | 319=>405 | 320=>406 | 337=>407 | 338=>408 | n=>n,fun | 3=>3 | 9=>9 | 2=>2 | 4=>4 | 171=>338 | 0=>0 | 53=>288 | 37=>249 | 5=>5 | 173=>340 | 212=>343 | 51=>286 | 20=>20 | 213=>344 | 46=>79 | 232=>345 | 233=>346 | n=>n,fun | 17=>3 | 18=>4 | 19=>5 | n=>n⟩
theorem Tryz.itoa:Go.Proofs.LaysM.n171 Tryz.prog Tryz.itoa_ren:={
 mixed:=by kernel_rfl
 f129:=Tryz.func349.trans (congrArg some (by kernel_rfl))
 f171:=Tryz.func353.trans (congrArg some (by kernel_rfl))
 f243:=Tryz.func382.trans (congrArg some (by kernel_rfl))
 f246:=Tryz.func395.trans (congrArg some (by kernel_rfl))
 f283:=Tryz.func399.trans (congrArg some (by kernel_rfl))
 f284:=Tryz.func400.trans (congrArg some (by kernel_rfl))
 f285:=Tryz.func401.trans (congrArg some (by kernel_rfl))
 f286:=Tryz.func402.trans (congrArg some (by kernel_rfl))
 f317:=Tryz.func403.trans (congrArg some (by kernel_rfl))
 f318:=Tryz.func404.trans (congrArg some (by kernel_rfl))
 f319:=Tryz.func405.trans (congrArg some (by kernel_rfl))
 f320:=Tryz.func406.trans (congrArg some (by kernel_rfl))
 f337:=Tryz.func407.trans (congrArg some (by kernel_rfl))
 f338:=Tryz.func408.trans (congrArg some (by kernel_rfl))
 t0:=Tryz.underlying0
 a0:=Tryz.isAgg0
 z0:=Tryz.sizeOf0
 v0:=Tryz.zeroValue0
 t2:=Tryz.underlying2
 a2:=Tryz.isAgg2
 z2:=Tryz.sizeOf2
 v2:=Tryz.zeroValue2
 t3:=Tryz.underlying3
 a3:=Tryz.isAgg3
 z3:=Tryz.sizeOf3
 v3:=Tryz.zeroValue3
 t4:=Tryz.underlying4
 a4:=Tryz.isAgg4
 z4:=Tryz.sizeOf4
 v4:=Tryz.zeroValue4
 t5:=Tryz.underlying5
 a5:=Tryz.isAgg5
 z5:=Tryz.sizeOf5
 v5:=Tryz.zeroValue5
 t9:=Tryz.underlying9
 a9:=Tryz.isAgg9
 z9:=Tryz.sizeOf9
 v9:=Tryz.zeroValue9
 t20:=Tryz.underlying20
 a20:=Tryz.isAgg20
 z20:=Tryz.sizeOf20
 v20:=Tryz.zeroValue20
 t37:=Tryz.underlying249
 a37:=Tryz.isAgg249
 z37:=Tryz.sizeOf249
 v37:=Tryz.zeroValue249
 t46:=Tryz.underlying79
 a46:=Tryz.isAgg79
 z46:=Tryz.sizeOf79
 v46:=Tryz.zeroValue79
 t51:=Tryz.underlying286
 a51:=Tryz.isAgg286
 z51:=Tryz.sizeOf286
 v51:=Tryz.zeroValue286
 t53:=Tryz.underlying288
 a53:=Tryz.isAgg288
 z53:=Tryz.sizeOf288
 v53:=Tryz.zeroValue288
 t171:=Tryz.underlying338
 a171:=Tryz.isAgg338
 z171:=Tryz.sizeOf338
 v171:=Tryz.zeroValue338
 t173:=Tryz.underlying340
 a173:=Tryz.isAgg340
 z173:=Tryz.sizeOf340
 v173:=Tryz.zeroValue340
 t212:=Tryz.underlying343
 a212:=Tryz.isAgg343
 z212:=Tryz.sizeOf343
 v212:=Tryz.zeroValue343
 t213:=Tryz.underlying344
 a213:=Tryz.isAgg344
 z213:=Tryz.sizeOf344
 t232:=Tryz.underlying345
 a232:=Tryz.isAgg345
 z232:=Tryz.sizeOf345
 v232:=Tryz.zeroValue345
 t233:=Tryz.underlying346
 a233:=Tryz.isAgg346
 z233:=Tryz.sizeOf346
 v233:=Tryz.zeroValue346
 g17:=by kernel_rfl
 g18:=by kernel_rfl
 g19:=by kernel_rfl
 i0:=by kernel_rfl
 i2:=by kernel_rfl
 i3:=by kernel_rfl
 i4:=by kernel_rfl
 i5:=by kernel_rfl
 i9:=by kernel_rfl
 i20:=by kernel_rfl
 i37:=by kernel_rfl
 i46:=by kernel_rfl
 i51:=by kernel_rfl
 i53:=by kernel_rfl
 i171:=by kernel_rfl
 i173:=by kernel_rfl
 i212:=by kernel_rfl
 i232:=by kernel_rfl
 i233:=by kernel_rfl
 m17:=by kernel_rfl
 m18:=by kernel_rfl
 m19:=by kernel_rfl }
end Go.Proofs
namespace Kw
open Go
def RD {α:Type} (d:Nat):Result α->Prop
 | .ok _ w=>d<=w.drawn
 | .halt _ w=>d<=w.drawn
theorem RD.mono {α:Type}{d d':Nat}{r:Result α} (h:d<=d') (hr:RD d' r):RD d r:=by
 cases r <;> exact Ux h hr
theorem HN {α:Type} (a:Ask α) (w:World):w.drawn<=(w.ask a).2.drawn:=by
 induction a generalizing w with
 | done=>exact UI _
 | ask what range k ih =>
  unfold World.ask;simp only;split
  ·exact ih _ _
  ·exact Ux (VO _) (ih _ { w with drawn:=w.drawn+1 })
theorem EV (w:World) (c:Sys):w.drawn<=(w.sys c).2.drawn:=by
 unfold World.sys;have h:=HN (Kernel.perform c w.os) w;split
 ·exact UI _
 ·rename_i e;rw [e] at h;exact h
theorem uq {p:Program}{w:World}{at_:Addr}{u:TypeId}{k:Addr}{v:Value}{b:Bool}{r:World × List Addr} (h:w.viewStore p at_ u k v b=.ok r):r.1.drawn=w.drawn:=by
 unfold World.viewStore at h;simp only [bind,Except.bind,pure,Except.pure,MonadExcept.throw,throwThe,MonadExceptOf.throw] at h
 repeat' split at h
 all_goals cases h
 all_goals rfl
theorem pE {p:Program}{w w':World}{a:Addr}{v:Value}{b:Bool}{l:List Addr} (h:w.farStore p a v b=.ok (w',l)):w'.drawn=w.drawn:=by
 unfold World.farStore at h
 repeat' split at h
 ·cases h;rename_i e;exact uq e
 all_goals cases h
theorem rE (w:World) (a:Addr) (v:Value):(w.setCell a v).drawn=w.drawn:=by
 unfold World.setCell;rfl
theorem ux (w:World) (a:Addr) (n:Nat):(w.freeze a n).drawn=w.drawn:=by
 unfold World.freeze;split <;> rfl
theorem AV {α:Type} (p:Program) (s:Sem α) (w:World):RD w.drawn (s.run p w):=by
 induction s generalizing w with
 | pure=>exact UI _
 | load m a k ih =>
  unfold Sem.run;split
  ·exact ih _ _
  ·split
   ·exact ih _ _
   ·exact UI _
 | store m a v k ih =>
  have key:RD w.drawn (match w.cell? a with
   | some _ => if w.frozen? a then .halt (.unsupported (.unsafePointer "a write to bytes that a string shares")) w else k.run p (w.setCell a v)
   | none=>match w.farStore p a v (m == .atomic) with
    | .ok (w,_)=>k.run p w
    | .error h=>.halt h w):=by
   split
   ·split
    ·exact UI _
    ·have:=ih (w.setCell a v);rw [rE] at this;exact this
   ·split
    ·rename_i e;rw [←pE e];exact ih _
    ·exact UI _
  cases v <;> first | exact key | exact UI _
 | new o k ih=>exact ih _ { w with heap:=w.heap.push o }
 | shape r k ih=>exact ih _ _
 | freeze a n k ih=>have:=ih (w.freeze a n);rw [ux] at this;exact this
 | frozen a k ih=>exact ih _ _
 | getObj r k ih =>
  unfold Sem.run;split
  ·exact UI _
  ·exact ih _ _
  ·exact UI _
 | setObj r o k ih =>
  unfold Sem.run;split
  ·exact UI _
  ·exact ih { w with heap:=w.heap.setIfInBounds r o }
  ·exact UI _
 | choose q k ih =>
  unfold Sem.run;split
  ·exact ih _ _
  ·exact RD.mono (VO _) (ih _ { w with drawn:=w.drawn+1 })
 | sys c k ih=>exact RD.mono (EV w c) (ih _ _)
 | program k ih=>exact ih _ _
 | mark m k ih=>exact ih _
 | halt h=>exact UI _
theorem mJ {α:Type} (p:Program) (s:Sem α) (w:World) (es:Array Event):RD w.drawn (s.runT p w es).1:=by
 induction s generalizing w es with
 | pure=>exact UI _
 | load m a k ih =>
  unfold Sem.runT;split
  ·exact ih _ _ _
  ·split
   ·exact ih _ _ _
   ·exact UI _
 | store m a v k ih =>
  have key:RD w.drawn (match w.cell? a with
   | some _ =>
    if w.frozen? a then (Result.halt (.unsupported (.unsafePointer "a write to bytes that a string shares")) w, es)
    else k.runT p (w.setCell a v) (es.push ⟨.cell a,true,m == Mode.atomic⟩)
   | none=>match w.farStore p a v (m == Mode.atomic) with
    | .ok (w,touched)=>k.runT p w (es++touched.toArray.map fun x=>(⟨.cell x,true,m == Mode.atomic⟩:Event))
    | .error h=>(Result.halt h w,es)).1:=by
   split
   ·split
    ·exact UI _
    ·have:=ih (w.setCell a v) (es.push ⟨.cell a,true,m == .atomic⟩);rw [rE] at this;exact this
   ·split
    ·rename_i e;rw [←pE e];exact ih _ _
    ·exact UI _
  cases v <;> first | exact key | exact UI _
 | new o k ih=>exact ih _ { w with heap:=w.heap.push o } _
 | shape r k ih=>exact ih _ _ _
 | freeze a n k ih=>have:=ih (w.freeze a n) es;rw [ux] at this;exact this
 | frozen a k ih=>exact ih _ _ _
 | getObj r k ih =>
  unfold Sem.runT;split
  ·exact UI _
  ·exact ih _ _ _
  ·exact UI _
 | setObj r o k ih =>
  unfold Sem.runT;split
  ·exact UI _
  ·exact ih { w with heap:=w.heap.setIfInBounds r o } _
  ·exact UI _
 | choose q k ih =>
  unfold Sem.runT;split
  ·exact ih _ _ _
  ·exact RD.mono (VO _) (ih _ { w with drawn:=w.drawn+1 } _)
 | sys c k ih=>exact RD.mono (EV w c) (ih _ _ _)
 | program k ih=>exact ih _ _ _
 | mark m k ih=>exact ih _ _
 | halt h=>exact UI _
section
variable {α:Type}{p:Program}{s:Sem α}{w w':World}{a:α}{h:Halt}{es es' es2:Array Event}{l:Bool}
theorem dV (e:s.run p w=.ok a w'):w.drawn<=w'.drawn:=by have:=AV p s w;rw [e] at this;exact this
theorem zW (e:s.run p w=.halt h w'):w.drawn<=w'.drawn:=by have:=AV p s w;rw [e] at this;exact this
theorem BW (e:s.runT p w es=(.ok a w',es')):w.drawn<=w'.drawn:=by have:=mJ p s w es;rw [e] at this;exact this
theorem yz (e:s.runT p w es=(.halt h w',es')):w.drawn<=w'.drawn:=by have:=mJ p s w es;rw [e] at this;exact this
theorem kJ (e:(s.runT p w es).1=.ok a w'):w.drawn<=w'.drawn:=by have:=mJ p s w es;rw [e] at this;exact this
theorem ru (e:(s.runT p w es).1=.halt h w'):w.drawn<=w'.drawn:=by have:=mJ p s w es;rw [e] at this;exact this
end
def GD (d:Nat):GStep->Prop
 | .go _ w _=>d<=w.drawn
 | .comm _ _ _ _ w _=>d<=w.drawn
 | .spawn _ _ w _=>d<=w.drawn
 | .count _ w _=>d<=w.drawn
 | .timer _ _ w _=>d<=w.drawn
 | .alone _ _ w _=>d<=w.drawn
 | .newcoro _ _ _ w _=>d<=w.drawn
 | .coroswitch _ _ _ w _=>d<=w.drawn
 | .collect _ w _=>d<=w.drawn
 | .watch _ w _=>d<=w.drawn
 | .ended ..=>True
theorem GD.after {d:Nat}{es:Array Event}{g:GStep} (h:GD d g):GD d (g.after es):=by cases g <;> exact h
theorem GD.ite {d:Nat}{c:Prop} [Decidable c] {a b:GStep} (h1:GD d a) (h2:GD d b):GD d (if c then a else b):=by split <;> assumption
theorem GD.elim {d:Nat}{α:Type}{o:Option α}{a:GStep}{f:α->GStep} (h1:GD d a) (h2:∀ x,GD d (f x)):GD d (o.elim a f):=by cases o <;> first | exact h1 | exact h2 _
theorem Cz {d:Nat}{fr:Frame}{l:List ByteArray}{m:String}{b:Bool}{w:World} (h:d<=w.drawn):GD d (dieOf fr l m b w):=h
theorem fk {d:Nat}{fr:Frame}{m:String}{w:World} (h:d<=w.drawn):GD d (endThrow fr m w):=h
theorem yJ (d:Nat) (w:World) (fd:Nat) (t:ByteArray) (o:Outcome):GD d (endWith w fd t o):=by
 unfold endWith;simp only
 repeat' split
 all_goals trivial
theorem kW {d:Nat}{p:Program}{fr:Frame}{v:Value}{w:World} (h:d<=w.drawn):GD d (endPrinting p fr v w):=by
 unfold endPrinting;simp only;split
 ·exact fk h
 ·trivial
theorem ln {d:Nat}{p:Program}{fr:Frame}{cs:List Frame}{dy:Option Dying}{m:String}{w:World} (h:d<=w.drawn):GD d (endFatal p fr cs dy m w):=by
 unfold endFatal;simp only;split
 ·exact Cz (Ux h (dV (by assumption)))
 ·trivial
 ·trivial
theorem zb {d:Nat}{p:Program}{fr:Frame}{dy:Dying}{f:Fatal}{w:World} (h:d<=w.drawn):GD d (writeOn p fr dy f w):=by
 unfold writeOn;simp only;split
 ·trivial
 ·split
  ·exact Ux h (BW (by assumption))
  ·exact Ux h (yz (by assumption))
  ·trivial
  ·trivial
theorem Ir {d:Nat}{p:Program}{fr:Frame}{dy:Dying}{w:World} (h:d<=w.drawn):GD d (die p fr dy w):=by
 unfold die;simp only
 repeat' first | apply GD.after | split
 all_goals first | exact zb h | exact h | exact yJ _ _ _ _ _ | exact Ux h (dV (by assumption)) | exact Ux h (kJ (by assumption)) | exact kW (Ux h (ru (by assumption))) | trivial
theorem wO {d:Nat}{p:Program}{fr:Frame}{cs:List Frame}{dy:Option Dying}{g:Nat}{w:World} (h:d<=w.drawn):GD d (early p fr cs dy g w):=by
 have nY:∀ w:World,d<=w.drawn->GD d (match w.heap[g]? with
  | some (.pending c elem)=>.go { frame:=fr,callers:=cs,status:=.running,dying:=dy } { w with heap:=w.heap.setIfInBounds g (.cells c elem) }
  | _ => .ended (.stuck "early: the variable does not wait" (fr.pos p)) w) := by
  intro w h;split
  ·exact h
  ·trivial
 unfold early;simp only;split
 ·exact nY _ h
 ·split
  ·trivial
  ·split
   ·exact nY _ h
   ·split
    ·exact nY _ h
    ·split
     ·trivial
     ·exact h
     ·trivial
     ·exact nY _ h
     ·split
      ·exact h
      ·split
       ·exact nY _ h
       ·split
        ·exact nY _ (Ux h (dV (by assumption)))
        ·exact Ux h (dV (by assumption))
        ·trivial
theorem lA {d:Nat}{p:Program}{main:Bool}{fr:Frame}{cs:List Frame}{dy:Option Dying}{v:Value}{w:World} (h:d<=w.drawn):GD d (doReturn p main fr cs dy v w):=by
 unfold doReturn;simp only;split
 ·split <;> exact h
 ·split
  ·exact h
  ·trivial
  ·split
   ·exact h
   ·split
    ·exact h
    ·trivial
theorem o6 {d:Nat}{p:Program}{fr:Frame}{cs:List Frame}{dy:Option Dying}{df:Deferred}{w:World} (h:d<=w.drawn):GD d (callDeferred p fr cs dy df w):=by
 unfold callDeferred;simp only;refine GD.ite trivial ?_
 ·apply GD.after;have hr:=mJ p (invoke df.target df.args) w #[];generalize (invoke df.target df.args).runT p w #[]=x at hr ⊢;obtain ⟨r,es⟩:=x;simp only at hr ⊢;have Lf:=hr.mono h;clear hr;cases r with
  | ok a w' =>
   have hw:d<=w'.drawn:=Lf;cases a
   all_goals first | exact hw | trivial | dsimp only | skip
   all_goals (repeat' split)
   all_goals first | exact hw | trivial | (cases ‹Result.ok _ _=Result.ok _ _› <;> first | exact hw | trivial)
  | halt ha w' =>
   have hw:d<=w'.drawn:=Lf;cases ha
   all_goals first | exact hw | trivial | exact ln hw | exact fk hw
theorem z7 {d:Nat}{p:Program}{main:Bool}{fr:Frame}{cs:List Frame}{dy:Option Dying}{w:World} (h:d<=w.drawn):GD d (unwind p main fr cs dy w):=by
 unfold unwind;simp only;split
 ·apply GD.after;split
  ·exact Ux h (kJ (by assumption))
  ·trivial
 ·exact o6 h
 ·split
  ·trivial
  ·split
   ·trivial
   ·split
    ·exact h
    ·split
     ·split
      ·exact h
      ·split
       ·exact Ux h (dV (by assumption))
       ·trivial
       ·trivial
     ·split
      ·exact kW h
      ·trivial
  ·split
   ·exact lA h
   ·apply GD.after;split
    ·exact lA (Ux h (kJ (by assumption)))
    ·trivial
    ·trivial
theorem oK {d:Nat}{p:Program}{l:Bool}{fr:Frame}{cs:List Frame}{dy:Option Dying}{s:Sem Next}{w:World} (h:d<=w.drawn):GD d (stepG.apply p l fr cs dy s w):=by
 unfold stepG.apply;simp only;apply GD.after;have hr:RD d (if l=true then s.runT p w #[] else (s.run p w,#[])).1:=by
  split
  ·exact (mJ p s w #[]).mono h
  ·exact (AV p s w).mono h
 generalize (if l=true then s.runT p w #[] else (s.run p w,#[]))=x at hr ⊢;obtain ⟨r,es⟩:=x;simp only at hr ⊢;cases r with
 | ok a w' =>
  have hw:d<=w'.drawn:=hr;cases a
  all_goals first | exact hw | trivial | dsimp only
  all_goals (repeat' first | apply GD.ite | split)
  all_goals first | exact hw | exact fk hw | trivial
 | halt ha w' =>
  have hw:d<=w'.drawn:=hr;cases ha
  all_goals first | exact hw | trivial | exact ln hw | exact fk hw | dsimp only | skip
  all_goals (repeat' split)
  all_goals first | exact hw | trivial | exact ln hw | exact fk hw | exact wO hw | (cases ‹Result.halt _ _=Result.halt _ _› <;> first | exact hw | trivial | exact wO hw)
theorem Am {d:Nat}{p:Program}{l:Bool}{fr:Frame}{cs:List Frame}{dy:Option Dying}{w:World} (h:d<=w.drawn):GD d (stepG.oper p l fr cs dy w):=by
 unfold stepG.oper
 repeat' split
 all_goals first | exact oK h | trivial
theorem FS {d:Nat}{p:Program}{main l:Bool}{fr:Frame}{cs:List Frame}{dy:Option Dying}{w:World} (h:d<=w.drawn):GD d (stepG.exec p main l fr cs dy w):=by
 have lv:∀ (c:Prop) [Decidable c] (jump:Option Code),GD d (match fr.roundOf with
   | none => if c then .go { frame := { fr with mode := .returning }, callers := cs, status := .running, dying := dy } w else .ended (.stuck "exit, goto: no such block or label" (fr.pos p)) w
   | some l =>
    GStep.after (seen p fr.fn ((Instr.endRound l jump).runT p w #[]).2) <| match ((Instr.endRound l jump).runT p w #[]).1 with
    | .ok v w=>doReturn p main fr cs dy v w
    | .halt _ w => .ended (.stuck "range over a function: no such loop" (fr.pos p)) w) := by
  intro c _ jump;split
  ·refine GD.ite ?_ trivial;exact h
  ·apply GD.after;split
   ·exact lA (Ux h (kJ (by assumption)))
   ·trivial
 unfold stepG.exec;simp only;split
 all_goals first | exact h | exact lv _ _ | trivial | exact oK h | exact Am h | skip
 ·split <;> first | exact h | trivial
 ·exact GD.elim (lv _ _) fun _=>h
 ·exact GD.elim (lv _ _) fun _=>h
 ·apply GD.after;split
  ·exact oK (Ux h (kJ (by assumption)))
  ·trivial
 ·apply GD.after;split
  ·exact Ux h (kJ (by assumption))
  ·exact Ux h (ru (by assumption))
  ·trivial
 ·exact GD.elim trivial fun _=>oK h
 ·refine GD.ite h ?_;split
  ·exact Ux h (dV (by assumption))
  ·trivial
 ·exact GD.ite (Am h) h
theorem Dy {d:Nat}{p:Program}{main l:Bool}{g:Goroutine}{w:World} (h:d<=w.drawn):GD d (stepG p main g w l):=by
 unfold stepG;split;split
 ·exact Ir h
 ·exact FS h
 ·exact z7 h
def SD (d:Nat):Stepped->Prop
 | .next m=>d<=m.world.drawn
 | .ended ..=>True
theorem AU {d:Nat}{p:Program}{gs:Array Goroutine}{rest:Rest}{w:World} (h:d<=w.drawn):SD d (look p gs rest w):=by
 unfold look;simp only;split
 ·split
  ·trivial
  ·split
   ·trivial
   ·split
    ·have e:=dV ‹Sem.run _ _ _=Result.ok _ _›;exact Ux h e
    ·trivial
    ·trivial
 ·trivial
theorem vi {r:Rest}{cs:Array CommCase}{w w':World} (h:waitingAt r cs w=some w'):w'.drawn=w.drawn:=by
 unfold waitingAt at h
 repeat' split at h
 all_goals cases h
 all_goals rfl
theorem qI {d:Nat}{p:Program}{rest:Rest}{gs:Array Goroutine}{i:Nat}{g:Goroutine}{cases_:Array CommCase}{b:Bool}{sh:CommShape}{w:World} (h:d<=w.drawn):SD d (communicate p rest gs i g cases_ b sh w).1:=by
 unfold communicate;simp only
 repeat' split
 all_goals first
  | exact h
  | trivial
  | (have e:=dV ‹Sem.run _ _ w=Result.ok _ _›;have e2:=dV ‹Sem.run _ _ _=Result.ok _ _›;exact Ux h (Ux e e2))
  | (have e:=dV ‹Sem.run _ _ w=Result.ok _ _›;have e2:=zW ‹Sem.run _ _ _=Result.halt _ _›;exact Ux h (Ux e e2))
  | (have e:=dV ‹Sem.run _ _ w=Result.ok _ _›;exact Ux h e)
  | (have e:=vi ‹_›;rw [←e] at h;exact h)
theorem tH (m:Machine) (k:Nat) (t:Timer) (a b:Nat):(retime m k t a b).2.world.drawn=m.world.drawn:=by
 unfold retime;simp only;split
 ·unfold drain;split <;> rfl
 ·rfl
theorem zu {m m':Machine}{a:Addr} (h:timerOp.opened m a=some m'):m'.world.drawn=m.world.drawn:=by
 unfold timerOp.opened at h;split at h
 ·split at h
  ·cases h;rfl
  ·cases h
 ·cases h;rfl
theorem yn {m m':Machine}{op:TimerOp}{v:Value} (h:timerOp m op=.ok (v,m')):m'.world.drawn=m.world.drawn:=by
 have nm:∀ (var:Addr) (f:Nat->Timer->Value × Machine) (d:Nat),(∀ k t,(f k t).2.world.drawn=d)->timerOp.named m var f=.ok (v,m')->m'.world.drawn=d:=by
  intro var f d hf h;unfold timerOp.named at h;split at h
  ·have e:=Except.ok.inj h;have e2:=congrArg (fun x=>x.2.world.drawn) e;simp only at e2;rw [←e2];exact hf _ _
  ·cases h
 unfold timerOp at h;split at h
 ·split at h
  ·cases h;rfl
  ·split at h
   ·split at h
    ·cases h
    ·cases h;rfl
   ·cases h
 ·exact nm _ (fun k t=>retime m k t 0 t.period) _ (fun k t=>tH _ _ _ _ _) h
 ·split at h
  ·rename_i m1 ho;have e:=nm _ _ _ (fun k t=>tH m1 k t _ _) h;exact e.trans (zu ho)
  ·cases h
 ·cases h;rfl
theorem C2 {d:Nat}{p:Program}{m:Machine}{i:Nat}{l:Bool} (h:d<=m.world.drawn):SD d (Go.runT p m i l).1:=by
 unfold Go.runT;simp only;have hs:=Dy (p:=p) (main:=i == 0) (l:=l) (g:=(m.gs.swapAt! i { (default:Goroutine) with status:=.finished }).1) h;generalize stepG p (i == 0) (m.gs.swapAt! i { (default:Goroutine) with status:=.finished }).1 m.world l=s at hs ⊢;cases s with
 | go g w es=>exact hs
 | comm g c b sh w es=>exact qI hs
 | spawn g c w es=>exact hs
 | count g w es =>
  dsimp only;split
  ·trivial
  ·exact hs
 | timer g op w es =>
  dsimp only;split
  ·have e:=yn ‹timerOp _ _=_›;have e2:d<=w.drawn:=hs;show d<=_;rw [←(show _=w.drawn from e)] at e2;exact e2
  ·split
   ·rename_i e;exact (congrArg (GD d) e).mp (fk hs)
   ·trivial
  ·trivial
  ·trivial
 | alone g on w es=>exact hs
 | newcoro g c df w es=>exact hs
 | coroswitch g c ex w es =>
  dsimp only;split
  ·exact hs
  ·split
   ·rename_i e;exact (congrArg (GD d) e).mp (fk hs)
   ·trivial
  ·trivial
 | collect g w es=>exact AU hs
 | watch g w es=>exact hs
 | ended o w es=>trivial
theorem Cw {d:Nat}{p:Program}{m:Machine}{k:Nat} (h:d<=m.world.drawn):SD d (serve p m k):=by
 unfold serve;split
 ·trivial
 ·exact h
 ·dsimp only;split
  ·trivial
  ·exact h
def MD (d:Nat):Move->Prop
 | .goroutine m _=>d<=m.world.drawn
 | .machine s _=>SD d s
theorem sP {d:Nat}{p:Program}{m:Machine} (h:d<=m.world.drawn):MD d (askOn p m):=by
 have pk:∀ m:Machine,d<=m.world.drawn->∀ rs:List Nat,MD d (match (choose (.sched rs.length)).run p m.world with
   | .halt _ w => .machine (.ended (.stuck "sched" "") w)
   | .ok k world =>
    if rs.length<=1 then .goroutine { m with world } (rs.getD k 0) else
    match (choose (.extern "sched.slice" 65536)).run p world with
    | .halt _ w => .machine (.ended (.stuck "sched.slice" "") w)
    | .ok n world=>.goroutine { m with world,rest:={ m.rest with slice:=if n=0 then none else some (rs.getD k 0,n) } } (rs.getD k 0)):=by
  intro m h rs;split
  ·trivial
  ·rename_i w1 e1;have h1:=Ux h (dV e1);split
   ·exact h1
   ·split
    ·trivial
    ·rename_i w2 e2;exact Ux h1 (dV e2)
 unfold askOn;simp only;split
 ·trivial
 ·rename_i k w1 e1;have h1:=Ux h (dV e1);split
  ·exact Cw h1
  ·split
   ·split
    ·exact h1
    ·split
     ·exact h1
     ·split <;> trivial
   ·split
    ·exact pk { m with world:=w1 } h1 _
    ·split
     ·trivial
     ·rename_i e2;exact pk { m with world:=_ } (Ux h1 (dV e2)) _
     ·rename_i e2;have e3:=dV e2;exact Ux h1 e3
     ·rename_i e2;have e3:=dV e2;exact pk (Machine.advanceTo { m with world:=_ } _) (Ux h1 e3) _
theorem AP {d:Nat}{p:Program}{m:Machine} (h:d<=m.world.drawn):MD d (Go.ask p m):=by
 unfold Go.ask;split
 ·split
  ·trivial
  ·rename_i w1 e1;have h1:=Ux h (dV e1);have hl:=AU (p:=p) (gs:=m.gs) (rest:=m.rest) h1;generalize look p m.gs m.rest w1=s at hl ⊢;cases s with
   | next m=>exact sP hl
   | ended o w=>trivial
  ·rename_i w1 _ e1;exact sP (m:={ m with world:=w1 }) (Ux h (dV e1))
 ·exact sP h
theorem Gk {d:Nat}{p:Program}{m:Machine} (h:d<=m.world.drawn):MD d (Go.move p m):=by
 unfold Go.move;split
 ·split
  ·exact h
  ·trivial
 ·split
  ·split
   ·exact h
   ·exact AP h
  ·exact AP h
theorem GN {p:Program}{m m':Machine} (h:step p m=.next m'):m.world.drawn<=m'.world.drawn:=by
 have hm:=Gk (p:=p) (m:=m) (UI _);unfold step stepT at h;generalize Go.move p m=mv at hm h;cases mv with
 | goroutine m1 i =>
  have hs:=C2 (p:=p) (i:=i) (l:=true) hm;dsimp only at h;rw [h] at hs;exact hs
 | machine s ops =>
  dsimp only at h;subst h;exact hm
theorem BH {p:Program}{m m':Machine} (h:Steps p m m'):m.world.drawn<=m'.world.drawn:=by
 obtain ⟨n,hn⟩:=h
 induction n generalizing m with
 | zero=>cases hn;exact UI _
 | succ n ih =>
  unfold runN at hn;generalize hs:step p m=s at hn;cases s with
  | next m1=>exact Ux (GN hs) (ih hn)
  | ended o w=>cases hn
theorem vk {p:Program}{f:FuncId}{args:Array Value}{w:World}{v:Value}{R:World->Prop} (h:Calls p f args w fun e w'=>e=.returned v∧R w'):Calls p f args w fun e w'=>e=.returned v∧R w'∧w.drawn<=w'.drawn:=by
 intro cs;obtain ⟨e,w',fr,⟨he,hR⟩,hc,hf,hl⟩:=h cs;subst he;exact ⟨_,w',fr,⟨rfl,hR,BH hc⟩,hc,hf,hl⟩
end Kw
namespace Kw
section
open Go Go.Proofs Go.Shelf Go.RowKit
variable {P:Program}
theorem og {f:FuncId}{args:Array Value}{H:ag}{v:Value}{Q:Value->ag->Prop} (hfn:∃ fn,P.funcs[f]?=some fn∧fn.body.isSome=true) (hc:∀ w:World,w.heap=H->Calls P f args w fun e w'=>e=.returned v∧Below w.heap.size w w') (h:∀ H',Fr [] H H'->Q v H'):ae P f args Q H:=by
 refine ⟨hfn,fun w hw=>?_⟩;refine (vk (hc w hw)).mono ?_;rintro e w' ⟨rfl,hb,hd⟩;subst hw;refine ⟨v,rfl,h _ ⟨hb.size,fun b b8 _=>hb.block b b8⟩,hb.tape,hb.os,hb.output,hd,hb.size,fun b ds b8=>?_⟩;rw [hb.block b (UN.1 b8).1];exact b8
theorem ti {ρ:Ren} (L:Lays.n105 P ρ) (X:Builder.Extra P ρ) (hfn:∃ fn,P.funcs[ρ.f 105]?=some fn∧fn.body.isSome=true){s:ByteArray}{c:Nat}{H:ag}{Q:Value->ag->Prop} (hc:c<=9223372036854775807) (ai:s.size*c<=140737488355328) (h:∀ H',Fr [] H H'->Q (.string ⟨(Lib.repeatL s.data.toList c).toArray⟩) H'):ae P (ρ.f 105) #[.string s,.int .i64 c] Q H :=
 og hfn (fun w _=>Any.strings_Repeat L X s c w hc ai) h
end
end Kw
namespace Go.Proofs.YtgjfejoohojokaaGreatDoor
open Kw
abbrev Ia:ByteArray:=⟨#[118,97,108,117,101,58]⟩
abbrev Iq:ByteArray:=⟨#[118,97,108,117,101]⟩
abbrev Hp:ByteArray:=⟨#[110,117,109,65,114,103,115]⟩
def wD:Nat->ByteArray
 | 0=>⟨#[]⟩
 | n+1=>wD n++Ia
theorem mK:∀ n,(wD n).size=6*n
 | 0=>rfl
 | n+1=>by rw [wD,WA,mK n];show 6*n+6=_;omega
def vo (n:Nat):List PE:=(Hp,0,.slot 309 4) :: (Iq,0,.nil) :: (List.range n).map fun i=>(wD (i+1),((i+1:Nat):Int),.nil)
def rf:List PE:=[(⟨#[61,61]⟩,1,.fn 171),(⟨#[61]⟩,1,.fn 171),(⟨#[126,126]⟩,1,.fn 172),(⟨#[99,108,97,115,115]⟩,0,.fn 173),(⟨#[105,115,78,105,108]⟩,0,.fn 174),(⟨#[110,111,116,78,105,108]⟩,0,.fn 175),(⟨#[121,111,117,114,115,101,108,102]⟩,0,.fn 176),(⟨#[105,115,75,105,110,100,79,102,58]⟩,1,.fn 177),(⟨#[105,110,115,116,86,97,114,83,105,122,101]⟩,0,.fn 178),(⟨#[105,110,115,116,86,97,114,65,116,58]⟩,1,.fn 179),(⟨#[105,110,115,116,86,97,114,65,116,58,112,117,116,58]⟩,2,.fn 179),(⟨#[99,111,112,121]⟩,0,.fn 180)]
def pd:List PE:=[(⟨#[110,111,116]⟩,0,.fn 292),(⟨#[38]⟩,1,.fn 293),(⟨#[97,110,100,58]⟩,1,.fn 293),(⟨#[111,114,58]⟩,1,.fn 294)]
def rn:List PE:=[(⟨#[43]⟩,1,.clo 295 183),(⟨#[45]⟩,1,.clo 295 184),(⟨#[42]⟩,1,.clo 295 185),(⟨#[47,47]⟩,1,.clo 295 186),(⟨#[92,92]⟩,1,.clo 295 187),(⟨#[98,105,116,65,110,100,58]⟩,1,.clo 295 188),(⟨#[98,105,116,79,114,58]⟩,1,.clo 295 189),(⟨#[98,105,116,88,111,114,58]⟩,1,.clo 295 190),(⟨#[98,105,116,83,104,105,102,116,58]⟩,1,.clo 295 191),(⟨#[60]⟩,1,.clo 299 193),(⟨#[62]⟩,1,.clo 299 194),(⟨#[60,61]⟩,1,.clo 299 195),(⟨#[62,61]⟩,1,.clo 299 196),(⟨#[109,105,110,58]⟩,1,.clo 295 197),(⟨#[109,97,120,58]⟩,1,.clo 295 198),(⟨#[61]⟩,1,.fn 171),(⟨#[126,61]⟩,1,.fn 172),(⟨#[110,101,103,97,116,101,100]⟩,0,.fn 199),(⟨#[97,98,115]⟩,0,.fn 200),(⟨#[101,118,101,110]⟩,0,.fn 201),(⟨#[111,100,100]⟩,0,.fn 202),(⟨#[112,114,105,110,116,83,116,114,105,110,103]⟩,0,.fn 203)]
def rD:List PE:=[(⟨#[115,105,122,101]⟩,0,.fn 204),(⟨#[97,115,83,116,114,105,110,103]⟩,0,.fn 205),(⟨#[60]⟩,1,.fn 206)]
def mU:List PE:=[(⟨#[115,105,122,101]⟩,0,.fn 207),(⟨#[105,115,69,109,112,116,121]⟩,0,.fn 208),(⟨#[97,116,58]⟩,1,.fn 209),(⟨#[97,116,58,112,117,116,58]⟩,2,.fn 210),(⟨#[44]⟩,1,.fn 211),(⟨#[61]⟩,1,.fn 212),(⟨#[60]⟩,1,.fn 213),(⟨#[97,115,83,121,109,98,111,108]⟩,0,.fn 214)]
def nl:List PE:=[(⟨#[115,105,122,101]⟩,0,.fn 207),(⟨#[105,115,69,109,112,116,121]⟩,0,.fn 208),(⟨#[97,116,58]⟩,1,.fn 215),(⟨#[97,116,58,112,117,116,58]⟩,2,.fn 215)]
def mZ:List PE:=[(⟨#[110,101,119]⟩,0,.fn 216),(⟨#[110,101,119,58]⟩,1,.fn 217),(⟨#[110,97,109,101]⟩,0,.slot 309 0),(⟨#[115,117,112,101,114,99,108,97,115,115]⟩,0,.slot 309 1)]
def A0:List PE:=[(⟨#[115,101,108,101,99,116,111,114]⟩,0,.slot 309 0),(⟨#[97,114,103,117,109,101,110,116,115]⟩,0,.slot 309 1)]
def ko (c:Int):List PE :=
 if c=4 then rf else
 if c=6∨c=7 then pd else
 if c=8 then rn else
 if c=9 then rD else
 if c=10 then mU else
 if c=11 then nl else
 if c=12 then mZ else
 if c=14 then vo 8 else
 if c=17 then A0 else
 []
theorem zt (n:Nat):wD n=⟨(Lib.repeatL Ia.data.toList n).toArray⟩:=by
 induction n with
 | zero=>rfl
 | succ n ih =>
  rw [wD,ih,Lib.repeatL_add,Lib.repeatL_one];refine ByteArray.ext ?_;rw [ByteArray.data_append];simp
theorem ym {es:List PE}{x:ByteArray} (h:∀ e∈es,x≠e.1):fv es x=none:=by
 induction es with
 | nil=>rfl
 | cons e es ih =>
  unfold fv;rw [Uq (h e (by simp))];exact ih fun y hy=>h y (by simp [hy])
theorem zI (n:Nat):fv (vo n) (wD (n+1))=none:=by
 refine ym fun e he hx=>?_;have hs:=congrArg ByteArray.size hx;rw [mK] at hs;unfold vo at he;simp only [Us,UM,Wo] at he;rcases he with rfl | rfl | ⟨i,hi,rfl⟩
 ·have:Hp.size=7:=rfl;simp only at hs;omega
 ·have:Iq.size=5:=rfl;simp only at hs;omega
 ·simp only at hs;rw [mK] at hs;omega
section
variable {H:ag}{Q:QT}
theorem yI (h:∀ r H',MapE H H' r (vo 8)->Q (.map (some r)) H'):ae PP 219 #[] Q H:=by
 apply Dt;dsimp only [g9,gI,ao,aL,ac,cX,ck,ga,cA,aZ,ax,bd];refine jh (MapE.new _) (by decide) fun H1 m1=>uN m1 (by decide) fun H2 m2=>?_;refine ⟨fun w H'=>∃ i:Nat,w=[ac ((i+1:Nat):Int)]∧i<=8∧MapE H H' H.size (vo i),fun w _=>match w with
  | [.int _ i]=>(9-i).toNat
  | _=>0,⟨0,rfl,U7 _,m2⟩,?_⟩
 rintro w H3 ⟨i,rfl,hi,m3⟩ _;refine ⟨_,rfl,?_⟩;rw [ah];refine aP (fun aa=>?_) fun aa=>?_
 ·have e:IntKind.wrap .i64 (((i+1:Nat):Int)+1)=(((i+1)+1:Nat):Int):=by rw [az (by omega) (by omega)];omega
  refine ti Tryz.rep Tryz.repX ⟨_,Tryz.func310,rfl⟩ (c:=i+1) (by omega) (by show 6*(i+1)<=_;omega) fun H4 f4=>⟨_,rfl,?_⟩;rw [←zt,e];refine uN (m3.fr f4) (zI i) fun H5 m5=>⟨⟨i+1,rfl,by omega,?_⟩,by simp;omega⟩;unfold vo;rw [W6,Vf];exact m5
 ·have Tn:i=8:=by omega
  subst Tn;exact h _ _ m3
theorem uO (h:∀ r H',MapE H H' r pd->Q (.map (some r)) H'):ae PP 181 #[] Q H:=by
 apply Ef;dsimp only [aL,ac,ga,cA,aZ,ax];exact bN (MapE.new _) (by decide) fun _ m1=>bN m1 (by decide) fun _ m2=>bN m2 (by decide) fun _ m3=>bN m3 (by decide) fun _ m4=>h _ _ m4
theorem uI {c:Int} (h:∀ r H',wX H H' r (ko c)->Q (.map r) H'):ae PP 85 #[ac c] Q H:=by
 apply GH;dsimp only [bk,g9,xT,ao,aL,ac,Bj,ga,cA,aZ,ax];refine kZ (fun e=>?_) fun n4=>?_
 ·subst e;exact bN (MapE.new _) (by decide) fun _ m1=>bN m1 (by decide) fun _ m2=>bN m2 (by decide) fun _ m3=>bN m3 (by decide) fun _ m4=>bN m4 (by decide) fun _ m5=>bN m5 (by decide) fun _ m6=>bN m6 (by decide) fun _ m7=>bN m7 (by decide) fun _ m8=>bN m8 (by decide) fun _ m9=>bN m9 (by decide) fun _ m10=>bN m10 (by decide) fun _ m11=>bN m11 (by decide) fun _ m12=>h (some _) _ m12
 refine ⟨fun w H'=>w=[.bool (decide (c=6∨c=7))]∧H'=H,kZ (fun e=>⟨by simp [e],rfl⟩) fun n7=>⟨by rw [bI];simp [n7],rfl⟩,?_⟩;rintro w H1 ⟨rfl,rfl⟩ _;refine ⟨_,rfl,?_⟩;rw [ah];refine aP (fun e=>?_) fun n67=>?_
 ·refine uO fun r H' m=>⟨_,rfl,h (some r) H' ?_⟩;rcases e with rfl | rfl <;> exact m
 refine kZ (fun e=>?_) fun n8=>?_
 ·subst e;exact eT (MapE.new _) (by decide) fun _ m1=>eT m1 (by decide) fun _ m2=>eT m2 (by decide) fun _ m3=>eT m3 (by decide) fun _ m4=>eT m4 (by decide) fun _ m5=>eT m5 (by decide) fun _ m6=>eT m6 (by decide) fun _ m7=>eT m7 (by decide) fun _ m8=>eT m8 (by decide) fun _ m9=>lG m9 (by decide) fun _ m10=>lG m10 (by decide) fun _ m11=>lG m11 (by decide) fun _ m12=>lG m12 (by decide) fun _ m13=>eT m13 (by decide) fun _ m14=>eT m14 (by decide) fun _ m15=>bN m15 (by decide) fun _ m16=>bN m16 (by decide) fun _ m17=>bN m17 (by decide) fun _ m18=>bN m18 (by decide) fun _ m19=>bN m19 (by decide) fun _ m20=>bN m20 (by decide) fun _ m21=>bN m21 (by decide) fun _ m22=>h (some _) _ m22
 refine kZ (fun e=>?_) fun n9=>?_
 ·subst e;exact bN (MapE.new _) (by decide) fun _ m1=>bN m1 (by decide) fun _ m2=>bN m2 (by decide) fun _ m3=>h (some _) _ m3
 refine kZ (fun e=>?_) fun n10=>?_
 ·subst e;exact bN (MapE.new _) (by decide) fun _ m1=>bN m1 (by decide) fun _ m2=>bN m2 (by decide) fun _ m3=>bN m3 (by decide) fun _ m4=>bN m4 (by decide) fun _ m5=>bN m5 (by decide) fun _ m6=>bN m6 (by decide) fun _ m7=>bN m7 (by decide) fun _ m8=>h (some _) _ m8
 refine kZ (fun e=>?_) fun n11=>?_
 ·subst e;exact bN (MapE.new _) (by decide) fun _ m1=>bN m1 (by decide) fun _ m2=>bN m2 (by decide) fun _ m3=>bN m3 (by decide) fun _ m4=>h (some _) _ m4
 refine kZ (fun e=>?_) fun n12=>?_
 ·subst e;exact bN (MapE.new _) (by decide) fun _ m1=>bN m1 (by decide) fun _ m2=>jh m2 (by decide) fun _ m3=>jh m3 (by decide) fun _ m4=>h (some _) _ m4
 refine kZ (fun e=>?_) fun n14=>?_
 ·subst e;exact yI fun r H' m=>⟨_,rfl,h (some r) H' m⟩
 refine kZ (fun e=>?_) fun n17=>?_
 ·subst e;exact jh (MapE.new _) (by decide) fun _ m1=>jh m1 (by decide) fun _ m2=>h (some _) _ m2
 refine h none _ ⟨?_,Fr.refl _ _⟩;unfold ko;rw [Uq n4,Uq n67,Uq n8,Uq n9,Uq n10,Uq n11,Uq n12,Uq n14,Uq n17]
end
theorem oE.func {H:ag}{n r:Nat}{p:PF}{v:Value} (h:oE H n r p v) (hp:p≠.nil):∃ f g hh,v=.func (.func f) g hh:=by
 cases p with
 | fn f=>exact ⟨_,_,_,h⟩
 | clo f g=>obtain ⟨b,h1,_⟩:=h;exact ⟨_,_,_,h1⟩
 | slot f i=>obtain ⟨b,h1,_⟩:=h;exact ⟨_,_,_,h1⟩
 | nil=>exact absurd rfl hp
def Hw (s:SP) (v:KV) (k:Int) (x:ByteArray) (r:Int) (ws:List Int):Prop:=∃ n p,fv (ko k) x=some (n,p)∧p≠.nil∧(ws.length:Int)=n∧(∀ w∈r :: ws,bV s.h w≠0)∧fc v k (bV s.h r)=true∧dz s.h k r=true
section
variable {H:ag}{b:Nat}{F:aR}{s:SP}{t:TB}{v:KV}{Q:QT}{r:Int}{a:Option Addr}{l c:Nat}{ws:List Int}
theorem yN {es:List PE}{x:ByteArray}{n:Int}{p:PF} (h:fv es x=some (n,p)):∃ y,(y,n,p)∈es:=by
 induction es with
 | nil=>cases h
 | cons e es ih =>
  unfold fv at h;split at h
  ·have h2:=Option.some.inj h;exact ⟨e.1,by rw [←h2];simp⟩
  ·obtain ⟨y,hy⟩:=ih h;exact ⟨y,Vb _ hy⟩
theorem rq {k:Int}{x:ByteArray}{n:Int}{p:PF} (h:fv (ko k) x=some (n,p)):n<=1000:=by
 obtain ⟨y,hy⟩:=yN h;have go:∀ {es:List PE},(∀ e∈es,e.2.1<=1000)->(y,n,p)∈es->n<=1000:=fun h hm=>h _ hm;unfold ko at hy;split at hy
 ·exact go (by unfold rf;simp) hy
 split at hy
 ·exact go (by unfold pd;simp) hy
 split at hy
 ·exact go (by unfold rn;simp) hy
 split at hy
 ·exact go (by unfold rD;simp) hy
 split at hy
 ·exact go (by unfold mU;simp) hy
 split at hy
 ·exact go (by unfold nl;simp) hy
 split at hy
 ·exact go (by unfold mZ;simp) hy
 split at hy
 ·refine go (fun e he=>?_) hy;unfold vo at he;simp only [Us,UM,Wo] at he;rcases he with rfl | rfl | ⟨i,hi,rfl⟩
  ·decide
  ·decide
  ·simp only;omega
 split at hy
 ·exact go (by unfold A0;simp) hy
 ·cases hy
theorem Ig (hK:PK H b F s t) (hv:KAllW s t v){k:Int}{x:ByteArray} (hr:Rd 1 H a l (av ws))
  (tc:¬ Hw s v k x r ws->∀ e H',e=1∨e=170->Fr [] H H'->Q (.tuple #[ac 0,ac e]) H')
  (h:∀ n p,fv (ko k) x=some (n,p)->p≠.nil->(ws.length:Int)=n->(∀ w∈r :: ws,bV s.h w≠0)->fc v k (bV s.h r)=true->dz s.h k r=true->∀ H' n0 rr f g hh,Fr [] H H'->oE H' n0 rr p (.func (.func f) g hh)->ae PP f ((g++#[cv b r a l c])++hh) (fun v42 H9=>∃ n43:Int,∃ n44:Int,v42=.tuple #[ac n43,ac n44]∧Q (.tuple #[ac n43,ac n44]) H9) H') :
  ae PP 30 #[Kj b,ac k,.string x,ac r,.slice a l c] Q H:=by
 have L4:bj PP 30=some (1,8,some (ac 0)):=by kernel_rfl
 apply AL;dsimp only [aK,aY,aF,mH,bk,bJ,aT,xT,dd,ao,ak,bv,lE,aB,aH,aE,bq,aL,ac,bu,cX,au,ck,ga,fi,am,aJ,cC,aZ,ax,bP,bU,bd];refine dS hK fun sb F1 _ _ _ _ _=>⟨_,rfl,?_⟩;simp only [Uw,Ut];have RV:ws.length=l:=by have:=hr.1;simpa [av] using this
 have nilcase:∀ H1 (n:Int),Fr [] H H1->Wr (H1.push (.cells #[ac 0,.nilFunc] 133)) ⟨H1.size,0,none⟩∧Wr (bc (H1.push (.cells #[ac 0,.nilFunc] 133)) ⟨H1.size,0,none⟩ (ac n)) ((⟨H1.size,0,none⟩:Addr).add 1) ∧
   (bc (bc (H1.push (.cells #[ac 0,.nilFunc] 133)) ⟨H1.size,0,none⟩ (ac n)) ((⟨H1.size,0,none⟩:Addr).add 1) .nilFunc)[H1.size]?=some (.cells #[ac n,.nilFunc] 133 (0,0)) ∧
   Fr [] H (bc (bc (H1.push (.cells #[ac 0,.nilFunc] 133)) ⟨H1.size,0,none⟩ (ac n)) ((⟨H1.size,0,none⟩:Addr).add 1) .nilFunc):=fun H1 n f1=>by
  have q0:=bH.new H1 #[ac 0,.nilFunc] 133;refine ⟨q0.wr (by decide),(q0.set 0 (ac n)).wr (o:=1) (by simp),?_,f1.trans ⟨by rw [bR,bR];simp,fun y hy _=>?_⟩⟩
  ·show (bc (bc (H1.push (.cells #[ac 0,.nilFunc] 133)) ⟨H1.size,0,none⟩ (ac n)) ⟨H1.size,1,none⟩ .nilFunc)[H1.size]?=_;rw [aM,aM];simp
  ·rw [cK (by show y≠H1.size;omega),cK (by show y≠H1.size;omega)];exact (Fr.push [] H1 _).2 y hy (by simp)
 refine uI fun rm H1 m1=>⟨_,rfl,qY m1 (fun e=>?_) fun k2 q val rr e hq=>?_⟩
 ·obtain ⟨w1,w2,_,w4⟩:=nilcase H1 0 m1.f;exact ⟨0,.inr ⟨false,rfl,w1,w2,tc (fun ⟨n,p,g1,_⟩=>by rw [e] at g1;cases g1) 1 _ (.inl rfl) w4⟩⟩
 by_cases hp:q=.nil
 ·subst hp;have hq:val=.nilFunc:=hq;subst hq;obtain ⟨w1,w2,w3,w4⟩:=nilcase H1 k2 m1.f;refine ⟨k2,.inr ⟨true,rfl,w1,w2,.inr ⟨?_,tc (fun ⟨n,p,g1,g2,_⟩=>by rw [e] at g1;cases g1;exact g2 rfl) 1 _ (.inl rfl) w4⟩⟩⟩;show aq _ ⟨H1.size,0+1,none⟩=_;simp only [aq,w3];rfl
 obtain ⟨f,g,hh,rfl⟩:=hq.func hp;have f01:=m1.f;have he:=e;generalize Mk:k2=n at *;refine ⟨n,.inl ⟨f,g,hh,true,rfl,?_⟩⟩;have q0:=bH.new H1 #[ac 0,.nilFunc] 133;refine ⟨q0.wr (by decide),(q0.set 0 (ac n)).wr (o:=1) (by simp),?_⟩;have q2:bH (bc (bc (H1.push (.cells #[ac 0,.nilFunc] 133)) ⟨H1.size,0,none⟩ (ac n)) ((⟨H1.size,0,none⟩:Addr).add 1) (.func (.func f) g hh)) H1.size #[ac n,.func (.func f) g hh]:=(q0.set 0 (ac n)).set 1 (.func (.func f) g hh);have f12:Fr [] H1 (bc (bc (H1.push (.cells #[ac 0,.nilFunc] 133)) ⟨H1.size,0,none⟩ (ac n)) ((⟨H1.size,0,none⟩:Addr).add 1) (.func (.func f) g hh)):=by
  refine ⟨by rw [bR,bR];simp,fun y hy _=>?_⟩;rw [cK (by show y≠H1.size;omega),cK (by show y≠H1.size;omega)];exact (Fr.push [] H1 _).2 y hy (by simp)
 generalize bc (bc (H1.push (.cells #[ac 0,.nilFunc] 133)) ⟨H1.size,0,none⟩ (ac n)) ((⟨H1.size,0,none⟩:Addr).add 1) (.func (.func f) g hh)=H2 at q2 f12 ⊢;simp only [UB,Ut];have f02:=f01.trans f12;refine .inl ⟨f,g,hh,q2.cell 1,n,q2.cell 0,?_⟩;rw [bK,ah];refine aP (fun G8=>tc (fun ⟨n',p,g1,g2,g3,_⟩=>by rw [he] at g1;cases g1;exact G8 (by omega)) 1 _ (.inl rfl) f02) fun G8=>?_;have hn:(l:Int)=n:=Uv G8;have hl:l<=1000:=by have:=rq he;omega
 have p0:=bH.new H2 #[.pointer none,ac 0,.slice none 0 0] 138;have p1:=p0.set 0 (Kj b);have p2:=p1.set 1 (ac r);have p3:=p2.set 2 (.slice a l c);refine ⟨p0.wr (by decide),p1.wr (o:=1) (by simp),p2.wr (o:=2) (by simp),?_⟩;have p3':bH (bc (bc (bc (H2.push (.cells #[.pointer none,ac 0,.slice none 0 0] 138)) ⟨H2.size,0,none⟩ (Kj b)) ((⟨H2.size,0,none⟩:Addr).add 1) (ac r)) ((⟨H2.size,0,none⟩:Addr).add 2) (.slice a l c)) H2.size (cc b r a l c):=p3;have f23:Fr [] H2 (bc (bc (bc (H2.push (.cells #[.pointer none,ac 0,.slice none 0 0] 138)) ⟨H2.size,0,none⟩ (Kj b)) ((⟨H2.size,0,none⟩:Addr).add 1) (ac r)) ((⟨H2.size,0,none⟩:Addr).add 2) (.slice a l c)):=by
  refine ⟨by rw [bR,bR,bR];simp,fun y hy _=>?_⟩;rw [cK (by show y≠H2.size;omega),cK (by show y≠H2.size;omega),cK (by show y≠H2.size;omega)];exact (Fr.push [] H2 _).2 y hy (by simp)
 have s23:(bc (bc (bc (H2.push (.cells #[.pointer none,ac 0,.slice none 0 0] 138)) ⟨H2.size,0,none⟩ (Kj b)) ((⟨H2.size,0,none⟩:Addr).add 1) (ac r)) ((⟨H2.size,0,none⟩:Addr).add 2) (.slice a l c)).size=H2.size+1:=by rw [bR,bR,bR];simp
 generalize bc (bc (bc (H2.push (.cells #[.pointer none,ac 0,.slice none 0 0] 138)) ⟨H2.size,0,none⟩ (Kj b)) ((⟨H2.size,0,none⟩:Addr).add 1) (ac r)) ((⟨H2.size,0,none⟩:Addr).add 2) (.slice a l c)=H3 at p3' f23 s23 ⊢;clear p0 p1 p2 p3 q0;have q3:=q2.fr f23 (by simp);have f03:=f02.trans f23;have fP:=Fr.push [] H3 (.cells #[ac r] 26);have ho:cZ 1 (H3.push (.cells #[ac r] 26)) (some ⟨H3.size,0,none⟩) 1 1 (av [r]) [H3.size]:=⟨by simp [av],UI _,.inr ⟨_,_,rfl,rfl,bH.new _ _ _,by simp,by simp [av]⟩⟩;refine eU L4 rfl (by kernel_rfl) ho (Rd.nilF hr (f03.trans fP)) (il (l:=ws)) (by omega) (by decide) (by decide) fun a4 c4 F4 H4 o4 u4 _=>⟨_,_,_,rfl,?_⟩;have f34:Fr [] H3 H4:=⟨Ux fP.1 u4.1.1,fun y hy _=>by rw [u4.1.2 y (UJ hy fP.1) (by simp;omega),fP.2 y hy (by simp)]⟩;have f04:=f03.trans f34;have p4:=p3'.fr f34 (by simp);have q4:=q3.fr f34 (by simp);have e4:av [r]++av ws=av (r :: ws):=rfl;rw [e4] at o4;have fr14:Fr [] H1 H4:=(f12.trans f23).trans f34;have RX:=hq;refine ⟨fun w H'=>∃ i:Nat,w=[ac i]∧i<=1+l∧Fr [] H4 H'∧∀ j,j<i->bV s.h ((r :: ws).getD j 0)≠0,fun w _=>match w with
  | [.int _ i]=>((1+l:Nat)-i:Int).toNat
  | _=>0,⟨0,rfl,U7 _,Fr.refl _ _,fun j hj=>absurd hj (Nat.not_lt_zero j)⟩,?_⟩
 rintro w H5 ⟨i,rfl,hi,f5,I4⟩ _;have p5:=p4.fr f5 (by simp);have q5:=q4.fr f5 (by simp);have f05:=f04.trans f5;refine ⟨_,rfl,iN (fun aa=>?_) fun JT=>?_⟩
 ·obtain ⟨q,JO,Ji,ML⟩:=(Rd.nilF o4.rd f5).int (i:=(i:Int)) (by omega) (by omega);simp only [Uy] at Ji;have e1:IntKind.wrap .i64 ((i:Int)+1)=((i+1:Nat):Int):=by rw [az (by omega) (by omega)];omega
  refine ⟨⟨by omega,aa⟩,q,JO,_,by rw [Uy,UC];exact Ji,_,p5.cell 0,_,p5.cell 1,_,_,_,p5.cell 2,mm (hK.nil f05) hv fun H6 f6=>⟨_,rfl,?_⟩⟩;rw [bI,ah];refine aP (fun h0=>tc (fun ⟨n',p,_,_,_,g4,_⟩=>by
   have lp:i<(r :: ws).length:=by simp only [US];omega
   have hmem:(r :: ws).getD i 0∈r :: ws:=by
    rw [UD,UF lp];exact UQ lp
   exact g4 _ hmem h0) 1 _ (.inl rfl) (f05.trans f6)) fun h0=>?_
  rw [e1];refine ⟨⟨i+1,rfl,by omega,f5.trans f6,fun j hj=>?_⟩,by simp;omega⟩;by_cases D4:j=i
  ·rw [D4];exact h0
  ·exact I4 j (by omega)
 ·refine ⟨_,p5.cell 0,_,p5.cell 1,_,_,_,p5.cell 2,sR (hK.nil f05) hv fun H6 f6=>⟨_,rfl,?_⟩⟩;cases fz:fc v k (bV s.h r) with
  | false=>rw [UG,UK];exact tc (fun ⟨_,_,_,_,_,_,g5,_⟩=>by rw [fz] at g5;cases g5) 170 _ (.inr rfl) (f05.trans f6)
  | true =>
  rw [UB,Ut];have p6:=p5.fr f6 (by simp);have f06:=f05.trans f6;refine ⟨_,p6.cell 0,_,p6.cell 1,_,_,_,p6.cell 2,ve (hK.nil f06) fun H7 f7=>⟨_,rfl,?_⟩⟩;cases ll:dz s.h k r with
  | false=>rw [UG,UK];exact tc (fun ⟨_,_,_,_,_,_,_,g6⟩=>by rw [ll] at g6;cases g6) 170 _ (.inr rfl) (f06.trans f7)
  | true =>
  rw [UB,Ut];have lj:∀ w∈r :: ws,bV s.h w≠0:=fun w hw=>by
   obtain ⟨j,hj,rfl⟩:=Vc.1 hw
   have:=I4 j (by simp only [US] at hj;omega);rw [UD,UF hj] at this;exact this
  have p7:=p6.fr f7 (by simp);have q7:=(q5.fr f6 (by simp)).fr f7 (by simp);have f07:=f06.trans f7;have fr17:Fr [] H1 H7:=((fr14.trans f5).trans f6).trans f7;exact .inl ⟨f,g,hh,q7.cell 1,_,p7.cell 0,_,p7.cell 1,_,_,_,p7.cell 2,h n q he hp (by omega) lj fz ll H7 H.size rr f g hh f07 (hq.fr fr17 (by simp))⟩
theorem IV (hK:PK H b F s t) (hv:KAllW s t v){k:Int}{x:ByteArray} (hr:Rd 1 H a l (av ws)) (hl:l<=1000){n:Int}{p:PF} (he:fv (ko k) x=some (n,p)) (hp:p≠.nil) (hn:(l:Int)=n)
  (lj:∀ w∈r :: ws,bV s.h w≠0) (fz:fc v k (bV s.h r)=true) (ll:dz s.h k r=true)
  (h:∀ H' n0 rr f g hh,Fr [] H H'->oE H' n0 rr p (.func (.func f) g hh)->ae PP f ((g++#[cv b r a l c])++hh) (fun v42 H9=>∃ n43:Int,∃ n44:Int,v42=.tuple #[ac n43,ac n44]∧Q (.tuple #[ac n43,ac n44]) H9) H') :
  ae PP 30 #[Kj b,ac k,.string x,ac r,.slice a l c] Q H:=by
 have RV:ws.length=l:=by have:=hr.1;simpa [av] using this
 refine Ig hK hv hr (fun hf=>absurd ⟨n,p,he,hp,by omega,lj,fz,ll⟩ hf) fun n' p' Jp _ _ _ _ _=>?_;rw [he] at Jp;cases Jp;exact h
end
section
variable {Q:QT}{H:ag}
variable {a b c d A B D P:Option Addr}{i j k m n x y z I J K M N:Int}{l o r s u v L O R S U V:Nat}{t w T W:ByteArray}{e E g:Bool}{q:Option Nat}{p X Y Z:Value}{F G:Addr}
theorem Iy (h:dd 6 #[ac 30000,ac 3000] H fun b c=>dd 6 #[ac 30000,ac 3000] c fun c d=>ax (bk false) fun e=>ao (fi b) (Q e d) (ao (fi c) (Q e d) (ax (ac 0) fun f=>cX [f] d fun d g i j k=>ax (aZ (⟨#[43]⟩:ByteArray)) fun m=>ax (am b) fun n=>ao (bv k (l:Int)) (ao (bv k 300) (bu k l a fun a=>ax (bq a k 6) fun a=>aB j a fun l=>aB j (a.add 1) fun m=>jT j (a.add 2) fun o=>aB j (a.add 3) fun p=>aH j (a.add 4) fun q r s=>aB j (a.add 5) fun a=>ax (au none 0 0) fun t=>ax (aK j.size) fun u=>bP (aJ j #[f,f,aZ (⟨#[]⟩:ByteArray),f,t,f] 28) u (ac l) fun l=>ax (aY j.size 1) fun v=>bP l v (ac m) fun l=>ax (aY j.size 2) fun m=>bP l m (aZ o) fun l=>ax (aY j.size 3) fun o=>bP l o (ac p) fun l=>ax (aY j.size 4) fun p=>bP l p (au q r s) fun l=>bP l (aY j.size 5) (ac a) fun a=>zp (fun d=>aB a u fun e=>ao (e == 4) (aN b fun e=>aH a (e.add 1) fun _ e _=>ao (cS (e:Int) 10) (aN b fun e=>aE a e fun e=>aN b fun f=>aH a (f.add 1) fun g i j=>dd 7 #[am e] a fun a e=>((aq e (f.add 1)=some (au g i j)∧True)∧True)∧aT 8 #[am a,ac (bd ((i:Int)-10))] e fun _ a=>True∧aN c fun e=>aE a e fun e=>aN c fun f=>aH a (f.add 1) fun g i j=>dd 7 #[am e] a fun a e=>((aq e (f.add 1)=some (au g i j)∧True)∧True)∧aT 8 #[am a,ac (bd ((i:Int)-10))] e fun _ a=>True∧aN b fun e=>aH a (e.add 1) fun e _ f=>((0:Int)<=10∧10<=(f:Int))∧aN b fun b=>bP a (b.add 1) (au e (Int.toNat 10) f) fun a=>aN c fun b=>aH a (b.add 1) fun b _ e=>((0:Int)<=10∧10<=(e:Int))∧aN c fun c=>bP a (c.add 1) (au b (Int.toNat 10) e) fun a=>d [] a) (d [] a)) (d [] a)) fun a=>ax (ac (bd (k+1))) fun k=>zp (fun b=>aB a u fun c=>ao (c != 1) (ck d g [k] a i j) (jT a m fun c=>ao (iF c (⟨#[110,101,119,58]⟩:ByteArray)) (aB a v fun c=>ao (c == 12) (ck d g [k] a i j) (b [] a)) (b [] a))) fun a=>zq [t,t,f] a fun a f l q r s t u w x y=>aH q p fun _ z _=>ao (bv y (z:Int)) (aH q p fun b d _=>bu y d b fun b=>aB q (bq b y 1) fun b=>aT 9 #[n,ac b] q fun b d=>cC (Builtin.append_ #[30,30] 30 #[au r s t,au (some (aK d.size)) 1 1]) (aJ d #[ac b] 26) fun b d e g=>aH g p fun i j _=>bu y j i fun i=>aB g (bq i y 1) fun i=>aT 9 #[am c,ac i] g fun c g=>cC (Builtin.append_ #[30,30] 30 #[au u w x,au (some (aK g.size)) 1 1]) (aJ g #[ac c] 26) fun c g i j=>ck a f [au b d e,au c g i,ac (bd (y+1))] j l q) (aN c fun a=>aE q a fun a=>dd 7 #[am a] q fun a f=>cB 10 #[am a] f fun _ _ _ a=>aB a v fun f=>jT a m fun l=>aB a o fun p=>aT 9 #[n,ac p] a fun a p=>((aq p m=some (aZ l)∧True)∧(aq p v=some (ac f)∧True)∧True)∧ak 11 #[n,ac f,aZ l,ac a,au r s t] p fun a f l=>True∧aB l v fun n=>jT l m fun p=>aB l o fun o=>aT 9 #[am c,ac o] l fun l o=>((aq o m=some (aZ p)∧True)∧(aq o v=some (ac n)∧True)∧True)∧ak 11 #[am c,ac n,aZ p,ac l,au u w x] o fun l m n=>True∧ao (f != m) (Q e n) (aN b fun b=>aH n (b.add 1) fun b f m=>aN c fun c=>aH n (c.add 1) fun o p q=>aT 12 #[au b f m,ac a] n fun b f=>((aq f (c.add 1)=some (au o p q)∧True)∧True)∧aT 12 #[au o p q,ac l] f fun c f=>True∧ao (b != c) (Q e f) (aT 13 #[ac a] f fun b c=>ao (b != 3) (ao (a != l) (Q e c) (ck d g [k] c i j)) (ck d g [k] c i j))))) (aT 15 #[ac 3] j fun a b=>aT 15 #[ac 4] b fun b c=>aT 15 #[ac 7] (aJ c #[ac b] 26) fun b d=>bJ 14 #[n,ac 8,m,ac a,au (some (aK c.size)) 1 1,ac b] d fun a b=>Q (bk a) b)) (aT 15 #[ac 3] j fun a b=>aT 15 #[ac 4] b fun b c=>aT 15 #[ac 7] (aJ c #[ac b] 26) fun b d=>bJ 14 #[n,ac 8,m,ac a,au (some (aK c.size)) 1 1,ac b] d fun a b=>Q (bk a) b)))):ae PP 3 #[.slice a l o] Q H :=
 okL Tryz.func3 rfl (fun | 6=>some [(5,3)] | 1014=>some [] | 1015=>some [] | 17=>some [(7,30),(8,30),(9,3)] | _=>none) h
theorem Ie (h:jl 23 #[ac i,ac j] H fun a b c=>ao (fi a) (Q (am none) c) (aT 24 #[ac b] c fun b c=>ao (b != 0) (Q (am none) c) (ak 25 #[am a,aZ (⟨#[80,97,105,114]⟩:ByteArray),aZ (⟨#[79,98,106,101,99,116]⟩:ByteArray),au (some (aK c.size)) 2 2] (aJ c #[aZ (⟨#[120]⟩:ByteArray),aZ (⟨#[121]⟩:ByteArray)] 9) fun b c d=>aT 24 #[ac c] d fun c d=>ao (c != 0) (Q (am none) d) (ax (aJ d #[am a,au none 0 0] 32) fun a=>cX [ac 0] (aJ a #[ac 4,ac 12,ac 8,ac 7,ac 16,ac 32,ac 40,ac 44,ac 2,ac (bd (4*b))] 26) fun b c e f g=>ax (am (some (aK d.size))) fun d=>ao (bv g 10) (bu g 10 (some (aK a.size)) fun a=>aB f (bq a g 1) fun a=>gg 26 #[d,ac a] f fun a=>ck b c [ac (bd (g+1))] a e f) (Q d f))))):ae PP 6 #[ac i,ac j] Q H :=
 okL Tryz.func6 rfl (fun | 10=>some [(11,3)] | _=>none) h
theorem ID (h:aN a fun b=>aH H (b.add 1) fun _ b _=>aN a fun a=>aH H (a.add 1) fun a c _=>ax (b:Int) fun b=>ax (decide (b=0)) fun d=>ao d False (ao d False (ax (Int.tmod (bd (Int.tmod i b+b)) b) fun b=>bu b c a fun a=>aB H (bq a b 1) fun a=>Q (ac a) H))):ae PP 9 #[.pointer a,ac i] Q H :=
 okF Tryz.func9 rfl h
theorem z6 (h:aN a fun c=>aE H c fun c=>ak 30 #[am c,ac i,aZ t,ac j,au b l o] H fun b c d=>aT 24 #[ac c] d fun d e=>ao (d == 0) (gg 26 #[am a,ac b] e fun a=>aT 24 #[ac c] a fun a c=>Q (aF b a) c) (aT 24 #[ac c] e fun a c=>Q (aF b a) c)):ae PP 11 #[.pointer a,ac i,.string t,ac j,.slice b l o] Q H :=
 okF Tryz.func11 rfl h
theorem FO (h:cX [ac 0] H fun b c d e f=>ao (bv f (l:Int)) (bu f l a fun a=>aB e (bq a f 1) fun a=>ao (a == i) (Q (ac f) e) (ck b c [ac (bd (f+1))] e d e)) (Q (ac (l:Int)) e)):ae PP 12 #[.slice a l o,ac i] Q H :=
 okL Tryz.func12 rfl (fun | 2=>some [(5,3)] | _=>none) h
theorem GB (h:ak 11 #[am a,ac i,aZ t,ac j,au b l o] H fun a b c=>ao (b == 0) (Q (bk (a == k)) c) (Q (bk false) c)):ae PP 14 #[.pointer a,ac i,.string t,ac j,.slice b l o,ac k] Q H :=
 okF Tryz.func14 rfl h
theorem Fg (h:Q (ac (bd (bd (2*i)+1))) H):ae PP 15 #[ac i] Q H :=
 okF Tryz.func15 rfl h
theorem GY (h:Q (ac i) H):ae PP 24 #[ac i] Q H :=
 okF Tryz.func24 rfl h
theorem FI (h:aN a fun b=>aE H b fun b=>dd 7 #[am b] H fun b c=>aT 74 #[am b,au (some (aK c.size)) 1 1] (aJ c #[ac i] 26) fun _ b=>aN a fun c=>aH b (c.add 1) fun c d e=>cC (Builtin.append_ #[30,30] 30 #[au c d e,au (some (aK b.size)) 1 1]) (aJ b #[ac i] 26) fun b c d e=>aN a fun a=>bP e (a.add 1) (au b c d) fun a=>Q (bU #[]) a):ae PP 26 #[.pointer a,ac i] Q H :=
 okF Tryz.func26 rfl h
end
end Go.Proofs.YtgjfejoohojokaaGreatDoor
namespace Kw
section
open Go Go.Proofs Go.Shelf Go.RowKit Go.Sort
variable {P:Program}
theorem wM {ρ:Ren} (L:LaysM.n171 P ρ) (hfn:∃ fn,P.funcs[ρ.f 171]?=some fn∧fn.body.isSome=true){n:Int} (h0:-9223372036854775808<=n) (h1:n<=9223372036854775807){H:ag}{Q:Value->ag->Prop}
  (ht : ∀ w : World, w.heap = H -> Lib.TabIs P w "internal/strconv.uint64pow10" .u64 Lib.pow10Tab) (h : ∀ H', Fr [] H H' -> Q (.string ⟨(Lib.itoa n).toArray⟩) H') : ae P (ρ.f 171) #[.int .i64 n] Q H := by
 refine og hfn (fun w hw=>(Any.strconv_Itoa L n h0 h1 w (ht w hw)).mono ?_) h;rintro e w' ⟨rfl,k,os,rfl⟩;refine ⟨rfl,⟨rfl,rfl,rfl,?_,fun b hb=>?_⟩⟩
 ·show w.heap.size<=(w.heap++os).size;rw [Wa];exact WZ _ _
 ·show (w.heap++os)[b]?=w.heap[b]?;rw [VC hb]
theorem wC:∀ (k u:Nat),u<10 ^ (k+1)->(Lib.decDigits u).length<=k+1
 | 0,u,h=>by rw [Lib.decDigits,dif_pos (by simpa using h)];simp
 | k+1,u,h=>by
  rw [Lib.decDigits];split
  ·simp
  ·have:=wC k (u / 10) (by rw [Nat.pow_succ] at h;omega);rw [UP];simp only [US,Vi];omega
theorem zF {n:Int} (h0:-1073741824<=n) (h1:n<=1073741823):(Lib.itoa n).length<=11:=by
 unfold Lib.itoa;split
 ·have:=wC 9 n.natAbs (by omega);simp only [US];omega
 ·have:=wC 9 n.toNat (by omega);omega
end
end Kw
namespace Go.Proofs.YtgjfejoohojokaaGreatDoor
open Kw
abbrev gP:Nat:=gq
def gL (H:ag):Prop:=∃ e:TypeId × (Nat × Nat),H[gP]?=some (.cells (Lib.pow10Tab.map fun z=>Value.int .u64 z).toArray e.1 e.2)
theorem gL.lt {H:ag} (h:gL H):gP<H.size:=by
 obtain ⟨e,h⟩:=h;exact (UN.1 h).1
theorem gL.fr {H H':ag}{G:aR} (h:gL H) (hf:Fr G H H') (hg:gP∉G):gL H':=by
 have hl:=h.lt;obtain ⟨e,h⟩:=h;exact ⟨e,(hf.2 _ hl hg).trans h⟩
def DK (H:ag) (db:Nat) (D:aR) (s:SP) (t:TB) (ws:List Int):Prop:=∃ b F a l c G,D=db :: (G++F)∧bH H db #[Kj b,.slice a l c]∧cZ 1 H a l c (av ws) G∧PK H b F s t∧db∉F∧db∉G∧dB G F∧aS∉D∧gP∉D∧gL H
theorem DK.lt {H:ag}{db:Nat}{D:aR}{s:SP}{t:TB}{ws:List Int} (h:DK H db D s t ws):∀ x∈D,x<H.size:=by
 obtain ⟨b,F,a,l,c,G,rfl,hB,hO,hK,_⟩:=h;intro x hx;rcases Us.1 hx with rfl | hx
 ·exact hB.lt
 ·rcases Uz.1 hx with hx | hx
  ·exact hO.lt x hx
  ·exact hK.lt x hx
theorem DK.nil {H H':ag}{db:Nat}{D:aR}{s:SP}{t:TB}{ws:List Int} (h:DK H db D s t ws) (hf:Fr [] H H'):DK H' db D s t ws:=by
 obtain ⟨b,F,a,l,c,G,rfl,hB,hO,hK,h1,h2,h3,h4,h5,h6⟩:=h;exact ⟨b,F,a,l,c,G,rfl,hB.fr hf (by simp),hO.fr hf (by simp),hK.nil hf,h1,h2,h3,h4,h5,h6.fr hf (by simp)⟩
structure PrimS (s:SP) (t:TB) (k:Int) (x:ByteArray) (r:Int) (ar:List Int) (res:Int × Int) (s':SP) (t':TB):Prop where
 go:∀ {H:ag}{b:Nat}{F:aR}{a:Option Addr}{l c:Nat}{Q:QT},PK H b F s t->gL H->Rd 1 H a l (av ar)->(∀ p,a=some p->p.block∉F)->l<=1000 ->
  (∀ H' F',PK H' b F' s' t'->Up F H F' H'->Q (.tuple #[ac res.1,ac res.2]) H')->ae PP 30 #[Kj b,ac k,.string x,ac r,.slice a l c] Q H
section
variable {H:ag}{db:Nat}{D:aR}{s:SP}{t:TB}{v:KV}{ws:List Int}{Q:QT}{r x:Int}
theorem jV {n:Int} (h:Q (ac n) H):ae PP 24 #[ac n] Q H:=by
 apply GY;exact h
theorem sF (hD:DK H db D s t ws) (hl:ws.length<=100000){w:Int} (h:∀ H' D',DK H' db D' (s.keepW [w]).2 t (ws++[w])->Up D H D' H'->Q (.tuple #[]) H'):ae PP 26 #[Kj db,ac w] Q H:=by
 have L4:bj PP 30=some (1,8,some (ac 0)):=by kernel_rfl
 have aa:=hD.lt;obtain ⟨b,F,a,l,c,G,rfl,hB,hO,hK,d1,d2,d3,d4,d5,d6⟩:=hD;have KQ:=d6.lt;have LB:=hK.kinds.lt;simp only [Us,Uz,Vt] at d4 d5;apply FI;dsimp only [aK,aT,dd,aH,aE,ac,au,aN,am,aJ,cC,bP,bU];refine ⟨_,rfl,_,hB.cell 0,dS hK fun sb F1 _ hS ap cx _=>⟨_,rfl,?_⟩⟩;have f1:=Fr.push [] H (.cells #[ac w] 26);have hr:Rd 1 (H.push (.cells #[ac w] 26)) (some ⟨H.size,0,none⟩) 1 (av [w]):=(show cZ 1 (H.push (.cells #[ac w] 26)) (some ⟨H.size,0,none⟩) 1 1 (av [w]) [H.size] from ⟨by simp [av],UI _,.inr ⟨_,_,rfl,rfl,bH.new _ _ _,by simp,by simp [av]⟩⟩).rd;refine qa (hS.nilfr f1) hr (by decide) fun H2 F1' I3 u2=>⟨_,rfl,?_⟩;have u2':Up F1 H F1' H2:=⟨⟨Ux f1.1 u2.1.1,fun y hy hn=>by rw [u2.1.2 y (UJ hy f1.1) hn,f1.2 y hy (by simp)]⟩,fun y hy=>(u2.2 y hy).imp id fun h=>Ux f1.1 h⟩;obtain ⟨F2,K7,uF⟩:=cx H2 F1' _ I3 u2';have l7:=hB.fr uF.1 d1;have J0:=hO.fr uF.1 d3;refine ⟨_,rfl,_,_,_,l7.cell 1,?_⟩;have Nb:ws.length=l:=by have:=hO.len;simpa [av] using this
 refine dl L4 rfl (by kernel_rfl) J0 rfl (by simp [ge]) (by omega) (by decide) (by decide) fun a3 c3 G3 H3 To u3 lt3=>⟨_,_,_,rfl,?_⟩;have us:=uF.1.1;have newF:∀ x∈F2,x∉G:=fun x hx hm=>by
  rcases uF.2 x hx with h1 | h1
  ·exact d3 x hm h1
  ·have:=aa x (by simp [hm]);omega
 have Lm:=l7.fr u3.1 d2;have v7:=K7.fr u3.1 newF d4.2.1;refine ⟨_,rfl,Lm.wr (o:=1) (by simp),?_⟩;have f4:Fr [db] H3 (bc H3 ((⟨db,0,none⟩:Addr).add 1) (.slice a3 (l+1) c3)):=Fr.set (by show db∈[db];simp);have L0:bH (bc H3 ((⟨db,0,none⟩:Addr).add 1) (.slice a3 (l+1) c3)) db #[Kj b,.slice a3 (l+1) c3]:=Lm.set 1 _;have ndG3:db∉G3:=fun hm=>by
  rcases u3.2 db hm with h1 | h1
  ·exact d2 h1
  ·have:=aa db (by simp);omega
 have ndF2:db∉F2:=fun hm=>by
  rcases uF.2 db hm with h1 | h1
  ·exact d1 h1
  ·have:=aa db (by simp);omega
 have dGF:dB G3 F2:=fun x hx hm=>by
  rcases u3.2 x hx with h1 | h1
  ·exact newF x hm h1
  ·have:=K7.lt x hm;omega
 have Tp:∀ y∈G3,y∉[db]:=fun y hy hm=>ndG3 (by rw [←Uu.1 hm];exact hy);have Tq:∀ y∈F2,y∉[db]:=fun y hy hm=>ndF2 (by rw [←Uu.1 hm];exact hy);refine h _ (db :: (G3++F2)) ⟨b,F2,a3,l+1,c3,G3,rfl,L0,?_,v7.fr f4 Tq (fun hm=>d4.1 (Uu.1 hm)),ndF2,ndG3,dGF,?_,?_,((d6.fr uF.1 d5.2.2).fr u3.1 d5.2.1).fr f4 (fun hm=>d5.1 (Uu.1 hm))⟩ ⟨?_,fun y hy=>?_⟩
 ·have:=To.fr f4 Tp;have e:av (ws++[w])=av ws++[ac w]:=by simp [av]
  rw [e];exact this
 ·simp only [Us,Uz,Vt];refine ⟨d4.1,fun hm=>?_,fun hm=>?_⟩
  ·rcases u3.2 _ hm with h1 | h1
   ·exact d4.2.1 h1
   ·omega
  ·rcases uF.2 _ hm with h1 | h1
   ·exact d4.2.2 h1
   ·omega
 ·simp only [Us,Uz,Vt];refine ⟨d5.1,fun hm=>?_,fun hm=>?_⟩
  ·rcases u3.2 _ hm with h1 | h1
   ·exact d5.2.1 h1
   ·omega
  ·rcases uF.2 _ hm with h1 | h1
   ·exact d5.2.2 h1
   ·omega
 ·refine ⟨Ux us (Ux u3.1.1 f4.1),fun y hy hn=>?_⟩;simp only [Us,Uz,Vt] at hn;rw [f4.2 y (by have:=u3.1.1;omega) (by simpa using hn.1),u3.1.2 y (by omega) hn.2.1,uF.1.2 y hy hn.2.2]
 ·simp only [Us,Uz] at hy ⊢;rcases hy with rfl | hy | hy
  ·exact .inl (.inl rfl)
  ·rcases u3.2 y hy with h1 | h1
   ·exact .inl (.inr (.inl h1))
   ·exact .inr (by omega)
  ·rcases uF.2 y hy with h1 | h1
   ·exact .inl (.inr (.inr h1))
   ·exact .inr h1
def gM (s:SP) (ws:List Int) (res:Int × Int):SP × List Int:=if res.2=0 then ((s.keepW [res.1]).2,ws++[res.1]) else (s,ws)
theorem HW (hD:DK H db D s t ws) (hl:ws.length<=100000){k:Int}{x:ByteArray}{ar:List Int}{res:Int × Int}{s':SP}{t':TB} (hp:PrimS s t k x r ar res s' t'){a:Option Addr}{l c:Nat} (hr:Rd 1 H a l (av ar)) (ho:∀ p,a=some p->p.block∉D) (It:l<=1000)
  (h:∀ H' D',DK H' db D' (gM s' ws res).1 t' (gM s' ws res).2->Up D H D' H'->Q (.tuple #[ac res.1,ac res.2]) H') :
  ae PP 11 #[Kj db,ac k,.string x,ac r,.slice a l c] Q H:=by
 have aa:=hD.lt;obtain ⟨b,F,a1,l1,c1,G,rfl,hB,hO,hK,d1,d2,d3,d4,d5,d6⟩:=hD;have KQ:=d6.lt;have LB:=hK.kinds.lt;simp only [Us,Uz,Vt] at d4 d5;apply z6;dsimp only [aF,aT,ao,ak,gg,aE,ac,au,aN,am,aZ];refine ⟨_,rfl,_,hB.cell 0,hp.go hK d6 hr (fun p hp hm=>ho p hp (by simp [hm])) It fun H2 F2 K7 uF=>⟨_,_,rfl,jV ⟨_,rfl,?_⟩⟩⟩;have us:=uF.1.1;have l7:=hB.fr uF.1 d1;have J0:=hO.fr uF.1 d3;have ndF2:db∉F2:=fun hm=>by
  rcases uF.2 db hm with h1 | h1
  ·exact d1 h1
  ·have:=aa db (by simp);omega
 have dGF:dB G F2:=fun x hx hm=>by
  rcases uF.2 x hm with h1 | h1
  ·exact d3 x hx h1
  ·have:=aa x (by simp [hx]);omega
 have L5:DK H2 db (db :: (G++F2)) s' t' ws:=⟨b,F2,a1,l1,c1,G,rfl,l7,J0,K7,ndF2,d2,dGF,by
  simp only [Us,Uz,Vt];refine ⟨d4.1,d4.2.1,fun hm=>?_⟩;rcases uF.2 _ hm with h1 | h1
  ·exact d4.2.2 h1
  ·omega,by
  simp only [Us,Uz,Vt];refine ⟨d5.1,d5.2.1,fun hm=>?_⟩;rcases uF.2 _ hm with h1 | h1
  ·exact d5.2.2 h1
  ·omega,d6.fr uF.1 d5.2.2⟩
 have u2:Up (db :: (G++F)) H (db :: (G++F2)) H2:=by
  refine ⟨uF.1.mono fun y hy=>by simp [hy],fun y hy=>?_⟩;simp only [Us,Uz] at hy ⊢;rcases hy with rfl | hy | hy
  ·exact .inl (.inl rfl)
  ·exact .inl (.inr (.inl hy))
  ·exact (uF.2 y hy).imp (fun h1=>.inr (.inr h1)) id
 unfold gM at h;rw [bI,ah];refine aP (fun h0=>?_) fun h0=>?_
 ·simp only [Ur h0] at h;exact sF L5 hl fun H3 D3 QH u3=>⟨rfl,jV ⟨_,rfl,h H3 D3 QH (u2.trans u3)⟩⟩
 ·simp only [Uq h0] at h;exact jV ⟨_,rfl,h H2 _ L5 u2⟩
theorem Ih (hD:DK H db D s t ws) (hl:ws.length<=100000){k:Int}{x:ByteArray}{ar:List Int}{w want:Int}{s':SP}{t':TB} (hp:PrimS s t k x r ar (w,0) s' t'){a:Option Addr}{l c:Nat} (hr:Rd 1 H a l (av ar)) (ho:∀ p,a=some p->p.block∉D) (It:l<=1000)
  (h:∀ H' D',DK H' db D' (s'.keepW [w]).2 t' (ws++[w])->Up D H D' H'->Q (.bool (decide (w=want))) H') :
  ae PP 14 #[Kj db,ac k,.string x,ac r,.slice a l c,ac want] Q H:=by
 apply GB;dsimp only [bk,ao,ak,ac,au,am,aZ];refine HW hD hl hp hr ho It fun H2 D2 L5 u2=>⟨_,_,rfl,?_⟩;rw [bI];exact h H2 D2 L5 u2
end
abbrev pN (n:Int):Prop:=-1073741824<=n∧n<=1073741823
def cG (n:Int):Int:=jR .i64 (gQ .i64 n 33) 33
def yX (g:Nat) (f:Int->Int->Int × Int):Prop:=∀ (n m:Int),pN n->pN m->∀ {Q:QT}{H:ag},Q (.tuple #[ac (f n m).1,ac (f n m).2]) H->ae PP g #[ac n,ac m] Q H
section
variable {H:ag}{Q:QT}
theorem tX {n:Int} (hn:pN n) (h:Q (.bool true) H):ae PP 31 #[ac n] Q H:=by
 apply zR;dsimp only [bk,ao];rw [ah,Ur hn.1,Vs hn.2];exact h
theorem oJ {n:Int} (h:Q (ac (cG n)) H):ae PP 352 #[ac n] Q H:=by
 apply Bq;exact h
theorem j0 {n m x:Int} (hn:pN n) (hm:pN m) (h:Q (.tuple #[ac (cG x),ac 0]) H):ae PP 297 #[ac n,ac m,ac x] Q H:=by
 apply BI;dsimp only [aF,bJ,aT,ao,ac];refine tX hn ⟨_,rfl,?_⟩;rw [UB,Ut];refine tX hm ⟨_,rfl,?_⟩;rw [UB,Ut];exact oJ ⟨_,rfl,h⟩
end
def eX (n m:Int):Int × Int:=(cG (IntKind.wrap .i64 (n+m)),0)
def d8 (n m:Int):Int × Int:=(cG (IntKind.wrap .i64 (n-m)),0)
def fx (n m:Int):Int × Int:=(cG (IntKind.wrap .i64 (n*m)),0)
def fA (n m:Int):Int × Int:=(cG (ox .i64 n m),0)
def lz (n m:Int):Int × Int:=(cG (xG .i64 n m),0)
def fj (n m:Int):Int × Int:=(cG (IC .i64 n m),0)
def cE (n m:Int):Int × Int:=if m<0 then (cG (jR .i64 n (IntKind.wrap .i64 (0-(if m < -31 then -31 else m)))),0) else (cG (gQ .i64 n (if 31<m then 31 else m)),0)
def nR (n m:Int):Int × Int × Int:=if m=0 then (0,0,11) else
 if Int.tmod n m≠0∧((Int.tmod n m<0)≠(m<0)) then (cG (IntKind.wrap .i64 (IntKind.wrap .i64 (Int.tdiv n m)-1)),IntKind.wrap .i64 (Int.tmod n m+m),0)
 else (cG (IntKind.wrap .i64 (Int.tdiv n m)),Int.tmod n m,0)
def fu (n m:Int):Int × Int:=((nR n m).1,(nR n m).2.2)
def fo (n m:Int):Int × Int:=((nR n m).2.1,(nR n m).2.2)
theorem Au:yX 183 eX:=fun n m hn hm {Q H} h=>by
 apply CF;dsimp only [aF,ak,ac,bd];exact j0 hn hm ⟨_,_,rfl,h⟩
theorem Ak:yX 184 d8:=fun n m hn hm {Q H} h=>by
 apply CR;dsimp only [aF,ak,ac,bd];exact j0 hn hm ⟨_,_,rfl,h⟩
theorem Gy:yX 185 fx:=fun n m hn hm {Q H} h=>by
 apply Eb;dsimp only [aF,ak,ac,bd];exact j0 hn hm ⟨_,_,rfl,h⟩
theorem Gh:yX 188 fA:=fun n m hn hm {Q H} h=>by
 apply Dg;dsimp only [aF,ak,ac];exact j0 hn hm ⟨_,_,rfl,h⟩
theorem Iw:yX 189 lz:=fun n m hn hm {Q H} h=>by
 apply EA;dsimp only [aF,ak,ac];exact j0 hn hm ⟨_,_,rfl,h⟩
theorem Fe:yX 190 fj:=fun n m hn hm {Q H} h=>by
 apply Cf;dsimp only [aF,ak,ac];exact j0 hn hm ⟨_,_,rfl,h⟩
theorem Be:yX 191 cE:=fun n m hn hm {Q H} h=>by
 apply Cl;dsimp only [aF,ao,ak,bv,ac,ax,bd];unfold cE at h;rw [ah];refine aP (fun h1=>?_) fun h1=>?_
 ·rw [Ur h1] at h;rw [ah,Uq ?_]
  ·exact j0 hn hm ⟨_,_,rfl,h⟩
  ·split
   ·decide
   ·rw [az (by omega) (by omega)];omega
 ·rw [Uq h1] at h;rw [ah,Uq ?_]
  ·exact j0 hn hm ⟨_,_,rfl,h⟩
  ·split <;> omega
theorem qW {n m:Int} (hn:pN n) (hm:pN m){Q:QT}{H:ag} (h:Q (.tuple #[ac (nR n m).1,ac (nR n m).2.1,ac (nR n m).2.2]) H):ae PP 298 #[ac n,ac m] Q H:=by
 apply CZ;dsimp only [bJ,aT,ao,bv,ac,ax,bU,bd];unfold nR at h;refine tX hn ⟨_,rfl,?_⟩;rw [UB,Ut];refine tX hm ⟨_,rfl,?_⟩;rw [UB,Ut];refine kZ (fun h0=>?_) fun h0=>?_
 ·rw [Ur h0] at h;exact h
 rw [Uq h0] at h;rw [ah,Uq h0,ah,Uq h0,bK,ah];refine aP (fun h1=>?_) fun h1=>?_
 ·by_cases h2:(Int.tmod n m<0)≠(m<0)
  ·rw [Ur ⟨h1,h2⟩] at h
   have:(!(decide (Int.tmod n m<0) == decide (m<0)))=true:=by
    rw [WT,beq_eq_false_iff_ne];intro e;exact h2 (by rw [←decide_eq_true_eq (p:=Int.tmod n m<0),←decide_eq_true_eq (p:=m<0),e])
   rw [this,UK];exact oJ ⟨_,rfl,h⟩
  ·rw [Uq (fun e=>h2 e.2)] at h;have h2:=Uv h2
   have:(!(decide (Int.tmod n m<0) == decide (m<0)))=false:=by
    simp [h2]
   rw [this,Ut];exact oJ ⟨_,rfl,h⟩
 ·rw [Uq (fun e=>h1 e.1)] at h;exact oJ ⟨_,rfl,h⟩
theorem Fm:yX 186 fu:=fun n m hn hm {Q H} h=>by
 apply BR;dsimp only [aF,cB,ac];exact qW hn hm ⟨_,_,_,rfl,h⟩
theorem FL:yX 187 fo:=fun n m hn hm {Q H} h=>by
 apply C7;dsimp only [aF,cB,ac];exact qW hn hm ⟨_,_,_,rfl,h⟩
theorem lI {n m:Int} (hm:m≠0):(0<m->-m<Int.tmod n m∧Int.tmod n m<m)∧(m<0->m<Int.tmod n m∧Int.tmod n m < -m):=by
 have h1:=Int.natAbs_tmod n m;have h2:n.natAbs % m.natAbs<m.natAbs:=Nat.mod_lt _ (by omega);omega
theorem mg {n:Int} (h:pN n):aA (2*n+1)=1:=by
 have:=bl (2*n+1);obtain ⟨h1,h2⟩:=h;omega
theorem xD {n:Int} (h:pN n):dp (2*n+1)=n:=by
 unfold dp;rw [Ur (mg h)];omega
theorem Av (n:Int):(2*n+1) / 2=n:=by omega
theorem wv {r:RH}{n:Int} (h:pN n):bV r (2*n+1)=8:=by
 unfold bV qQ;rw [Ur (mg h)];rfl
theorem wj (v:KV){k:Int} (h:k≠0):fc v k k=true:=by
 unfold fc nZ;rw [Uq h,Ur rfl]
theorem cW {k:Int} (h1:1<=k) (h2:k<=65536):aA (4*k)=3:=by
 have:=bl (4*k);omega
theorem iE {s:SP}{t:TB}{v:KV} (hv:KAllW s t v){k:Int}{xs:List Int} (h:ou s.h k xs):1<=k∧k<=65536:=by
 obtain ⟨o,ho,_⟩:=h;have hm:=aD ho
 have:=hv.ks.wf.h.objs.good o hm.1;have h1:=this.oop1;have h2:=this.oop2;have h3:=hv.ks.wf.h.o1;omega
theorem zB {r:RH}{k:Int}{xs:List Int} (h:ou r k xs) (h1:1<=k) (h2:k<=65536):bV r (4*k)=10:=by
 obtain ⟨o,ho,hf,hc,_⟩:=h;have hk:=cW h1 h2;have e:(4*k) / 4=k:=by omega
 have eo:qQ r (4*k)=(10,0):=by
  unfold qQ;rw [Uq (by omega),Uq (by omega),Ur hk,e];unfold RH.clsAt;rw [ho];simp only [hc,if_true];rfl
 unfold bV;rw [eo];rfl
theorem xh {r:RH}{k:Int}{xs:List Int} (h:ou r k xs) (h1:1<=k) (h2:k<=65536):cq r (4*k)=((xs.length:Int),1):=by
 obtain ⟨o,ho,hf,hc,rfl⟩:=h;unfold cq;rw [Ur (cW h1 h2)];have e:(4*k) / 4=k:=by omega
 unfold RH.size;rw [e,ho];simp only [hf]
theorem zO {r:RH}{k:Int}{xs:List Int} (h:ou r k xs) (h1:1<=k) (h2:k<=65536){i:Nat} (hi:i<xs.length):dQ r (4*k) (i:Int)=xs.getD i 0:=by
 obtain ⟨o,ho,hf,hc,rfl⟩:=h;unfold dQ;rw [dP h1 h2];unfold RH.at;rw [ho];simp only;rw [Uq (by omega)];simp
section
variable {s s':SP}{t t':TB}{v:KV}{r:Int}
theorem AJ (hv:KAllW s t v){x:ByteArray}{g:Nat}{f:Int->Int->Int × Int} (he:fv (ko 8) x=some (1,.clo 295 g)) (hg:yX g f){n m:Int} (hn:pN n) (hm:pN m) :
  PrimS s t 8 x (2*n+1) [2*m+1] (if (f n m).2≠0 then (0,(f n m).2) else fe (f n m).1) s t:=by
 refine ⟨fun {H b F a l c Q} hK ht hr ho hl h=>?_⟩;have ai:l=1:=by have:=hr.1;simpa [av] using this.symm
 refine IV hK hv hr hl he (by simp) (by omega) (fun w hw=>?_) ?_ rfl fun H' n0 rr f' g' hh f1 hq=>?_
 ·simp only [Us,UO,U5] at hw;rcases hw with rfl | rfl
  ·rw [wv hn];decide
  ·rw [wv hm];decide
 ·rw [wv hn];exact wj v (by decide)
 obtain ⟨q,e1,e2,_⟩:=hq;cases e1;show ae PP 295 #[cv b (2*n+1) a l c,Kj q] _ _;refine pu (hK.nil f1) (Rd.nilF hr f1) e2 (fun hk=>absurd (mg hm) hk) fun _ H2 f2=>?_;rw [xD hn,Av];refine hg n m hn hm ⟨_,_,rfl,?_⟩;have hq:=fun H' F'=>h H' F';have f12:=f1.trans f2;rw [bK,ah];refine aP (fun h0=>?_) fun h0=>?_
 ·simp only [Ur h0] at hq;exact ⟨_,_,rfl,hq _ _ (hK.nil f12) (Up.of_nil f12)⟩
 ·simp only [Uq h0] at hq;exact lg ⟨_,_,rfl,_,_,rfl,hq _ _ (hK.nil f12) (Up.of_nil f12)⟩
end
section
variable {Q:QT}{H:ag}
variable {a b c d A B D P:Option Addr}{i j k m n x y z I J K M N:Int}{l o r s u v L O R S U V:Nat}{t w T W:ByteArray}{e E g:Bool}{q:Option Nat}{p X Y Z:Value}{F G:Addr}
theorem D1 (h:gg 383 #[am a] H fun b=>aN a fun c=>aH b (c.add 1) fun c d e=>cC (Builtin.append_ #[249,249] 249 #[au c d e,au (some (aK b.size)) 1 1]) (aJ b #[.int .u8 i] 5) fun b c d e=>aN a fun a=>bP e (a.add 1) (au b c d) fun a=>Q .nilIface a):ae PP 354 #[.pointer a,.int .u8 i] Q H :=
 okF Tryz.func354 rfl h
theorem BL (h:aN a fun b=>aH H (b.add 1) fun b c d=>aN a fun a=>aH H (a.add 1) fun e f g=>Hn (Builtin.unsafeSliceData_ #[249] 324 #[au b c d]) H fun b c=>((aq c (a.add 1)=some (au e f g)∧True)∧True)∧Ho (Builtin.unsafeString_ #[324,3] 9 #[am b,ac (f:Int)]) c fun a b=>True∧Q (aZ a) b):ae PP 355 #[.pointer a] Q H :=
 okF Tryz.func355 rfl h
end
end Go.Proofs.YtgjfejoohojokaaGreatDoor
namespace Kw
section
open Go Go.Proofs Go.Shelf Go.RowKit
variable {P:Program}
theorem jD (w:World) (a:Addr) (v:Value):(w.setCell a v).heap=bc w.heap a v:=rfl
def mY (T:TypeId) (H:ag) (b:Nat) (s:Value):Prop:=∃ p,H[b]?=some (.cells #[p,s] T (0,0))∧(p=.pointer none∨p=.pointer (some ⟨b,0,none⟩))
theorem mY.lt {T:TypeId}{H:ag}{b:Nat}{s:Value} (h:mY T H b s):b<H.size:=by
 obtain ⟨p,h,_⟩:=h;exact (UN.1 h).1
theorem mY.keep {T:TypeId}{H H':ag}{b:Nat}{s:Value} (h:mY T H b s) (e:H'[b]?=H[b]?):mY T H' b s:=by
 obtain ⟨p,h,h2⟩:=h;exact ⟨p,e.trans h,h2⟩
theorem oy {ρ:Ren} (L:Lays.n240 P ρ) (X:Builder.X72 P ρ) (hfn:∃ fn,P.funcs[ρ.f 240]?=some fn∧fn.body.isSome=true){H:ag}{b:Nat}{s:Value}{Q:Value->ag->Prop} (hb:mY (ρ.t 72) H b s)
  (h:∀ H',mY (ρ.t 72) H' b s->Fr [b] H H'->H'.size=H.size->Q (.tuple #[]) H'):ae P (ρ.f 240) #[.pointer (some ⟨b,0,none⟩)] Q H:=by
 obtain ⟨p,hb,hp⟩:=hb;refine ⟨hfn,fun w hw=>?_⟩;subst hw;have ll:w.shape? b=some ((ρ.t 72),2):=by simp [World.shape?,hb]
 have hfz:w.frozen? ⟨b,0,none⟩=false:=by simp [World.frozen?,hb]
 have hc:w.cell? ⟨b,0,none⟩=some p:=by simp [World.cell?,hb]
 rcases hp with rfl | rfl
 ·refine (Any.Builder_copyCheck_fresh L X b w hc ll hfz).mono ?_;rintro e w' ⟨rfl,rfl⟩;have hl:=(UN.1 hb).1;have hz:(w.setCell ⟨b,0,none⟩ (.pointer (some ⟨b,0,none⟩))).heap.size=w.heap.size:=by rw [jD,bR]
  have b9:∀ y,y≠b->(w.setCell ⟨b,0,none⟩ (.pointer (some ⟨b,0,none⟩))).heap[y]?=w.heap[y]?:=fun y hy=>by rw [jD,cK hy]
  refine ⟨_,rfl,h _ ⟨_,?_,.inr rfl⟩ ⟨Nat.le_of_eq hz.symm,fun y _ hy=>b9 y (by simpa using hy)⟩ hz,rfl,rfl,rfl,UI _,Nat.le_of_eq hz.symm,fun y ds hy=>?_⟩
  ·rw [jD];simp [bc,U2,hb]
  ·rw [b9 y (fun e=>by subst e;rw [hb] at hy;cases hy)];exact hy
 ·refine (Any.Builder_copyCheck_used L X b w hc).mono ?_;rintro e w' ⟨rfl,rfl⟩;exact ⟨_,rfl,h _ ⟨_,hb,.inr rfl⟩ (Fr.refl _ _) rfl,rfl,rfl,rfl,UI _,UI _,fun y ds hy=>hy⟩
def zc (e:TypeId) (H:ag) (a:Option Addr) (l c:Nat) (xs:List Value) (G:aR):Prop:=cZ 1 H a l c xs G∧(∀ b∈G,∃ cs,H[b]?=some (.cells cs e (0,0)))∧c<=maxLen
theorem zc.keep {e:TypeId}{H H':ag}{a:Option Addr}{l c:Nat}{xs:List Value}{G:aR} (h:zc e H a l c xs G) (he:∀ b∈G,H'[b]?=H[b]?):zc e H' a l c xs G:=⟨h.1.keep he,fun b hb=>by
 obtain ⟨cs,h2⟩:=h.2.1 b hb;exact ⟨cs,(he b hb).trans h2⟩,h.2.2⟩
theorem tv {T T' T0:Nat}{H:ag}{a:Option Addr}{l c:Nat}{xs:List Value}{y:Value}{e d:TypeId}{i:TypeInfo}{z:Value}{F:aR}{Q:Value->ag->Prop} (hu:P.underlying T=some (.slice e)) (hi:P.info? e=some i) (hk:i.size=1) (hb:i.bytes=1) (LJ:i.zero=some z) (hz:z.cells.size=1) (hT:P.underlying T'=some (.slice d))
  (ho:zc e H a l c xs F) (uD:ge y=true) (hl:l<4611686018427){e2:TypeId}
  (h:∀ a' c' F' H',zc e H' a' (l+1) c' (xs++[y]) F'->Up F H F' H'->Q (.slice a' (l+1) c') H') :
  cu P (Builtin.append_ #[T,T'] T0 #[.slice a l c,.slice (some ⟨H.size,0,none⟩) 1 1]) Q (H.push (.cells #[y] e2)):=by
 have fp:=Fr.push [] H (.cells #[y] e2);have hr:Rd 1 (H.push (.cells #[y] e2)) (some ⟨H.size,0,none⟩) 1 [y]:=(show cZ 1 _ (some ⟨H.size,0,none⟩) 1 1 [y] [H.size] from ⟨rfl,UI _,.inr ⟨_,_,rfl,rfl,bH.new _ _ _,rfl,rfl⟩⟩).rd;have CO:zc e (H.push (.cells #[y] e2)) a l c xs F:=ho.keep fun b hb=>fp.2 b (ho.1.lt b hb) (by simp);have sz:(H.push (.cells #[y] e2)).size=H.size+1:=by simp
 have cx:∀ {F' H'},Up F (H.push (.cells #[y] e2)) F' H'->Up F H F' H':=fun {F' H'} u=>⟨⟨Ux fp.1 u.1.1,fun b hb hn=>by rw [u.1.2 b (UJ hb fp.1) hn,fp.2 b hb (by simp)]⟩,fun b hb=>(u.2 b hb).imp id fun hg=>Ux fp.1 hg⟩;generalize (H.push (.cells #[y] e2))=H1 at hr CO cx ⊢;obtain ⟨hO,QI,Tr⟩:=CO;show cu P (do
  let .slice elem ← underlying T | stuck "append: slice type expected"
  _) Q H1
 refine ay (bn hu ?_);refine ay (jn hi ?_);rw [hk];refine ay (ay (bn hT ?_));simp only [pure,List.getElem_toArray,List.getElem_cons_succ,List.getElem_cons_zero];refine ay (dX ?_);simp only [U9,if_false,UG,if_true];refine ay (show cu P (Builtin.lenOf (.slice (some ⟨H.size,0,none⟩) 1 1)) _ H1 from ?_);refine dX ?_;have JL:xs.length=l:=by have:=hO.1;omega
 by_cases q6:l+1<=c
 ·simp only [q6,if_true];refine ay (dm hr (UI _) ?_);rw [show ([y].take (1*1):List Value)=[y] from rfl];rcases hO.2.2 with ⟨rfl,JU,rfl⟩ | ⟨b,cs,rfl,rfl,If,hsz,ix⟩
  ·omega
  ·obtain ⟨cs2,hB⟩:=QI b (by simp);have Hc:cs2=cs:=by
    obtain ⟨t,l8⟩:=If;rw [hB] at l8;simp only [Option.some.injEq,Obj.cells.injEq] at l8;exact l8.1
   subst Hc;dsimp only;rw [aC,UE];refine ay ?_;have J5:l*1+0+[y].length<=cs2.size:=by simp;omega
   refine eP [y] (l*1) 0 cs2 (by simpa using uD) hB J5 fun H' g1 g2 g3=>?_;refine h _ _ [b] H' ⟨⟨by simp;omega,q6,.inr ⟨b,_,rfl,rfl,⟨e,g1⟩,?_,?_⟩⟩,fun b' b8=>?_,Tr⟩ (cx ⟨⟨by omega,fun b' _ hn=>g3 b' (by simpa using hn)⟩,fun b' b8=>.inl b8⟩)
   ·simp only [fM,VD,UP,U4,Wb,Array.length_toList,US,Vi];omega
   ·simp only [fM,WX];rw [ix,VB (by simp;omega)];exact UY (by simp;omega)
   ·simp at b8;subst b8;exact ⟨_,g1⟩
 ·simp only [q6,if_false];have J6:¬ (((l+1:Nat):Int) > IntKind.i64.max∧(False∨i.bytes=0)):=by
   rintro ⟨_,h | h⟩
   ·exact h
   ·rw [hb] at h;cases h
  refine ay (di hi ?_);simp only [J6,if_false];refine ay (di hi ?_);have J7:¬ Builtin.nextslicecap (l+1) c*i.bytes > 2 ^ 48:=by
   rw [hb]
   have:=gS (need:=l+1) (c:=c) (by omega);omega
  simp only [J7,if_false];refine ay ?_;simp only [choose,cu,Question.forced,U9,if_false];intro t;have J8:l+1<=Question.cut (.appendCap (l+1) c e) t:=by simp only [Question.cut];omega
  have L6:Question.cut (.appendCap (l+1) c e) t<=maxLen:=by
   simp only [Question.cut,maxLen]
   have:=Nat.mod_lt t (show 0<2 ^ 63-(l+1) by omega);omega
  generalize Question.cut (.appendCap (l+1) c e) t=cap' at J8 L6;refine ay (di hi ?_);refine ay (jZ ?_);refine ay (dm (hO.rd) (UI _) ?_);refine ay (dm hr (UI _) ?_);refine ay (eb hi LJ ?_);rw [show ([y].take (1*1):List Value)=[y] from rfl,show xs.take (l*1)=xs from UY (by omega)];simp only [newRow,newObj,bind,Sem.bind,pure,cu];refine h _ _ [H1.size] _ ⟨⟨by simp;omega,J8,.inr ⟨H1.size,_,rfl,rfl,bH.new _ _ _,?_,?_⟩⟩,fun b' b8=>?_,L6⟩ (cx ⟨Fr.push _ _ _,fun b' b8=>?_⟩)
  ·simp only [Wa,VD,Builtin.zeroCells,Array.size_map,Array.size_range,hz,US,Vi];omega
  ·simp only [Array.toList_append,Vq];rw [←Vq,VB (by simp;omega)];exact UY (by simp;omega)
  ·simp at b8;subst b8;exact ⟨_,by simp;rfl⟩
  ·simp at b8;exact .inr (by omega)
theorem qs {ts:Array TypeId}{ty e:TypeId}{H:ag}{a:Option Addr}{l c:Nat}{xs:List Value}{G:aR}{Q:Value->ag->Prop} (QI:P.underlying ty=some (.pointer e)) (ho:cZ 1 H a l c xs G) (h0:l≠0->Q (.pointer a) H) (h1:l=0->∀ p H',Fr [] H H'->Q (.pointer p) H') :
  cu P (Builtin.unsafeSliceData_ ts ty #[.slice a l c]) Q H:=by
 have JK:=ho.2.1;rcases ho.2.2 with ⟨rfl,JU,rfl⟩ | ⟨b,cs,rfl,rfl,⟨t,hB⟩,_⟩
 ·show Q (.pointer none) H;by_cases hl:l=0
  ·exact h1 hl _ _ (Fr.refl _ _)
  ·exact h0 hl
 ·show cu P (if c≠0 then pure (.pointer (some ⟨b,0,none⟩)) else _) Q H;by_cases hc:c=0
  ·rw [Uq (by simpa using hc)];refine ay ?_;have hs:jX H b=some (t,cs.size):=by simp [jX,hB]
   unfold viewAt;refine ay ?_;show cu P (.shape b fun r=>.pure r) _ H;unfold cu;rw [hs];simp only [WO,if_true];show cu P (if false=true then pure _ else _) Q H;rw [Uq (by simp)];refine ay (ay ?_);refine bn QI ?_;exact h1 (by omega) _ _ (Fr.push _ _ _)
  ·rw [Ur hc];show Q (.pointer (some ⟨b,0,none⟩)) H;by_cases hl:l=0
   ·exact h1 hl _ _ (Fr.refl _ _)
   ·exact h0 hl
theorem kP {H:ag}:∀ (l:List UInt8) (a:Addr) (acc:ByteArray){Q:ByteArray->ag->Prop},(∀ j x,l[j]?=some x->aq H (a.add j)=some (.int .u8 x.toNat))->Q ⟨acc.data++l.toArray⟩ H->cu P (loadBytes a acc l.length) Q H
 | [],a,acc,Q,_,h=>by
  show Q acc H;simpa using h
 | x :: l,a,acc,Q,hc,h=>by
  show cu P (do
   match ← load a with
   | .int .u8 b=>loadBytes (a.add 1) (acc.push b.toNat.toUInt8) l.length
   | _ => stuck "a byte variable that holds no byte") Q H
  have h0:=hc 0 x rfl;rw [Addr.add_zero'] at h0;refine ay ?_;show ∃ v,aq H a=some v∧_;refine ⟨_,h0,?_⟩;show cu P (loadBytes (a.add 1) (acc.push ((x.toNat:Int).toNat.toUInt8)) l.length) Q H;have hx:(x.toNat:Int).toNat.toUInt8=x:=by simp
  rw [hx];refine kP l _ _ (fun j y hy=>?_) ?_
  ·rw [Addr.add_add]
   have:=hc (j+1) y (by simpa using hy);rw [Nat.add_comm j 1] at this;exact this
  ·have e:(acc.push x).data++l.toArray=acc.data++(x :: l).toArray:=by
    show acc.data.push x++l.toArray=_;rw [Array.push_eq_append,Array.append_assoc];simp
   rw [e];exact h
theorem vL {pt it ty e:TypeId} (hp:P.underlying pt=some (.pointer e)) (hc:P.cellsOf e=1){H:ag}{a:Option Addr}{l c:Nat}{y:ByteArray}{G:aR}{Q:Value->ag->Prop} (hB:zc e H a l c (y.data.toList.map fun u=>.int .u8 u.toNat) G){p:Option Addr} (JX:l≠0->p=a)
  (h:∀ H',Fr G H H'->Q (.string y) H'):cu P (Builtin.unsafeString_ #[pt,it] ty #[.pointer p,.int .i64 (l:Int)]) Q H:=by
 have ai:y.data.toList.length=l:=by have:=hB.1.1;simpa using this
 have hm:=hB.2.2;have JK:=hB.1.2.1;have G8:¬ ((l:Int)<0):=by omega
 have Nt:¬ ((l:Int) > IntKind.i64.max):=by
  rw [show IntKind.i64.max=9223372036854775807 from rfl];unfold maxLen at hm;omega
 have h0:l=0->y=ByteArray.empty:=fun hl=>by
  have:y.data.toList=[]:=UX (by omega);cases y with
  | mk d =>
   have hd:d=#[]:=Array.toList_eq_nil_iff.1 this;subst hd;rfl
 have QJ:∀ q,Builtin.unsafeString_ #[pt,it] ty #[.pointer q,.int .i64 (l:Int)]=(do
   let n ← asInt (.int .i64 (l:Int))
   if n < 0 then runtimePanic (.error "unsafe.String: len out of range")
   if n > IntKind.i64.max then unsupported (.unsafePointer "String: a length above the largest int")
   match q with
   | none => if n = 0 then pure (.string .empty) else runtimePanic (.error "unsafe.String: ptr is nil and len is not zero")
   | some a =>
    if n=0 then pure (.string .empty)
    else if ← variablesAt a (← elemOf pt) n.toNat then do
     let s ← loadBytes a .empty n.toNat
     freeze a n.toNat
     pure (.string s)
    else unsupported (.unsafePointer "String: not so many bytes at ptr")) := fun _ => rfl
 rw [QJ];refine ay ?_;show cu P (if (l:Int)<0 then _ else _) Q H;rw [Uq G8];show cu P (if (l:Int) > IntKind.i64.max then _ else _) Q H;rw [Uq Nt];by_cases hl:l=0
 ·have e0:=h0 hl;subst hl;cases p with
  | none =>
   show cu P (if ((0:Nat):Int)=0 then pure (.string .empty) else _) Q H;rw [Ur (show ((0:Nat):Int)=0 from rfl)];rw [←e0];exact h H (Fr.refl _ _)
  | some q =>
   show cu P (if ((0:Nat):Int)=0 then pure (.string .empty) else _) Q H;rw [Ur (show ((0:Nat):Int)=0 from rfl)];rw [←e0];exact h H (Fr.refl _ _)
 ·have QK:=JX hl;subst QK;rcases hB.1.2.2 with ⟨rfl,JU,rfl⟩ | ⟨b,cs,rfl,rfl,If,hsz,ix⟩
  ·omega
  ·obtain ⟨cs2,hg⟩:=hB.2.1 b (by simp);have Hc:cs2=cs:=by
    obtain ⟨t,l8⟩:=If;rw [hg] at l8;simp only [Option.some.injEq,Obj.cells.injEq] at l8;exact l8.1
   subst Hc;show cu P (if (l:Int)=0 then pure (.string .empty) else _) Q H;rw [Uq (by omega)];refine ay ?_;unfold elemOf;refine ay (bn hp ?_);show cu P (pure e) _ H;refine dX ?_;refine ay ?_;have hs:jX H b=some (e,cs2.size):=by simp [jX,hg]
   show cu P (.program fun q=>.shape b fun r=>_) _ H;show cu P (match jX H b with | some (e',cells)=>pure (liesAt P P.depth e' (cells / P.cellsOf e') 0 e ((l:Int).toNat)) | none=>pure false) _ H;rw [hs];dsimp only;refine dX ?_;have Oa:=Lib.liesAt_bytes (P:=P) hc (cs2.size / P.cellsOf e) l (by rw [hc];simp;omega);rw [Uy,Oa,Ur rfl];refine ay ?_;have aj:∀ j x,y.data.toList[j]?=some x->aq H ((⟨b,0,none⟩:Addr).add j)=some (.int .u8 x.toNat):=fun j x hx=>by
    have hj:j<l*1:=by
     have:=(V1.1 hx).1;omega
    rw [hB.1.rd.2.2 _ rfl j hj,Va,hx];rfl
   have:=kP (P:=P) (H:=H) y.data.toList ⟨b,0,none⟩ .empty (Q:=fun s H'=>cu P (do freeze ⟨b,0,none⟩ l;pure (Value.string s)) Q H') aj (by
    refine ay ?_;show Q (.string _) (eG H ⟨b,0,none⟩ l);have ey:(⟨ByteArray.empty.data++y.data.toList.toArray⟩:ByteArray)=y:=by
     cases y with
     | mk d =>
      show (⟨#[]++d.toList.toArray⟩:ByteArray)=⟨d⟩;simp
    rw [ey];refine h _ ⟨?_,fun x hx hn=>?_⟩
    ·unfold eG;split <;> simp
    ·have Ts:x≠b:=by simpa using hn
     unfold eG;split
     ·rfl
     ·simp [U2,V5 Ts])
   rw [ai] at this;exact this
end
end Kw
namespace Go.Proofs.YtgjfejoohojokaaGreatDoor
open Kw
abbrev Hf (y:ByteArray):List Value:=y.data.toList.map fun u=>.int .u8 (u.toNat:Int)
section
variable {H:ag}{Q:QT}{a:Option Addr}{l c:Nat}
theorem DB {bb:Nat}{xs:List Value}{G:aR}{u:Int} (hb:mY 295 H bb (.slice a l c)) (hB:zc 5 H a l c xs G) (Nc:bb∉G) (hl:l<1000000)
  (h:∀ H' a' c' G',mY 295 H' bb (.slice a' (l+1) c')->zc 5 H' a' (l+1) c' (xs++[.int .u8 u]) G'->bb∉G'->Up (bb :: G) H (bb :: G') H'->Q .nilIface H') :
  ae PP 354 #[Kj bb,.int .u8 u] Q H:=by
 have i5:∃ i,PP.info? 5=some i∧i.size=1∧i.bytes=1∧i.zero=some (.int .u8 0):=⟨_,rfl,by kernel_rfl,by kernel_rfl,by kernel_rfl⟩;obtain ⟨i,hi,hk,Lh,hz⟩:=i5;have aa:=hb.lt;have Tt:=hB.1.lt;apply D1;dsimp only [aK,gg,aH,au,aN,am,aJ,cC,bP];refine oy { Tryz.rep with } Tryz.repX.toX72 ⟨_,Tryz.func383,rfl⟩ hb fun H1 an f1 ic=>⟨rfl,_,rfl,a,l,c,?_,?_⟩
 ·obtain ⟨p,an,_⟩:=an;show aq H1 ⟨bb,0+1,none⟩=_;simp [aq,an]
 have l8:zc 5 H1 a l c xs G:=hB.keep fun x hx=>f1.2 x (Tt x hx) (fun e=>Nc (by simp at e;subst e;exact hx));refine tv (d:=5) (by kernel_rfl) hi hk Lh hz rfl (by kernel_rfl) l8 rfl (by omega) fun a' c' G' H2 l7 u2=>⟨_,_,_,rfl,_,rfl,?_,?_⟩
 ·have rA:bb∉G':=fun hm=>by
   rcases u2.2 bb hm with h1 | h1
   ·exact Nc h1
   ·omega
  obtain ⟨p,hp,_⟩:=an.keep (u2.1.2 bb (by omega) Nc);exact (show bH H2 bb #[p,.slice a l c] from ⟨_,hp⟩).wr (o:=1) (by simp)
 ·have rA:bb∉G':=fun hm=>by
   rcases u2.2 bb hm with h1 | h1
   ·exact Nc h1
   ·omega
  obtain ⟨p,hp,Tu⟩:=an.keep (u2.1.2 bb (by omega) Nc);have b9:∀ y,y≠bb->(bc H2 ((⟨bb,0,none⟩:Addr).add 1) (.slice a' (l+1) c'))[y]?=H2[y]?:=fun y hy=>cK hy;refine h _ a' c' G' ⟨p,?_,Tu⟩ (l7.keep fun x hx=>b9 x fun e=>rA (e ▸ hx)) rA ⟨⟨?_,fun y hy hn=>?_⟩,fun y hy=>?_⟩
  ·rw [show ((⟨bb,0,none⟩:Addr).add 1)=⟨bb,1,none⟩ from rfl];simp [bc,U2,hp];rfl
  ·rw [bR];have:=u2.1.1;omega
  ·simp only [Us,Vt] at hn;rw [b9 y hn.1,u2.1.2 y (by omega) hn.2,f1.2 y hy (by simpa using hn.1)]
  ·rcases Us.1 hy with rfl | hy
   ·exact .inl (by simp)
   ·rcases u2.2 y hy with h1 | h1
    ·exact .inl (by simp [h1])
    ·exact .inr (by omega)
theorem yO {H0:ag}{bb:Nat}{y:ByteArray}{G:aR} (hb:mY 295 H bb (.slice a l c)) (hB:zc 5 H a l c (Hf y) G) (D0:∀ x∈G,H0.size<=x) (Nc:bb∉G) (f0:Fr [] H0 H)
  (h:∀ H',Fr [] H0 H'->Q (.string y) H'):ae PP 355 #[Kj bb] Q H:=by
 have aa:=hb.lt;have hc:∀ {Hz:ag},mY 295 Hz bb (.slice a l c)->aq Hz ((⟨bb,0,none⟩:Addr).add 1)=some (.slice a l c):=fun {Hz} hz=>by
  obtain ⟨p,hz,_⟩:=hz;show aq Hz ⟨bb,0+1,none⟩=_;simp [aq,hz]
 have Lo:PP.underlying 324=some (.pointer 5):=by kernel_rfl
 have na:PP.cellsOf 5=1:=by kernel_rfl
 apply BL;dsimp only [aH,ac,au,aN,am,Hn,Ho,aZ];have fin:∀ p H1,Fr [] H H1->(l≠0->p=a)->∃ p7:Option Addr,(Value.pointer p:Value)=.pointer p7∧((aq H1 ((⟨bb,0,none⟩:Addr).add 1)=some (.slice a l c)∧True)∧True)∧cu PP (Builtin.unsafeString_ #[324,3] 9 #[.pointer p7,ac (l:Int)]) (fun v8 H2=>∃ s9:ByteArray,v8=.string s9∧True∧Q (.string s9) H2) H1:=fun p H1 f1 hp=>by
  have an:=hb.keep (f1.2 bb aa (by simp));have l8:=hB.keep fun x hx=>f1.2 x (hB.1.lt x hx) (by simp);refine ⟨_,rfl,⟨⟨hc an,trivial⟩,trivial⟩,vL Lo na l8 hp fun H2 f2=>⟨_,rfl,trivial,h H2 ⟨?_,fun x hx _=>?_⟩⟩⟩
  ·have:=f0.1;have:=f1.1;have:=f2.1;omega
  ·have:=f0.1;have:=f1.1;rw [f2.2 x (by omega) (fun hm=>by have:=D0 x hm;omega),f1.2 x (by omega) (by simp),f0.2 x hx (by simp)]
 exact ⟨_,rfl,_,_,_,hc hb,_,rfl,_,_,_,hc hb,qs Lo hB.1 (fun _=>fin a H (Fr.refl _ _) fun _=>rfl) fun hl p H1 f1=>fin p H1 f1 fun hn=>absurd hl hn⟩
end
def dC (r:RH) (w:Int) (n:Nat):List Int:=(List.range n).map fun i:Nat=>dQ r w (i:Int)
section
variable {H:ag}{b:Nat}{F:aR}{s:SP}{t:TB}{v:KV}{Q:QT}{r x:Int}{a:Option Addr}{l c:Nat}{ws:List Int}
theorem tz (hK:PK H b F s t){w:Int}{n:Nat} (hn:(cq s.h w).1=(n:Int)) (Fd:n<=1000000) (h:∀ q H',cZ 1 H' (some ⟨q,0,none⟩) n n (av (dC s.h w n)) [q]->H.size<=q->Fr [] H H'->Q (.slice (some ⟨q,0,none⟩) n n) H') :
  ae PP 291 #[cv b r a l c,ac w] Q H:=by
 have ic:bj PP 30=some (1,8,some (ac 0)):=by kernel_rfl
 apply Ei;dsimp only [aK,aY,aT,ao,ak,bv,aB,aH,aE,bq,aL,ac,bu,cX,au,ck,am,aJ,cC,ax,bP,bd];have f:=Fr.push [] H (.cells (cc b r a l c) 138);have hb:=bH.new H (cc b r a l c) 138;refine ⟨_,hb.cell 0,_,hb.cell 1,_,_,_,hb.cell 2,fU (hK.nil f) fun H1 f1=>⟨_,_,rfl,?_⟩⟩;rw [hn];have f01:=f.trans f1;have an:=hb.fr f1 (by simp);refine eA ic rfl (by omega) (Vo _) (by omega) (by decide) fun e=>⟨_,_,_,rfl,?_⟩;have f2:=f01.trans (Fr.push [] _ (.cells (Array.replicate (n:Int).toNat (ac 0)) e));have c9:=an.push (.cells (Array.replicate (n:Int).toNat (ac 0)) e);have Tv:H.size<H1.size:=an.lt;have Jk:cZ 1 (H1.push (.cells (Array.replicate (n:Int).toNat (ac 0)) e)) (some ⟨H1.size,0,none⟩) (n:Int).toNat (n:Int).toNat (av (List.replicate n 0)) [H1.size]:=by
  refine ⟨by simp [av],UI _,.inr ⟨_,_,rfl,rfl,bH.new _ _ _,by simp,?_⟩⟩;simp [av]
 simp only [Uy] at f2 c9 Jk ⊢;generalize (H1.push (.cells (Array.replicate n (ac 0)) e))=H2 at f2 c9 Jk ⊢;generalize H1.size=q at Jk Tv ⊢;refine ⟨fun w' H'=>∃(i:Nat) (rest:List Int),w'=[ac i]∧i<=n∧cZ 1 H' (some ⟨q,0,none⟩) n n (av (dC s.h w i++rest)) [q]∧Fr [] H H'∧bH H' H.size (cc b r a l c),fun w' _=>match w' with
  | [.int _ i]=>((n:Int)-i).toNat
  | _=>0,⟨0,_,rfl,U7 _,Jk,f2,c9⟩,?_⟩
 rintro w' H3 ⟨i,rest,rfl,hi,Fh,f3,xb⟩ _;have ai:=Fh.len;simp only [av,dC,UZ,UP,Ws,UC] at ai;refine ⟨_,rfl,iN (fun aa=>?_) fun JT=>?_⟩
 ·have lp:i<n:=by omega
  have e1:IntKind.wrap .i64 ((i:Int)+1)=((i+1:Nat):Int):=by rw [az (by omega) (by omega)];omega
  rw [e1];refine ⟨_,xb.cell 0,_,xb.cell 1,_,_,_,xb.cell 2,mn (hK.nil f3) fun H4 f4=>⟨_,rfl,⟨by omega,aa⟩,_,rfl,?_⟩⟩;have MM:=Fh.fr f4 (by simp);obtain ⟨bb,NP,hw,hf,DR⟩:=uy MM lp (ac (dQ s.h w (i:Int)));cases NP;rw [aC,UE,UC,Uy];cases rest with
  | nil=>simp at ai;omega
  | cons z rest =>
   have ca:Fr [] H (bc H4 ⟨q,i,none⟩ (ac (dQ s.h w (i:Int)))):=Fr.late (f3.trans f4) (by show H.size<=q;omega);refine ⟨hw,⟨i+1,rest,rfl,by omega,?_,ca,(xb.fr f4 (by simp)).fr hf (by simp;omega)⟩,by simp;omega⟩;have et:(av (dC s.h w i++z :: rest)).set i (ac (dQ s.h w (i:Int)))=av (dC s.h w (i+1)++rest):=by
    have h1:(dC s.h w i).length=i:=by simp [dC]
    have h2:dC s.h w (i+1)=dC s.h w i++[dQ s.h w (i:Int)]:=by simp [dC,W6]
    rw [h2];simp only [av,Vf,U8,Vq,List.singleton_append,VP];rw [Wz _ _ (by rw [UZ,h1];exact UI _),UZ,h1,W3];rfl
   rw [←et];exact DR
 ·have MT:i=n:=by omega
  subst MT
  have:rest=[]:=UX (by omega);subst this;rw [VJ] at Fh;exact h q H3 Fh (by omega) f3
theorem rg {r:RH}{k:Int}{xs:List Int} (h:ou r k xs) (h1:1<=k) (h2:k<=65536):dC r (4*k) xs.length=xs:=by
 apply Wu;intro i;unfold dC;by_cases hi:i<xs.length
 ·rw [Va,List.getElem?_range hi];simp only [Vw];rw [zO h h1 h2 hi];simp [hi]
 ·rw [Vd (by simp;omega),Vd (by omega)]
theorem sq (hK:PK H b F s t){k:Int}{y:ByteArray} (hs:ou s.h k (bL y)) (h1:1<=k) (h2:k<=65536) (hy:y.size<=100000) (h:∀ H',Fr [] H H'->Q (.string y) H') :
  ae PP 303 #[cv b r a l c,ac (4*k)] Q H:=by
 have w9:=gz y;apply wU;dsimp only [aK,aY,zo,dU,dd,gI,ao,ak,jm,bv,aB,aH,aE,bq,aL,ac,bu,cX,au,ck,am,aJ,aZ,ax,bd];have f:=Fr.push [] H (.cells (cc b r a l c) 138);have hb:=bH.new H (cc b r a l c) 138;have sz:(H.push (.cells (cc b r a l c) 138)).size=H.size+1:=by simp
 have e9:=hK.nil f;generalize (H.push (.cells (cc b r a l c) 138))=H1 at f hb sz e9 ⊢;refine sK e9.kinds ?_;unfold mE;rw [Uq (by rw [cW h1 h2];decide)];refine ⟨_,_,rfl,?_⟩;simp only [show ((10:Int) == 0)=false from rfl,Ut];have f2:=Fr.push [] H1 (.cells #[.pointer none,.slice none 0 0] 295);have L7:mY 295 (H1.push (.cells #[.pointer none,.slice none 0 0] 295)) H1.size (.slice none 0 0):=⟨_,by simp,.inl rfl⟩;have c9:=hb.push (.cells #[.pointer none,.slice none 0 0] 295);have K7:=e9.nil f2;have f02:=f.trans f2;have sz2:(H1.push (.cells #[.pointer none,.slice none 0 0] 295)).size=H1.size+1:=by simp
 generalize (H1.push (.cells #[.pointer none,.slice none 0 0] 295))=H2 at f2 L7 c9 K7 f02 sz2 ⊢;refine ⟨_,c9.cell 0,_,c9.cell 1,_,_,_,c9.cell 2,tz K7 (n:=y.size) (by rw [xh hs h1 h2];simp only [w9]) (by omega) fun q H3 Fh ML f3=>⟨_,_,_,rfl,?_⟩⟩;have hsl:=rg hs h1 h2;rw [w9] at hsl;rw [hsl] at Fh;have QL:=L7.keep (f3.2 _ L7.lt (by simp));refine ⟨fun w' H'=>∃(i:Nat) (a':Option Addr) (c':Nat) (G:aR),w'=[ac i]∧i<=y.size∧mY 295 H' H1.size (.slice a' i c')∧zc 5 H' a' i c' ((Hf y).take i) G∧H1.size∉G∧q∉G∧(∀ x∈G,H.size<=x)∧cZ 1 H' (some ⟨q,0,none⟩) y.size y.size (av (bL y)) [q]∧Fr [] H H',fun w' _=>match w' with
  | [.int _ i]=>((y.size:Int)-i).toNat
  | _=>0,⟨0,none,0,[],rfl,U7 _,QL,⟨cZ.nil _ _,by simp,U7 _⟩,by simp,by simp,by simp,Fh,f02.trans f3⟩,?_⟩
 rintro w' H4 ⟨i,a',c',G,rfl,hi,Oc,L0,n1,n2,D0,MM,f4⟩ _;refine ⟨_,rfl,iN (fun aa=>?_) fun JT=>?_⟩
 ·have lp:i<y.size:=by omega
  have e1:IntKind.wrap .i64 ((i:Int)+1)=((i+1:Nat):Int):=by rw [az (by omega) (by omega)];omega
  obtain ⟨p,Tw,RY,hp3⟩:=MM.rd.int (i:=(i:Int)) (by omega) (by omega);cases Tw;simp only [Uy] at RY;have hu:=(y[i]).toNat_lt;have QF:(bL y).getD i 0=((y[i]).toNat:Int):=by
   unfold bL;rw [UD,Va,Vm]
   have:y.data[i]?=some y[i]:=by
    have h1:i<y.data.size:=lp;rw [Wk h1];rfl
   rw [this];rfl
  have Tx:(Hf y)[i]?=some (.int .u8 ((y[i]).toNat:Int)):=by
   unfold Hf;rw [Va,Vm]
   have:y.data[i]?=some y[i]:=by
    have h1:i<y.data.size:=lp;rw [Wk h1];rfl
   rw [this];rfl
  refine ⟨⟨by omega,aa⟩,_,rfl,_,by rw [Uy,UC];exact RY,?_⟩;rw [QF,e1];have eu:IntKind.wrap .u8 ((y[i]).toNat:Int)=((y[i]).toNat:Int):=by
   unfold IntKind.wrap;simp only [IntKind.bits,IntKind.signed]
   first
    | (simp;omega)
    | omega
  rw [eu];refine DB Oc L0 n1 (by omega) fun H5 a5 c5 G5 QM Od n5 u5=>⟨_,rfl,?_⟩;have RX:q<H4.size:=MM.lt q (by simp);have RZ:q≠H1.size:=by omega
  refine ⟨⟨i+1,a5,c5,G5,rfl,by omega,QM,?_,n5,fun hm=>?_,fun x hx=>?_,MM.fr u5.1 (by simpa using ⟨RZ,n2⟩),?_⟩,by simp;omega⟩
  ·rw [Vj,Tx];exact Od
  ·rcases u5.2 q (by simp [hm]) with h3 | h3
   ·simp only [Us] at h3;exact h3.elim RZ n2
   ·omega
  ·rcases u5.2 x (by simp [hx]) with h3 | h3
   ·simp only [Us] at h3;rcases h3 with rfl | h3
    ·omega
    ·exact D0 x h3
   ·have:=f4.1;omega
  ·refine ⟨Ux f4.1 u5.1.1,fun x hx _=>?_⟩;rw [u5.1.2 x (UJ hx f4.1) (fun hm=>?_),f4.2 x hx (by simp)];rcases Us.1 hm with rfl | hm
   ·omega
   ·have:=D0 x hm;omega
 ·have MT:i=y.size:=by omega
  subst MT;have Od:zc 5 H4 a' y.size c' (Hf y) G:=by
   rw [UY (by simp [Hf])] at L0;exact L0
  exact yO (H0:=H) Oc Od D0 n1 f4 fun H' f'=>⟨_,rfl,h H' f'⟩
end
theorem Et (H:ag) (n:Int) (e:TypeId):Rd 1 (H.push (.cells #[ac n] e)) (some ⟨H.size,0,none⟩) 1 (av [n]) :=
 (show cZ 1 (H.push (.cells #[ac n] e)) (some ⟨H.size,0,none⟩) 1 1 (av [n]) [H.size] from ⟨by simp [av],UI _,.inr ⟨_,_,rfl,rfl,bH.new _ _ _,by simp,by simp [av]⟩⟩).rd
theorem qL {s:SP}{t:TB}{v:KV} (hv:KAllW s t v) (w:Int) (hl:s.stack.length+1<60000):KAllW (s.keepW [w]).2 t v∧(s.keepW [w]).2.h=s.h∧(s.keepW [w]).2.stack.length<=s.stack.length+1:=by
 unfold SP.keepW;split
 ·exact ⟨hv,rfl,VO _⟩
 rename_i hw;split
 ·exact ⟨hv,rfl,VO _⟩
 ·have lr:cP w:=Uv fun e=>hw ⟨w,by simp,e⟩;refine ⟨⟨⟨{ hv.ks.wf with many:=by simp;omega,words:=fun x hx=>?_ },hv.ks.gc,hv.ks.op,hv.ks.king,hv.ks.view,hv.ks.sep,hv.ks.shape⟩,hv.names,by simp;omega⟩,rfl,by simp⟩;rcases Uz.1 hx with hx | hx
  ·exact hv.ks.wf.words x hx
  ·rw [Uu.1 hx];exact lr
structure SD (H:ag) (db:Nat) (D:aR) (s:SP) (t:TB) (v:KV) (ws:List Int) (N:Nat):Prop where
 dk:DK H db D s t ws
 all:KAllW s t v
 st:s.stack.length<=N
 wl:ws.length<=N
theorem SD.nil {H H':ag}{db:Nat}{D:aR}{s:SP}{t:TB}{v:KV}{ws:List Int}{N:Nat} (h:SD H db D s t v ws N) (f:Fr [] H H'):SD H' db D s t v ws N:=⟨h.dk.nil f,h.all,h.st,h.wl⟩
section
variable {H:ag}{db:Nat}{D:aR}{s:SP}{t:TB}{v:KV}{ws:List Int}{N:Nat}{Q:QT}{r:Int}
theorem vV {n:Int} (hn:pN n) (h:Q (ac (2*n+1)) H):ae PP 15 #[ac n] Q H:=by
 apply Fg;dsimp only [ac,bd];obtain ⟨h1,h2⟩:=hn;rw [az (n:=2*n) (by omega) (by omega),az (by omega) (by omega)];exact h
theorem HO (hD:DK H db D s t ws){H':ag} (f:Fr [] H H'):∀ p,(some ⟨H'.size,0,none⟩:Option Addr)=some p->p.block∉D:=fun p hp hm=>by
 cases hp
 have:=hD.lt _ hm
 have:=f.1;simp only at *;omega
end
def HB (H:ag) (b sb hb:Nat):Prop:=aq H ⟨b,0,none⟩=some (Kj sb)∧aq H ⟨sb,0,none⟩=some (Kj hb)
theorem iL {H:ag}{b o:Nat}{v:Value} (h:aq H ⟨b,o,none⟩=some v):b<H.size:=by
 unfold aq at h;rcases Vp b H.size with h1 | h1
 ·exact h1
 ·simp only [Ve h1] at h;cases h
theorem HB.nil {H H':ag}{b sb hb:Nat} (h:HB H b sb hb) (hf:Fr [] H H'):HB H' b sb hb:=by
 obtain ⟨h1,h2⟩:=h;exact ⟨by rw [eH hf (by simp) (iL h1)];exact h1,by rw [eH hf (by simp) (iL h2)];exact h2⟩
section
variable {H:ag}{b sb hb:Nat}{F:aR}{s:SP}{t:TB}{Q:QT}
theorem PK.hp (hK:PK H b F s t) (hB:HB H b sb hb):∃ F1,dF H hb F1 s.h∧(∀ x∈F1,x∈F)∧∀ H' r',dF H' hb F1 r'->Fr F1 H H'->PK H' b F { s with h:=r' } t∧HB H' b sb hb:=by
 obtain ⟨sb',F1,hc,hS,ap,L3,_,cx⟩:=hK.sp;obtain ⟨na,nq⟩:=hB;rw [hc] at na;have e:sb'=sb:=by simpa using na
 subst e;obtain ⟨b8,F2,hR,c0,_,_,Fs,LV,G9⟩:=hS.upd;rw [c0] at nq;have e:b8=hb:=by simpa using nq
 subst e;have w9:=hK.lt b hK.bmem;have hsl:=hS.lt _ hS.bmem;refine ⟨F2,hR,fun x hx=>ap x (Fs x hx),fun H' r' LU hf=>⟨cx H' _ (G9 H' r' LU hf) (hf.mono Fs),?_,?_⟩⟩
 ·rw [eH hf (fun hm=>L3 (Fs b hm)) w9];exact hc
 ·rw [eH hf LV hsl];exact c0
theorem PK.tbB (hK:PK H b F s t) (hB:HB H b sb hb):∃ tb F2,aq H ⟨b,1,none⟩=some (Kj tb)∧qp H tb F2 t∧∀ H' F2' t',qp H' tb F2' t'->Up F2 H F2' H'->(∃ F',PK H' b F' s t'∧Up F H F' H')∧HB H' b sb hb:=by
 obtain ⟨sb0,tb,F1,F2,rfl,h1,h2,h3,k1,k2,L7,hS,hT⟩:=hK;have hK:PK H b (b :: (F1++F2)) s t:=⟨sb0,tb,F1,F2,rfl,h1,h2,h3,k1,k2,L7,hS,hT⟩;obtain ⟨tb',F2',OY,OZ,hsub',hbF',hup',_⟩:=hK.tb;obtain ⟨na,nq⟩:=hB;have e0:aq H ⟨b,0,none⟩=some (Kj sb0):=L7.cell 0;rw [e0] at na;have e:sb0=sb:=by simpa using na
 subst e;have w9:=hK.lt b hK.bmem;have hsl:=hS.lt _ hS.bmem;refine ⟨tb,F2,L7.cell 1,hT,fun H' F2' t' Nd hu=>⟨?_,?_,?_⟩⟩
 ·have aa:=hK.lt;have LB:=hK.kinds.lt;have S4:=hS.gk;refine ⟨b :: (F1++F2'),⟨_,tb,F1,F2',rfl,h1,Up.out hu h2 w9,fun x hx qz=>?_,k1,Up.out hu k2 LB,L7.fr hu.1 h2,hS.fr hu.1 h3 k2,Nd⟩,hu.1.mono fun x hx=>by simp [hx],fun x hx=>?_⟩
  ·rcases hu.2 x qz with h4 | h4
   ·exact h3 x hx h4
   ·have:=aa x (by simp [hx]);omega
  ·rcases Us.1 hx with rfl | hx
   ·exact .inl (by simp)
   ·rcases Uz.1 hx with hx | hx
    ·exact .inl (by simp [hx])
    ·exact (hu.2 x hx).imp (fun h4=>by simp [h4]) id
 ·rw [eH hu.1 h2 w9];exact e0
 ·rw [eH hu.1 (h3 _ hS.bmem) hsl];exact nq
theorem oS {r:RH} (h:∀ k x,aG r.objs k=some x->x.fmt=0) (k i w:Int):∀ j x,aG (r.put k i w).2.objs j=some x->x.fmt=0:=fun j x hx=>by
 obtain ⟨y,h1,h2⟩:=xa k i w j hx;rw [h2];exact h j y h1
theorem CQ (o:Int) (l:List Int):∀ (i:Int){r:RH},(∀ k x,aG r.objs k=some x->x.fmt=0)->∀ j x,aG (r.lay o i l).objs j=some x->x.fmt=0:=by
 induction l with
 | nil=>intro i r h;exact h
 | cons w l ih=>intro i r h;exact ih (i+1) (oS h o i w)
theorem rH {r:RH} (h:∀ k x,aG r.objs k=some x->x.fmt=0) (n:Nat):∀ j x,aG (kR r n).objs j=some x->x.fmt=0:=by
 induction n with
 | zero=>exact h
 | succ n ih=>exact oS (CQ _ _ _ ih) _ _ _
theorem GP (hK:PK H b F s ⟨4096,[]⟩) (hB:HB H b sb hb) (K4:∀ k x,aG s.h.objs k=some x->x.fmt=0)
  (h:∀ H' F',PK H' b F' { s with h:=bQ s.h } bZ->HB H' b sb hb->Up F H F' H'->Q (.tuple #[]) H'):ae PP 75 #[Kj b] Q H:=by
 have In:cQ.length=14:=rfl;apply Gd;dsimp only [aK,aT,dU,dd,ao,ak,bv,aB,aE,jT,bq,ac,bu,Hk,cX,ck,aN,am,aJ,aZ,ax,bU,bd];obtain ⟨sb0,F1,hc,hS,_⟩:=hK.sp;have e0:sb0=sb:=by
  have:=hB.1;rw [hc] at this;simpa using this
 subst e0;refine ⟨_,rfl,_,hc,?_⟩;have Ty:∀ {Q':Value->ag->Prop},Q' (Kj hb) H->ae PP 44 #[Kj sb0] Q' H:=by
  intro Q' hq;obtain ⟨b8,F1',hR,c0,_⟩:=hS.upd;obtain ⟨na,nq⟩:=hB;rw [c0] at nq;have e:b8=hb:=by simpa using nq
  subst e;apply Al;dsimp only [bJ,ao,aE,aN,am];refine ib hS ⟨_,rfl,?_⟩;simp only [Ut];exact ⟨_,rfl,_,c0,hq⟩
 refine Ty ⟨_,rfl,?_⟩;apply AQ;dsimp only [aK,au,aJ,aZ];refine ⟨_,_,_,rfl,?_⟩;have fp:=(Fr.push [] H (.cells (bY cQ).toArray 9));have hN:Rd 1 (H.push (.cells (bY cQ).toArray 9)) (some ⟨H.size,0,none⟩) 14 (bY cQ):=by
  refine ⟨rfl,(fun h=>by cases h),fun p hp k hk=>?_⟩;cases hp;rw [aC,UE,(bH.new H _ _).cell];simp
 have R0:zn (H.push (.cells (bY cQ).toArray 9)) (some ⟨H.size,0,none⟩) F:=fun p hp=>by
  cases hp;exact ⟨by simp,fun hm=>absurd (hK.lt _ hm) (Wg _)⟩
 have e9:=hK.nil fp;have l8:HB (H.push (.cells (bY cQ).toArray 9)) b sb0 hb:=HB.nil hB fp;show ∃(I8:List Value->ag->Prop) (μ8:List Value->ag->Nat),I8 [ac 0] (H.push (.cells (bY cQ).toArray 9))∧_;generalize (H.push (.cells (bY cQ).toArray 9))=H0 at fp hN R0 e9 l8 ⊢;refine ⟨fun w H'=>∃(i:Nat) (F':aR),w=[ac i]∧i<=14∧PK H' b F' { s with h:=kR s.h i } ⟨4096,cQ.take i⟩∧HB H' b sb0 hb∧Up F H0 F' H',fun w _=>match w with
  | [.int _ i]=>(14-i).toNat
  | _=>0,⟨0,F,rfl,by decide,e9,l8,Up.refl _ _⟩,?_⟩
 rintro w H3 ⟨i,F3,rfl,hi,v7,Lm,JN⟩ _;refine ⟨_,rfl,?_⟩;rw [ah];refine aP (fun aa=>?_) fun aa=>?_
 ·have dq:i<cQ.length:=by omega
  obtain ⟨p,gw,hp,aj⟩:=(R0.rd JN hN).str (i:=(i:Int)) (by omega) (by omega);cases hp;simp only [Uy] at aj gw;have e1:IntKind.wrap .i64 ((i:Int)+1)=((i+1:Nat):Int):=by rw [az (by omega) (by omega)];omega
  have e1':IntKind.wrap .i64 ((i:Int)+1)=(i:Int)+1:=az (by omega) (by omega);have e4:IntKind.wrap .i64 (4+(i:Int))=4+(i:Int):=az (by omega) (by omega);obtain ⟨tb,F4,L1,Tz,JM⟩:=PK.tbB v7 Lm;refine ⟨⟨by omega,aa⟩,_,rfl,_,by rw [Uy,UC];exact aj,_,rfl,_,L1,sg Tz fun H4 F4' Oe Lt=>⟨_,_,rfl,?_⟩⟩;rw [Bs dq] at Oe ⊢;obtain ⟨⟨F5,L2,Qy⟩,Od⟩:=JM H4 F4' _ Oe Lt;refine A5 ⟨by simp only;omega,by simp only;omega⟩ ⟨_,_,rfl,dN (by decide) ⟨_,rfl,?_⟩⟩;refine ⟨fun w H'=>w=[ac (if i=0 then 4 else 16)]∧H'=H4,?_,?_⟩
  ·rw [bI,ah];refine aP (fun h0=>dN (by decide) ⟨_,rfl,?_,rfl⟩) fun h0=>⟨?_,rfl⟩
   ·rw [Ur (by omega)];rfl
   ·rw [Uq (by omega)];rfl
  rintro w H4' ⟨rfl,rfl⟩ _;refine ⟨_,rfl,dN (by decide) ⟨_,rfl,dN (by decide) ⟨_,rfl,dN (by decide) ⟨_,rfl,kK (by decide) ⟨_,rfl,?_⟩⟩⟩⟩⟩;rw [e1',e4];refine kK ⟨by omega,by omega⟩ ⟨_,rfl,?_⟩;have fq:=(Fr.push [] H4' (.cells (av (fC i)).toArray 26));have hW:Rd 1 (H4'.push (.cells (av (fC i)).toArray 26)) (some ⟨H4'.size,0,none⟩) 7 (av (fC i)):=pO (cs:=fC i);have Of:zn (H4'.push (.cells (av (fC i)).toArray 26)) (some ⟨H4'.size,0,none⟩) F5:=fun p hp=>by
   cases hp;exact ⟨by simp,fun hm=>absurd (L2.lt _ hm) (Wg _)⟩
  have Lq:=L2.nil fq;have K8:HB (H4'.push (.cells (av (fC i)).toArray 26)) b sb0 hb:=HB.nil Od fq;show ∃(I38:List Value->ag->Prop) (μ38:List Value->ag->Nat),I38 [ac 0] (H4'.push (.cells (av (fC i)).toArray 26))∧_;generalize (H4'.push (.cells (av (fC i)).toArray 26))=H6 at fq hW Of Lq K8 ⊢;refine ⟨fun w H'=>∃(k:Nat) (r:RH),w=[ac k]∧k<=7∧PK H' b F5 { s with h:=r } ⟨4096,cQ.take (i+1)⟩∧HB H' b sb0 hb∧Fr F5 H6 H'∧r.lay (4+i) k ((fC i).drop k)=(kR s.h i).lay (4+i) 0 (fC i)∧∀ j x,aG r.objs j=some x->x.fmt=0,fun w _=>match w with
   | [.int _ k]=>(7-k).toNat
   | _=>0,⟨0,kR s.h i,rfl,by decide,Lq,K8,Fr.refl _ _,rfl,rH K4 i⟩,?_⟩
  rintro w H7 ⟨k,r,rfl,TA,Lr,Is,Jw,rF,hr⟩ _;refine ⟨_,rfl,?_⟩;rw [ah];refine aP (fun JE=>?_) fun JE=>?_
  ·have MN:k<(fC i).length:=by show k<7;omega
   obtain ⟨p,hp,aj,I5⟩:=(hW.fr' Jw fun p hp=>(Of p hp).2).int (i:=(k:Int)) (by omega) (by omega);cases hp;rw [Uy] at aj I5;have hx:(fC i).getD k 0=(fC i)[k]:=by simp [MN]
   rw [hx] at aj;have ed:(fC i).drop k=(fC i)[k] :: (fC i).drop (k+1):=Vr MN;have ek:IntKind.wrap .i64 ((k:Int)+1)=((k+1:Nat):Int):=by rw [az (by omega) (by omega)];omega
   obtain ⟨F8,Og,I6,K9⟩:=PK.hp Lr Is;refine ⟨⟨by omega,JE⟩,_,rfl,_,by rw [Uy,UC];exact aj,ql Og (hr _) fun H9 Oh L8=>⟨_,rfl,?_⟩⟩;obtain ⟨Oi,Jy⟩:=K9 H9 _ Oh L8;rw [ek];refine ⟨⟨k+1,(r.put (4+i) k (fC i)[k]).2,rfl,by omega,Oi,Jy,Jw.trans (L8.mono I6),?_,oS hr _ _ _⟩,by simp;omega⟩;rw [←rF,ed];rfl
  ·have hk:k=7:=by omega
   subst hk;have hz:(fC i).drop 7=[]:=rfl;rw [hz] at rF;simp only [RH.lay] at rF;subst rF;refine dN ⟨by omega,by omega⟩ ⟨_,rfl,?_⟩;obtain ⟨F8,Og,I6,K9⟩:=PK.hp Lr Is;refine ql Og (hr _) fun H9 Oh L8=>⟨_,rfl,?_⟩;obtain ⟨Oi,Jy⟩:=K9 H9 _ Oh L8;rw [show (i:Int)+1=((i+1:Nat):Int) by omega];refine ⟨⟨i+1,F5,rfl,by omega,Oi,Jy,?_⟩,by simp;omega⟩;exact (JN.trans Qy).trans ((Up.of_nil fq).trans ⟨Jw.trans (L8.mono I6),fun _ h=>.inl h⟩)
 ·have MO:i=14:=by omega
  subst MO;have fq:=(Fr.push [] H3 (.cells (av [20,18,18,18,1,2,3]).toArray 3));have hW:Rd 1 (H3.push (.cells (av [20,18,18,18,1,2,3]).toArray 3)) (some ⟨H3.size,0,none⟩) 7 (av [20,18,18,18,1,2,3]):=pO (cs:=[20,18,18,18,1,2,3]);have Of:zn (H3.push (.cells (av [20,18,18,18,1,2,3]).toArray 3)) (some ⟨H3.size,0,none⟩) F3:=fun p hp=>by
   cases hp;exact ⟨by simp,fun hm=>absurd (v7.lt _ hm) (Wg _)⟩
  have Lq:=v7.nil fq;have K8:HB (H3.push (.cells (av [20,18,18,18,1,2,3]).toArray 3)) b sb0 hb:=HB.nil Lm fq;show ∃(I38:List Value->ag->Prop) (μ38:List Value->ag->Nat),I38 [ac 0] (H3.push (.cells (av [20,18,18,18,1,2,3]).toArray 3))∧_;generalize (H3.push (.cells (av [20,18,18,18,1,2,3]).toArray 3))=H6 at fq hW Of Lq K8 ⊢;refine ⟨fun w H'=>∃(k:Nat) (r:RH),w=[ac k]∧k<=7∧PK H' b F3 { s with h:=r } bZ∧HB H' b sb0 hb∧Fr F3 H6 H'∧r.lay 19 k (ut.drop k)=bQ s.h∧∀ j x,aG r.objs j=some x->x.fmt=0,fun w _=>match w with
   | [.int _ k]=>(7-k).toNat
   | _=>0,⟨0,kR s.h 14,rfl,by decide,by rw [show bZ=⟨4096,cQ.take 14⟩ from rfl];exact Lq,K8,Fr.refl _ _,by rw [bQ];rfl,rH K4 14⟩,?_⟩
  rintro w H7 ⟨k,r,rfl,TA,Lr,Is,Jw,rF,hr⟩ _;refine ⟨_,rfl,?_⟩;rw [ah];refine aP (fun JE=>?_) fun JE=>?_
  ·have MN:k<7:=by omega
   obtain ⟨p,hp,aj,I5⟩:=(hW.fr' Jw fun p hp=>(Of p hp).2).int (i:=(k:Int)) (by omega) (by omega);cases hp;rw [Uy] at aj I5;have ek:IntKind.wrap .i64 ((k:Int)+1)=((k+1:Nat):Int):=by rw [az (by omega) (by omega)];omega
   have hx:1<=([20,18,18,18,1,2,3]:List Int).getD k 0∧([20,18,18,18,1,2,3]:List Int).getD k 0<=65536∧ut.drop k=4*([20,18,18,18,1,2,3]:List Int).getD k 0 :: ut.drop (k+1):=by
    rcases k with _ | _ | _ | _ | _ | _ | _ | k
    all_goals first | exact ⟨by decide,by decide,by decide⟩ | omega
   obtain ⟨F8,Og,I6,K9⟩:=PK.hp Lr Is;refine ⟨⟨by omega,JE⟩,_,rfl,_,by rw [Uy,UC];exact aj,dN ⟨hx.1,hx.2.1⟩ ⟨_,rfl,ql Og (hr _) fun H9 Oh L8=>⟨_,rfl,?_⟩⟩⟩;obtain ⟨Oi,Jy⟩:=K9 H9 _ Oh L8;rw [ek];refine ⟨⟨k+1,_,rfl,by omega,Oi,Jy,Jw.trans (L8.mono I6),?_,oS hr _ _ _⟩,by simp;omega⟩;rw [←rF,hx.2.2];rfl
  ·have hk:k=7:=by omega
   subst hk;have hz:ut.drop 7=[]:=rfl;rw [hz] at rF;have Oj:r=bQ s.h:=rF;rw [Oj] at Lr;have Qu:Up F3 H3 F3 H7:=(Up.of_nil fq).trans ⟨Jw,fun _ h=>.inl h⟩;have TC:Up F H F3 H7:=((Up.of_nil fp).trans JN).trans Qu;exact h H7 F3 Lr Is TC
end
section
def d9:List (Int × Int)->List Value
 | []=>[]
 | (c,n) :: l=>ac c :: ac n :: d9 l
theorem mr (l m:List (Int × Int)):d9 (l++m)=d9 l++d9 m:=by
 induction l with
 | nil=>rfl
 | cons x l ih=>obtain ⟨c,n⟩:=x;simp [d9,ih]
theorem zm (l:List (Int × Int)):(d9 l).length=2*l.length:=by
 induction l with
 | nil=>rfl
 | cons x l ih=>obtain ⟨c,n⟩:=x;simp only [d9,US,ih];omega
theorem yl (l:List (Int × Int)):∀ v∈d9 l,ge v=true:=by
 induction l with
 | nil=>intro v hv;cases hv
 | cons x l ih =>
  obtain ⟨c,n⟩:=x;intro v hv;simp only [d9,Us] at hv;rcases hv with rfl | rfl | hv
  ·rfl
  ·rfl
  ·exact ih v hv
theorem x9 {l:List (Int × Int)}{i:Nat} (h:i<l.length):(d9 l)[i*2]?=some (ac l[i].1)∧(d9 l)[i*2+1]?=some (ac l[i].2):=by
 induction l generalizing i with
 | nil=>simp at h
 | cons x l ih =>
  obtain ⟨c,n⟩:=x;cases i with
  | zero=>simp [d9]
  | succ i =>
   have:=ih (i:=i) (by simpa using h);have e:(i+1)*2=i*2+2:=by omega
   rw [e];simpa [d9] using this
theorem qx (r:RH) (x:Int × Int) (l:List (Int × Int)):r.allocAll (x :: l)=if (r.alloc (4*x.1) x.2 0).1.2≠0 then ((r.alloc (4*x.1) x.2 0).1.2,(r.alloc (4*x.1) x.2 0).2) else RH.allocAll (r.alloc (4*x.1) x.2 0).2 l:=by
 obtain ⟨c,n⟩:=x;rfl
theorem yo (words oops:Int):bQ (((cD words oops).allocAll aQ).2)=ba words oops:=rfl
theorem yG {words oops:Int} (hz:((cD words oops).allocAll aQ).1=0):((cD words oops).allocAll aQ).2.objs=bS:=by
 rw [iS aQ (r:=cD words oops) rfl hz];rfl
theorem yy {words oops:Int} (hw:WFH (ba words oops)) (hz:((cD words oops).allocAll aQ).1=0):((ba words oops).clsAt 19).2=0:=by
 obtain ⟨x,hx,_⟩:=oL hw hz (p:=(19,[80,72,72,72,4,8,12,4])) (by decide);unfold RH.clsAt;simp only at hx;rw [hx]
attribute [local irreducible] ba bQ bS
section
variable {H:ag}{Q:QT}
theorem wL:∀ i (hi:i<aQ.length),1<=(aQ[i]).1∧(aQ[i]).1<=65536:=by decide
theorem Es {words oops:Int} (hk:dT H) (cp:¬ (0<=words∧words<=1048576∧0<=oops∧oops<=65536)->Q (.tuple #[.pointer none,ac 1]) H)
  (h1:(0<=words∧words<=1048576∧0<=oops∧oops<=65536)->((cD words oops).allocAll aQ).1≠0->∀ H',Fr [] H H'->Q (.tuple #[.pointer none,ac ((cD words oops).allocAll aQ).1]) H')
  (h2:(0<=words∧words<=1048576∧0<=oops∧oops<=65536)->((cD words oops).allocAll aQ).1=0->∀ b F H',PK H' b F (ce words oops) bZ->Fr [] H H'->(∀ x∈F,H.size<=x)->Q (.tuple #[Kj b,ac 0]) H') :
  ae PP 23 #[ac words,ac oops] Q H:=by
 have ic:bj PP 121=some (2,16,some (.agg #[ac 0,ac 0])):=by kernel_rfl
 apply FX;dsimp only [aK,aY,aT,dU,dd,ao,ak,jl,gg,bv,aB,bq,ac,bu,cX,jO,au,ck,am,aJ,cC,ax,bP,bU,bd];refine CY hk (fun hb=>⟨_,_,rfl,cp hb⟩) fun hg sb F1 H1 Jv be tl=>⟨_,_,rfl,?_⟩;simp only [show ((0:Int) != 0)=false from rfl,Ut];have h1:=h1 hg;have h2:=h2 hg;refine Di (fun hb=>absurd ⟨by decide,by decide⟩ hb) fun _ tb F2 H2 Nd bw s6=>⟨_,_,rfl,?_⟩;simp only [show ((0:Int) != 0)=false from rfl,Ut];have l9:=be.trans bw;have I3:=Jv.nilfr bw;have LB:=hk.lt;have v7:PK (H2.push (.cells #[Kj sb,Kj tb] 65)) H2.size (H2.size :: (F1++F2)) ⟨cD words oops,0,[],false,0,0,0⟩ ⟨4096,[]⟩:=by
  have fp:=Fr.push [] H2 (.cells #[Kj sb,Kj tb] 65);have l1:=I3.lt;have l1':=Jv.lt;have l2:=Nd.lt;refine ⟨sb,tb,F1,F2,rfl,fun hm=>absurd (l1 _ hm) (Wg _),fun hm=>absurd (l2 _ hm) (Wg _),fun x hx qz=>?_,?_,fun hm=>?_,bH.new _ _ _,I3.nilfr fp,Nd.fr fp (dB.nil_right _)⟩
  ·have:=s6 x qz;have:=l1' x hx;omega
  ·have:=l9.1;omega
  ·have:=s6 _ hm;have:=be.1;omega
 have la:Fr [] H (H2.push (.cells #[Kj sb,Kj tb] 65)):=l9.more;have J2:∀ x∈H2.size :: (F1++F2),H.size<=x:=fun x hx=>by
  rcases Us.1 hx with rfl | hx
  ·exact l9.1
  ·rcases Uz.1 hx with hx | hx
   ·exact tl x hx
   ·exact Ux be.1 (s6 x hx)
 generalize TD:(H2.push (.cells #[Kj sb,Kj tb] 65))=H3 at v7 la ⊢;generalize (H2.size :: (F1++F2))=F3 at v7 J2;apply AQ;dsimp only [aK,au,aJ,aZ];refine ⟨_,_,_,rfl,?_⟩;have I5:=v7.lt;have R1:cZ 2 (H3.push (.cells (d9 [(5,0),(6,0),(7,0)]).toArray 120)) (some ⟨H3.size,0,none⟩) 3 3 (d9 [(5,0),(6,0),(7,0)]) [H3.size]:=⟨rfl,UI _,.inr ⟨H3.size,_,rfl,rfl,bH.new _ _ _,rfl,rfl⟩⟩;have fq:Fr [] H3 (H3.push (.cells (d9 [(5,0),(6,0),(7,0)]).toArray 120)):=Fr.push _ _ _;generalize TE:(H3.push (.cells (d9 [(5,0),(6,0),(7,0)]).toArray 120))=H4 at R1 fq;have Ln:cZ 2 (H4.push (.cells (bY cQ).toArray 9)) (some ⟨H3.size,0,none⟩) 3 3 (d9 [(5,0),(6,0),(7,0)]) [H3.size]:=R1.fr (Fr.push [] _ _) (by simp);have fr1:Fr [] H3 (H4.push (.cells (bY cQ).toArray 9)):=fq.more;show ∃(I11:List Value->ag->Prop) (μ11:List Value->ag->Nat),I11 [.slice (some ⟨H3.size,0,none⟩) 3 3,ac 0] ((H3.push (.cells (d9 [(5,0),(6,0),(7,0)]).toArray 120)).push (.cells (bY cQ).toArray 9))∧_;rw [TE];generalize (H4.push (.cells (bY cQ).toArray 9))=H5 at Ln fr1 ⊢;refine ⟨fun w H'=>∃(i:Nat) (a:Option Addr) (l c:Nat) (G:aR),w=[.slice a l c,ac i]∧i<=14∧cZ 2 H' a l c (d9 ([(5,0),(6,0),(7,0)]++List.replicate i (12,7))) G∧Fr [] H3 H'∧(∀ x∈G,H3.size<=x),fun w _=>match w with
  | [_,.int _ i]=>(14-i).toNat
  | _=>0,⟨0,_,_,_,_,rfl,by decide,Ln,fr1,by simp⟩,?_⟩
 rintro w H6 ⟨i,a,l,c,G,rfl,hi,ho,Ju,hG⟩ _;have hl:l=3+i:=by have:=ho.len;rw [zm] at this;simp at this;omega
 refine ⟨_,_,_,_,rfl,?_⟩;rw [ah];refine aP (fun aa=>?_) fun aa=>?_
 ·have e1:IntKind.wrap .i64 ((i:Int)+1)=((i+1:Nat):Int):=by rw [az (by omega) (by omega)];omega
  refine dl ic rfl (by kernel_rfl) ho rfl (by simp [ge]) (by omega) (by decide) (by decide) fun a' c' G2 H7 g1 g2 g3=>⟨_,_,_,rfl,?_⟩;obtain ⟨f7,QN⟩:=Up.fresh Ju g2 hG;rw [e1];refine ⟨⟨i+1,a',l+1,c',G2,rfl,by omega,?_,f7,QN⟩,by simp;omega⟩;rw [List.replicate_succ',←Vq,mr];exact g1
 have MO:i=14:=by omega
 subst MO;have fl:Fr [] H6 (H6.push (.cells (d9 [(11,0),(11,8),(11,14)]).toArray 120)):=Fr.push _ _ _;refine eU (l2:=3) (ys:=d9 [(11,0),(11,8),(11,14)]) ic rfl (by kernel_rfl) (ho.fr fl (by simp)) ⟨rfl,(fun h=>by cases h),fun p hp k dn=>?_⟩ (yl _) (by omega) (by decide) (by decide) fun a' c' G2 H7 g1 g2 g3=>⟨_,_,_,rfl,?_⟩
 ·cases hp;rw [aC,UE];exact ((bH.new H6 (d9 [(11,0),(11,8),(11,14)]).toArray 120).cell k).trans (by simp)
 obtain ⟨f7,QN⟩:=Up.fresh (Ju.trans fl) g2 hG;rw [←mr] at g1;have ep:[(5,0),(6,0),(7,0)]++List.replicate 14 (12,7)++[(11,0),(11,8),(11,14)]=aQ:=rfl;rw [ep] at g1;subst hl;have TF:Rd 2 H7 a' 20 (d9 aQ):=g1.rd;have TG:zn H7 a' F3:=fun p hp=>by
  have aa:=g1.lt;rcases g1.2.2 with ⟨h3,_⟩ | ⟨b',cs,h3,h4,_⟩
  ·rw [h3] at hp;cases hp
  ·rw [h3] at hp;cases hp;have b8:b'∈G2:=by rw [h4];simp
   exact ⟨aa _ b8,fun hm=>by have h5:=QN _ b8;have h6:=I5 _ hm;simp only at h6;omega⟩
 have Lr:=v7.nil f7;have kv:aq H3 ⟨H2.size,0,none⟩=some (Kj sb):=by rw [←TD];exact (bH.new H2 _ _).cell 0
 have QO:aq H7 ⟨H2.size,0,none⟩=some (Kj sb):=by rw [eH f7 (by simp) (iL kv)];exact kv
 have Jw:=la.trans f7;have R2:aQ.length=20:=rfl;refine ⟨fun w H'=>∃(k:Nat) (r:RH) (st:List Int) (F':aR),w=[ac k]∧k<=20∧PK H' H2.size F' ⟨r,0,st,false,0,0,0⟩ ⟨4096,[]⟩∧Up F3 H7 F' H'∧st.length=k∧aq H' ⟨H2.size,0,none⟩=some (Kj sb)∧r.allocAll (aQ.drop k)=(cD words oops).allocAll aQ,fun w _=>match w with
  | [.int _ k]=>(20-k).toNat
  | _=>0,⟨0,_,_,_,rfl,by decide,Lr,Up.refl _ _,rfl,QO,rfl⟩,?_⟩
 rintro w H8 ⟨k,r,st,F8,rfl,hk20,O1,QP,ci,QQ,al⟩ _;refine ⟨_,rfl,?_⟩;rw [ah];refine aP (fun aa=>?_) fun aa=>?_
 ·have JE:k<aQ.length:=by omega
  have e1:IntKind.wrap .i64 ((k:Int)+1)=((k+1:Nat):Int):=by rw [az (by omega) (by omega)];omega
  have QR:Rd 2 H8 a' 20 (d9 aQ):=TF.fr' QP.1 fun p hp=>(TG p hp).2;have TH:=wL k JE;obtain ⟨q0,q1⟩:=x9 JE;have ed:aQ.drop k=aQ[k] :: aQ.drop (k+1):=Vr JE;rw [ed] at al;have Li:∃ q,a'=some q:=by
   cases ha:a' with
   | none=>have:=QR.2.1 ha;omega
   | some q=>exact ⟨q,rfl⟩
  obtain ⟨q,rfl⟩:=Li;have c0:=QR.2.2 q rfl (k*2) (by omega);have c1:=QR.2.2 q rfl (k*2+1) (by omega);rw [q0] at c0;rw [q1] at c1;have eadd:(q.add (k*2)).add 1=q.add (k*2+1):=Addr.add_add _ _ _;refine ⟨⟨by omega,by omega⟩,_,rfl,_,by rw [Uy];exact c0,_,by rw [Uy,eadd];exact c1,?_⟩;have fpx:Fr [] H8 (H8.push (.cells #[ac 0,ac 0] 120)):=Fr.push _ _ _;have O2:=bH.new H8 #[ac 0,ac 0] 120;generalize (H8.push (.cells #[ac 0,ac 0] 120))=H9 at fpx O2 ⊢;have Jy:=(O2.set 0 (ac (aQ[k]).1)).set 1 (ac (aQ[k]).2);have f9:Fr [] H8 (bc (bc H9 ⟨H8.size,0,none⟩ (ac (aQ[k]).1)) ⟨H8.size,1,none⟩ (ac (aQ[k]).2)):=Fr.late (Fr.late fpx (UI _)) (UI _);refine ⟨O2.wr (o:=0) (by simp),(O2.set 0 _).wr (o:=1) (by simp),?_⟩;show ∃ n25:Int,aq (bc (bc H9 ⟨H8.size,0,none⟩ (ac (aQ[k]).1)) ⟨H8.size,1,none⟩ (ac (aQ[k]).2)) ⟨H8.size,0,none⟩=some (ac n25)∧∃ n26:Int,aq (bc (bc H9 ⟨H8.size,0,none⟩ (ac (aQ[k]).1)) ⟨H8.size,1,none⟩ (ac (aQ[k]).2)) ⟨H8.size,1,none⟩=some (ac n26)∧ae PP 44 _ _ (bc (bc H9 ⟨H8.size,0,none⟩ (ac (aQ[k]).1)) ⟨H8.size,1,none⟩ (ac (aQ[k]).2));generalize (bc (bc H9 ⟨H8.size,0,none⟩ (ac (aQ[k]).1)) ⟨H8.size,1,none⟩ (ac (aQ[k]).2))=HA at Jy f9 ⊢;have QS:=O1.nil f9;obtain ⟨sbA,FA,L9,QU,La,QV,Ok,Ol⟩:=QS.sp;have esb:sbA=sb:=by rw [eH f9 (by simp) (iL QQ),QQ] at L9;simpa using L9.symm
  subst esb;refine ⟨_,Jy.cell 0,_,Jy.cell 1,eV QU fun hb FB TI I7 MP=>⟨_,rfl,⟨⟨Jy.cell 1,trivial⟩,⟨Jy.cell 0,trivial⟩,trivial⟩,dN TH ⟨_,rfl,⟨⟨Jy.cell 1,trivial⟩,trivial⟩,sD TI fun HB' QW Ma=>⟨_,_,rfl,trivial,?_⟩⟩⟩⟩;have O3:=MP HB' _ QW Ma;have QX:=Ol HB' _ O3 (Ma.mono I7);have TJ:Up F8 HA F8 HB':=⟨(Ma.mono I7).mono La,fun _ h=>.inl h⟩;have hu8B:Up F3 H7 F8 HB':=QP.trans ((Up.of_nil f9).trans TJ);rw [qx] at al;rw [bK,ah];refine aP (fun he=>?_) fun he=>?_
  ·rw [Ur he] at al;have e0:((cD words oops).allocAll aQ).1=(r.alloc (4*(aQ[k]).1) (aQ[k]).2 0).1.2:=by rw [←al]
   have:=h1 (by rw [e0];exact he) HB' ?_
   ·rw [e0] at this;exact this
   ·exact (Up.fresh Jw hu8B J2).1
  rw [Uq he] at al;have hz:(r.alloc (4*(aQ[k]).1) (aQ[k]).2 0).1.2=0:=Uv he;have Lg:=ky O1.wfs.h hz;refine dN ⟨Lg.2.1,Lg.2.2.1⟩ ⟨_,rfl,?_⟩;have fpy:Fr [] HB' (HB'.push (.cells #[ac (4*(r.alloc (4*(aQ[k]).1) (aQ[k]).2 0).1.1)] 26)):=Fr.push _ _ _;have QY:=QX.nil fpy;obtain ⟨sbC,FC,O4,O5,hsubC,TK,QZ,_⟩:=QY.sp;have Om:aq HB' ⟨H2.size,0,none⟩=some (Kj sbA):=by rw [eH Ma (fun hm=>QV (I7 _ hm)) (iL L9)];exact L9
  have R3:=eH fpy (b:=H2.size) (o:=0) (by simp) (iL Om);rw [Om] at R3;have esb:sbC=sbA:=by rw [R3] at O4;simpa using O4.symm
  subst esb;have JG:=nv (s:=⟨(r.alloc (4*(aQ[k]).1) (aQ[k]).2 0).2,0,st,false,0,0,0⟩) (cH Lg.2.1 Lg.2.2.1) (by show st.length<65536;omega);refine qa O5 (pO (cs:=[4*(r.alloc (4*(aQ[k]).1) (aQ[k]).2 0).1.1])) (by decide) fun HD FD R4 R5=>⟨_,rfl,?_⟩;rw [JG] at R4 ⊢;simp only [show ((0:Int) != 0)=false from rfl,Ut];obtain ⟨FE,TL,TM⟩:=QZ HD FD _ R4 R5;rw [e1];exact ⟨⟨k+1,_,_,FE,rfl,by omega,TL,hu8B.trans ((Up.of_nil fpy).trans TM),by simp [ci],by rw [eH R5.1 TK (iL O4)];exact O4,al⟩,by simp;omega⟩
 ·have On:k=20:=by omega
  subst On;have ez:aQ.drop 20=[]:=rfl;rw [ez] at al;have Mb:(0,r)=(cD words oops).allocAll aQ:=al;have hz:((cD words oops).allocAll aQ).1=0:=by rw [←Mb]
  have l4:r=((cD words oops).allocAll aQ).2:=by rw [←Mb]
  have TN:bQ r=ba words oops:=by rw [l4];exact yo _ _
  have Q0:r.objs=bS:=by rw [l4];exact yG hz
  obtain ⟨sb8,F9,Oo,TO,_⟩:=O1.sp;obtain ⟨hb8,_,_,TP,_⟩:=TO.upd;have esb8:sb8=sb:=by rw [QQ] at Oo;simpa using Oo.symm
  subst esb8;refine GP O1 ⟨Oo,TP⟩ (fun j x hx=>?_) fun H9 FA QS TQ TR=>⟨rfl,?_⟩
  ·rw [Q0] at hx;exact of_decide_eq_true (VA.1 yC x (aD hx).1)
  have Oq:PK H9 H2.size FA ⟨ba words oops,0,st,false,0,0,0⟩ bZ:=by rw [←TN];exact QS
  obtain ⟨sbA,F10,L9,QU,La,QV,_,Ok⟩:=Oq.sp;have esb:sbA=sb8:=by have:=TQ.1;rw [L9] at this;simpa using this
  subst esb;have eh:WFH (ba words oops):=Oq.wfs.h;have r0:((ba words oops).clsAt 19).2=0:=yy eh hz;refine xY QU fun HB O3 Ma=>⟨_,rfl,?_⟩;have ecr:(SP.crown ⟨ba words oops,0,st,false,0,0,0⟩ 19)=(0,⟨ba words oops,19,st,false,0,0,0⟩):=by
   unfold SP.crown;rw [Uq (by simpa using r0)]
  rw [ecr] at O3;have QX:=Ok HB _ O3 Ma;obtain ⟨sbB,F11,R6,Q1,I7,_,_,MP⟩:=QX.sp;have esb:sbB=sbA:=by rw [eH Ma QV (iL L9),L9] at R6;simpa using R6.symm
  subst esb;refine o5 Q1 ⟨by decide,by decide⟩ fun HC O5 R7=>⟨_,rfl,?_⟩;have edr:(SP.drop ⟨ba words oops,19,st,false,0,0,0⟩ ((20:Nat):Int))=(0,ce words oops):=by
   unfold SP.drop;rw [Uq (by simp only [ci];decide)];simp [ci,ce]
  have e20:((3+14+3:Nat):Int)=((20:Nat):Int):=rfl;rw [edr] at O5;have QY:=MP HC _ O5 R7;have TS:Up F3 H7 FA HC:=(QP.trans TR).trans ⟨(Ma.mono La).trans (R7.mono I7),fun _ h=>.inl h⟩
  have:=Up.fresh Jw TS J2;exact h2 hz H2.size FA HC QY this.1 this.2
end
end
end Go.Proofs.YtgjfejoohojokaaGreatDoor
namespace Kw
open Go
section
attribute [local irreducible] ba bQ bS
def vU (v:KV):Prop:=∃ oop n ns l d,v=bt.addC ⟨oop,n,4,ns,l,18,18,[],[],0⟩ d
structure PairV (v:KV):Prop where
 pl:eK v 4=some 0∧eK v 5=some 1∧eK v 6=some 2∧eK v 7=some 3∧eK v 8=some 4∧eK v 9=some 5∧eK v 10=some 6∧eK v 11=some 7∧eK v 12=some 8∧eK v 14=some 10∧eK v 17=some 13
 up:∀ i,dt v i=0∨dt v i=4∨∃ j,eK v (dt v i)=some j∧14<=j
theorem vU.v {v:KV} (hp:vU v):PairV v:=by
 obtain ⟨oop,n,ns,l,d,rfl⟩:=hp;refine ⟨⟨rfl,rfl,rfl,rfl,rfl,rfl,rfl,rfl,rfl,rfl,rfl⟩,fun i=>?_⟩;unfold dt
 have:(bt.addC ⟨oop,n,4,ns,l,18,18,[],[],0⟩ d).cls=bt.cls++[⟨oop,n,4,ns,l,18,18,[],[],0⟩]:=rfl;rw [this];rcases i with _ | _ | _ | _ | _ | _ | _ | _ | _ | _ | _ | _ | _ | _ | _ | i
 all_goals first | exact .inl rfl | exact .inr (.inl rfl)
theorem nD {v:KV} (hp:PairV v){k o:Int}{i:Nat} (h4:k≠4) (hk:eK v k=some i) (hi:i<14) (h:fc v k o=true):o=k:=by
 have go:∀ n o,nZ v k n o=true->o=k:=by
  intro n
  induction n with
  | zero=>intro o h;cases h
  | succ n ih =>
   intro o h;unfold nZ at h;split at h
   ·cases h
   split at h
   ·assumption
   split at h
   ·rename_i j _;exfalso;have e:=ih _ h;rcases hp.up j with e2 | e2 | ⟨m,e2,hm⟩
    ·rw [e2] at h;cases n with
     | zero=>cases h
     | succ n=>unfold nZ at h;rw [Ur rfl] at h;cases h
    ·exact h4 (e.symm.trans e2)
    ·rw [e,hk] at e2;cases e2;omega
   ·cases h
 exact go _ _ h
theorem wT {r:RH}{w c f:Int}{l:List Int} (h3:aA w=3) (hx:ob r (w / 4)=some (c,f,l)) (hc:aA c=3):bV r w=c / 4:=by
 obtain ⟨o,ho,rfl,_,_⟩:=bO.1 hx
 have:=bX hc;have eo:qQ r w=(o.cls / 4,0):=by
  unfold qQ;rw [Uq (by omega),Uq (by omega),Ur h3];unfold RH.clsAt;rw [ho];simp only [if_true];unfold jN;rw [Ur hc]
 unfold bV;rw [eo];rfl
theorem eD {r:RH}{w c f:Int}{l:List Int} (h3:aA w=3) (hx:ob r (w / 4)=some (c,f,l)):cq r w=((l.length:Int),f):=by
 obtain ⟨o,ho,_,rfl,rfl⟩:=bO.1 hx;unfold cq;rw [Ur h3];unfold RH.size;rw [ho]
theorem gF {r:RH}{w c f i:Int}{l:List Int} (h3:aA w=3) (hx:ob r (w / 4)=some (c,f,l)) (h0:0<=i) (h1:i<l.length):dQ r w i=l.getD i.toNat 0:=by
 obtain ⟨o,ho,_,_,rfl⟩:=bO.1 hx;unfold dQ jN;rw [Ur h3];unfold RH.at;rw [ho];simp only;rw [Uq (by omega)]
section
variable {s s':SP}{t t':TB}{v:KV}{G G':Int->Prop}{x:ByteArray}{r:Int}{res:Int × Int}
end
def BO (r:RH) (l:List (Int × Int)):Prop:=∀ p∈l,∃ f sl,ob r p.1=some (p.2,f,sl)
theorem xH {r:RH}{k c f:Int}{l:List Int} (h:ob r k=some (c,f,l)) (j i w:Int):∃ l',ob (r.put j i w).2 k=some (c,f,l'):=by
 by_cases hk:k=j
 ·subst hk;obtain ⟨o,h1,rfl,rfl,rfl⟩:=bO.1 h;unfold RH.put;rw [h1];simp only;split
  ·exact ⟨_,h⟩
  split
  ·exact ⟨_,h⟩
  ·refine ⟨_,bO.2 ⟨eC i w o,?_,rfl,rfl,rfl⟩⟩;show aG (iq r.objs k (eC i w)) k=_;rw [dG (f:=eC i w) fun _=>rfl,h1]
   have:=(aD h1).2;simp [this]
 ·exact ⟨l,(jo j i w k hk).trans h⟩
theorem xy:∀ (ws:List Int){r:RH}{k c f:Int}{l:List Int},ob r k=some (c,f,l)->∀ j i,∃ l',ob (r.lay j i ws) k=some (c,f,l')
 | [],_,_,_,_,l,h,_,_=>⟨l,h⟩
 | w :: ws,_,_,_,_,_,h,j,i=>by
  obtain ⟨l',h'⟩:=xH h j i w;exact xy ws h' j (i+1)
theorem wB {s:SP} (hw:WFS s){c n f:Int} (he:(s.alloc c n f).1.2=0):∃ o l,(s.alloc c n f).1.1=4*o∧ob (s.alloc c n f).2.h o=some (c,f,l):=by
 unfold SP.alloc at he ⊢;split at he
 ·rename_i hc;rw [Ur hc];obtain ⟨a1,a2,a3,a4,a5⟩:=(dW hw.h c n f).2.2 he;exact ⟨_,_,rfl,a4⟩
 ·rename_i hc;rw [Uq hc];obtain ⟨a1,a2,a3,a4,a5⟩:=(dW (fY hw.h _) c n f).2.2 he;exact ⟨_,_,rfl,a4⟩
theorem zC {s:SP}{v:KV} (hk:KS s v) (ci:s.stack.length<65536){cls:Int} (u0:1<=cls∧cls<=65536){ws:List Int} (hZ:∀ w∈ws,cP w) (e:(s.make cls ws).1.2=0) :
  ∃ o,(s.make cls ws).1.1=4*o∧1<=o∧o<=65536∧(s.make cls ws).2.stack=s.stack++[4*o]∧∃ f l,ob (s.make cls ws).2.h o=some (4*cls,f,l):=by
 obtain ⟨o,e1,e2,o1,o2,_⟩:=(kN hk ci u0 hZ).2.2.2 e;refine ⟨o,e1,o1,o2,e2,?_⟩;unfold SP.make at e e1 ⊢;by_cases he:(s.alloc (4*cls) ws.length 0).1.2=0
 ·rw [Uq (by simpa using he)] at e e1 ⊢;obtain ⟨o',l,g1,g2⟩:=wB hk.wf he;simp only at e1 ⊢
  have:o'=o:=by omega
  subst this;obtain ⟨l',t6⟩:=xy ws g2 ((s.alloc (4*cls) ws.length 0).1.1 / 4) 0;refine ⟨0,l',?_⟩;have JR:∀ {s1:SP} (l:List Int),(s1.keepW l).2.h=s1.h:=fun l=>by unfold SP.keepW;split;rfl;split <;> rfl
  rw [JR];exact t6
 ·rw [Ur (by simpa using he)] at e;exact absurd e he
theorem vm {s:SP}{v:KV}{t:TB} (hk:KS s v) (ci:s.stack.length<65000){c:Int} (hc:1<=c∧c<=65536) (hr:Reaches s.h s.roots c){f:Int}{l:List Int} (ho:ob s.h c=some (48,f,l)) (e:(dL s t v.clsW (4*c)).1.2=0) :
  (dL s t v.clsW (4*c)).1.1=c∧∃ f l,ob (dL s t v.clsW (4*c)).2.1.h c=some (48,f,l):=by
 have hZ:∀ w∈v.clsW++[4*c],cP w:=fun w hw=>by
  rcases Uz.1 hw with hw | hw
  ·exact js hk w hw
  ·simp only [Uu] at hw;rw [hw];exact cH hc.1 hc.2
 have dv:=(iv hk (by omega) hZ).2.1;have h1:=dv.ob hr ho;unfold dL at e ⊢;by_cases he:(s.array (v.clsW++[4*c])).1.2=0
 ·rw [Uq (by simpa using he)];refine ⟨by simp only;omega,?_⟩;obtain ⟨l',t6⟩:=xH h1 (s.array (v.clsW++[4*c])).2.king 0 (s.array (v.clsW++[4*c])).1.1;exact ⟨_,l',t6⟩
 ·rw [Ur (by simpa using he)] at e;exact absurd e he
theorem vB {s:SP}{v:KV}{t:TB} (hk:KS s v) (ci:s.stack.length<64000){n up l:Int} (hn:cP n) (cx:1<=up∧up<=65536) (hl:cP l) (aa:v.cls.length<256) (e:(fI s t v.clsW n up l).1.2=0) :
  ∃ f sl,ob (fI s t v.clsW n up l).2.1.h (fI s t v.clsW n up l).1.1=some (48,f,sl):=by
 have r0:v.clsW.length=v.cls.length:=by simp [KV.clsW]
 have hZ:=fX (n:=n) (up:=up) (l:=l) (k:=v.clsW.length) hn (cH cx.1 cx.2) hl (by omega);unfold fI at e ⊢;by_cases he:(s.make 12 (cL n up l v.clsW.length)).1.2=0
 ·rw [Uq (by simpa using he)] at e ⊢;obtain ⟨o,e1,o1,o2,es,f,sl,ho⟩:=zC hk (by omega) (cls:=12) (by decide) hZ he;obtain ⟨g1,_⟩:=kN hk (by omega) (cls:=12) (by decide) hZ;rw [e1] at e ⊢;generalize (s.make 12 (cL n up l v.clsW.length)).2=s2 at *;have h4:(4*o) / 4=o:=by omega
  have h3:aA (4*o)=3:=by have:=bl (4*o);omega
  have Q2:bm s2.h (4*o)=o:=by
   have:=mz (r:=s2.h) h3 (by rw [h4,ho];simp);omega
  have hr:Reaches s2.h s2.roots o:=by
   have:=Reaches.root (r:=s2.h) (ws:=s2.roots) (w:=4*o) (by unfold SP.roots;rw [es];simp) (by rw [Q2];omega);rw [Q2] at this;exact this
  obtain ⟨d1,f',l',d2⟩:=vm g1 (by rw [es];simp;omega) ⟨o1,o2⟩ hr ho e;exact ⟨f',l',by rw [d1];exact d2⟩
 ·rw [Ur (by simpa using he)] at e;exact absurd e he
theorem o8 {s:SP}{v:KV}{t:TB} (hk:KS s v) (ci:s.stack.length<60000){n up:Int}{ns:List Int} (hn:cP n) (cx:1<=up∧up<=65536) (Je:∀ w∈ns,cP w) (aa:v.cls.length<256) (e:(gY s t v.clsW n up ns).1.2=0) :
  ∃ f sl,ob (gY s t v.clsW n up ns).2.1.h (gY s t v.clsW n up ns).1.1=some (48,f,sl):=by
 obtain ⟨g1,_,⟨l,gl,gl1⟩,g4⟩:=iv hk (by omega) Je;unfold gY at e ⊢;by_cases he:(s.array ns).1.2=0
 ·rw [Uq (by simpa using he)] at e ⊢;obtain ⟨o,eo,o1,o2,_⟩:=g4 he;rw [eo] at e ⊢;exact vB g1 (by rw [gl];simp;omega) hn cx (cH o1 o2) aa e
 ·rw [Ur (by simpa using he)] at e;exact absurd e he
section
attribute [local semireducible] ba bQ bS
theorem Aq (w o m b t:Int):((cy bt).all fun p=>match aG (bQ ⟨w,o,m,b,t,bS⟩).objs p.1 with | some x=>decide (x.cls=p.2) | none=>false)=true:=by kernel_rfl
end
theorem xx {words oops:Int} (h:((cD words oops).allocAll aQ).1=0):BO (ba words oops) (cy bt):=by
 have e:=lX h;have h1:=Aq words oops 0 20 0;rw [←e] at h1;intro p hp
 have:=VA.1 h1 p hp;split at this
 ·rename_i x hx;exact ⟨_,_,bO.2 ⟨x,hx,of_decide_eq_true this,rfl,rfl⟩⟩
 ·cases this
theorem Ep {words oops:Int}{k:Nat}{m:Int} (hw:words=160+(m+30)) (ho:oops=20+((k+3:Nat):Int)) (hm:0<=m) (h1:words<=1048576) (h2:oops<=65536) :
  BO (aO (ce words oops) bt bZ cn fy [xB,yB]).2.1.h (cy bt++[((aO (ce words oops) bt bZ cn fy [xB,yB]).1.1,48)]):=by
 obtain ⟨e0,_⟩:=nh (k:=k+3) (m:=m+30) hw ho (by omega);have hb:=mB (words:=words) (oops:=oops) (by omega) h1 (by omega) h2 e0;have hd:=wV hb;obtain ⟨p1,_⟩:=rC hw ho hm h1 h2;have e:aO (ce words oops) bt bZ cn fy [xB,yB]=bM (ce words oops) bZ bt.clsW cn 4 [xB,yB]:=by
  unfold aO;rw [Uq (by rw [hd];simp),hd]
 rw [e] at p1 ⊢;have D:=oR hb.ks (by rw [hb.stack];decide) (j:=0) (by decide) (by decide) hb.names.wf cn [xB,yB];have e4:(bt.cls[0]'(by decide)).oop=4:=rfl;rw [e4] at D;have Ot:=xx e0;have r19:Reaches (ce words oops).h (ce words oops).roots 19:=hb.ks.reach (19,bt.rootW) (by simp [KV.roles]);have viaRoot:∀ w:Int,w∈bt.rootW->aA w=3->ob (ce words oops).h (w / 4)≠none->Reaches (ce words oops).h (ce words oops).roots (w / 4):=fun w hw hk hn=>by
  obtain ⟨x,JL,qz,My⟩:=hb.ks.view.root;exact pi r19 (bO.2 ⟨x,JL,rfl,qz,My⟩) hw hk hn
 have keep:∀ p∈cy bt,Reaches (ce words oops).h (ce words oops).roots p.1∧p.1≠19:=by
  intro p hp;have Li:=Ot p hp;have LF:ob (ce words oops).h p.1≠none:=by
   obtain ⟨f,sl,hx⟩:=Li;show ob (ba words oops) p.1≠none;rw [hx];simp
  have al:∀ p∈cy bt,p.1=1∨p.1=2∨p.1=3∨p.1=18∨∃ i,∃ hi:i<bt.cls.length,p.1=(bt.cls[i]).oop:=by
   intro p hp;unfold cy at hp;simp only [Us,UM] at hp;rcases hp with rfl | rfl | rfl | rfl | ⟨c,hc,rfl⟩
   ·exact .inl rfl
   ·exact .inr (.inl rfl)
   ·exact .inr (.inr (.inl rfl))
   ·exact .inr (.inr (.inr (.inl rfl)))
   ·obtain ⟨i,hi,rfl⟩:=Vc.1 hc;exact .inr (.inr (.inr (.inr ⟨i,hi,rfl⟩)))
  rcases al p hp with h | h | h | h | ⟨i,hi,h⟩
  ·exact ⟨by rw [h];exact hb.ks.reach (1,[]) (by simp [KV.roles]),by omega⟩
  ·refine ⟨?_,by omega⟩;rw [h] at LF ⊢;exact viaRoot 8 (by decide) (by decide) LF
  ·refine ⟨?_,by omega⟩;rw [h] at LF ⊢;exact viaRoot 12 (by decide) (by decide) LF
  ·exact ⟨by rw [h];exact hb.ks.reach (18,[]) (by simp [KV.roles]),by omega⟩
  ·refine ⟨?_,?_⟩
   ·rw [h];exact hb.ks.reach ((bt.cls[i]).oop,(bt.cls[i]).slots i) (by
     unfold KV.roles;simp only [Us];exact .inr (.inr (.inr (.inr (.inr (fw (i:=0) hi (by simp [crole])))))))
   ·have In:i<14:=by have:bt.cls.length=14:=rfl;omega
    have:=hb.ks.shape.kern i hi In;omega
 have F6:bT (ce words oops).h (bM (ce words oops) bZ bt.clsW cn 4 [xB,yB]).2.1.h (fun k=>Reaches (ce words oops).h (ce words oops).roots k∧k≠19):=by
  unfold bM;exact iY D.keep _ _ _ _ _
 intro p hp;rcases Uz.1 hp with hp | hp
 ·obtain ⟨f,sl,hx⟩:=Ot p hp;exact ⟨f,sl,F6.ob (keep p hp) hx⟩
 ·rw [Uu.1 hp];unfold bM at p1 ⊢;simp only at p1 ⊢;have pe:(dR (ce words oops) bZ bt.clsW cn 4 [xB,yB]).1.2=0:=p1;rw [Ur pe];have sd:∃ f sl,ob (dR (ce words oops) bZ bt.clsW cn 4 [xB,yB]).2.1.h (dR (ce words oops) bZ bt.clsW cn 4 [xB,yB]).1.1=some (48,f,sl):=by
   have w1:=fO hb.names.wf cn;have Je:=fH w1 (acc:=[]) (l:=[xB,yB]) (by simp);unfold dR at pe ⊢;by_cases ha:(bZ.add cn).1.2=0
   ·rw [Uq (by simpa using ha)] at pe ⊢;have hn:cP (4*(bZ.add cn).1.1+2):=by
     have:=fH hb.names.wf (acc:=[]) (l:=[cn]) (by simp) (4*(bZ.add cn).1.1+2) (by simp [TB.addAll,ha]);exact this
    by_cases c9:((bZ.add cn).2.addAll [] [xB,yB]).1.2=0
    ·rw [Uq (by simpa using c9)] at pe ⊢;exact o8 hb.ks (by rw [hb.stack];decide) hn (by decide) Je (by decide) pe
    ·rw [Ur (by simpa using c9)] at pe;exact absurd pe c9
   ·rw [Ur (by simpa using ha)] at pe;exact absurd pe ha
  obtain ⟨f,sl,hx⟩:=sd;have hk:=iY (bT.refl (dR (ce words oops) bZ bt.clsW cn 4 [xB,yB]).2.1.h fun _=>True) (dR (ce words oops) bZ bt.clsW cn 4 [xB,yB]).2.2 (ce words oops).h.mark bZ.texts.length (ce words oops).stack.length (dR (ce words oops) bZ bt.clsW cn 4 [xB,yB]).1.2;exact ⟨f,sl,hk.ob trivial hx⟩
end
end Kw
namespace Go.Proofs.YtgjfejoohojokaaGreatDoor
open Kw
def d7 (n:Int):ByteArray:=⟨(Lib.itoa n).toArray⟩
theorem pL {n:Int} (h:pN n):(d7 n).size<=11:=by
 have:=zF h.1 h.2;unfold d7;show (Lib.itoa n).toArray.size<=11;simpa using this
theorem gL.is {H : ag} (h : gL H) : ∀ w : World, w.heap = H -> Lib.TabIs PP w "internal/strconv.uint64pow10" .u64 Lib.pow10Tab := by
 intro w hw;obtain ⟨e,h⟩:=h
 have hg : PP.globalNamed "internal/strconv.uint64pow10" = some gP := by kernel_rfl
 unfold Lib.TabIs World.var?;rw [hg];simp only [Option.bind_some];rw [hw,h]
section
variable {H:ag}{b:Nat}{F:aR}{s:SP}{t:TB}{v:KV}{Q:QT}{a:Option Addr}{l c:Nat}
theorem BD {n:Int} (hn:pN n) (ht:gL H) (h:∀ H',Fr [] H H'->Q (.tuple #[.string (d7 n),ac 0]) H'):ae PP 301 #[ac n] Q H:=by
 obtain ⟨h0,h1⟩:=hn;apply C3;dsimp only [bJ,gI,ao,ac,aZ,bU];refine tX ⟨h0,h1⟩ ⟨_,rfl,?_⟩;rw [UB,Ut];exact wM Tryz.itoa ⟨_,Tryz.func353,rfl⟩ (by omega) (by omega) ht.is fun H' f=>⟨_,rfl,h H' f⟩
theorem Bg (hK:PK H b F s t) (ht:gL H){n:Int} (hn:pN n) (h:∀ H',PK H' b F (s.makeP 10 1 (bL (d7 n))).2 t->Fr F H H'->Q (.tuple #[ac (s.makeP 10 1 (bL (d7 n))).1.1,ac (s.makeP 10 1 (bL (d7 n))).1.2]) H') :
  ae PP 203 #[cv b (2*n+1) a l c] Q H:=by
 apply BT;dsimp only [aK,aY,aF,aT,ak,jm,aB,aH,aE,aL,ac,au,am,aJ,aZ,ax];have f:=Fr.push [] H (.cells (cc b (2*n+1) a l c) 138);have hb:=bH.new H (cc b (2*n+1) a l c) 138;refine ⟨_,hb.cell 0,_,hb.cell 1,_,_,_,hb.cell 2,qn (hK.nil f) fun H1 f1=>⟨_,rfl,?_⟩⟩;rw [xD hn];have f01:=f.trans f1;have an:=hb.fr f1 (by simp);refine BD hn (ht.fr f01 (by simp)) fun H2 f2=>⟨_,_,rfl,?_⟩;have f02:=f01.trans f2;have c9:=an.fr f2 (by simp);have hsz:=pL hn;refine ⟨_,c9.cell 0,_,c9.cell 1,_,_,_,c9.cell 2,wI (hK.nil f02) (by omega) fun H' lc f'=>⟨_,_,rfl,h H' lc ?_⟩⟩;exact ⟨Ux f02.1 f'.1,fun y hy hn=>by rw [f'.2 y (UJ hy f02.1) hn,f02.2 y hy (by simp)]⟩
end
theorem Ib:∀ (n m:Int){H:ag}{Q:QT},Q (.bool (decide (n<m))) H->ae PP 193 #[ac n,ac m] Q H:=fun _ _ {_ _} h=>by
 apply Dj;exact h
theorem Iv:∀ (n m:Int){H:ag}{Q:QT},Q (.bool (decide (n > m))) H->ae PP 194 #[ac n,ac m] Q H:=fun _ _ {_ _} h=>by
 apply Dr;exact h
theorem Im:∀ (n m:Int){H:ag}{Q:QT},Q (.bool (decide (n<=m))) H->ae PP 195 #[ac n,ac m] Q H:=fun _ _ {_ _} h=>by
 apply EH;exact h
theorem Iz:∀ (n m:Int){H:ag}{Q:QT},Q (.bool (decide (n ≥ m))) H->ae PP 196 #[ac n,ac m] Q H:=fun _ _ {_ _} h=>by
 apply Cm;exact h
theorem Rd.argc {H:ag}{q:Addr}{l:Nat}{ar:List Int} (hr:Rd 1 H (some q) l (av ar)) (i:Nat) (hi:i<ar.length):aq H (q.add (i*1))=some (ac (ar.getD i 0)):=by
 have ai:l=ar.length:=by have:=hr.1;simpa [av] using this.symm
 obtain ⟨p,hp,hc,_⟩:=hr.int (i:=(i:Int)) (by omega) (by omega);cases hp;simp only [Uy] at hc;rw [UC];exact hc
section
variable {H:ag}{b:Nat}{F:aR}{s:SP}{t:TB}{v:KV}{Q:QT}{x:Int}{q:Addr}{l c:Nat}{ws:List Int}{k j:Int}{y z:ByteArray}
theorem pc (hK:PK H b F s t) (hv:KAllW s t v) (hs:ou s.h k (bL y)) (hz:ou s.h j (bL z)) (hy:y.size<=100000) (LZ:z.size<=100000) (hr:Rd 1 H (some q) l (av [4*j])) (h:∀ H',Fr [] H H'->Q (.tuple #[.string y,.string z,.bool true]) H') :
  ae PP 306 #[cv b (4*k) (some q) l c] Q H:=by
 obtain ⟨k1,k2⟩:=iE hv hs;obtain ⟨j1,j2⟩:=iE hv hz;have ai:l=1:=by have:=hr.1;simpa [av] using this.symm
 subst ai;apply xL;dsimp only [aK,aY,bk,aT,gI,ao,aB,aH,aE,bq,aL,ac,bu,au,am,aJ,aZ,ax,bU];have f:=Fr.push [] H (.cells (cc b (4*k) (some q) 1 c) 138);have hb:=bH.new H (cc b (4*k) (some q) 1 c) 138;have a0:=Rd.argc (Rd.nilF hr f) 0 (by simp);refine ⟨_,hb.cell 0,_,hb.cell 1,_,_,_,hb.cell 2,_,_,_,hb.cell 2,⟨by decide,by decide⟩,q,rfl,_,a0,mm (hK.nil f) hv fun H1 f1=>⟨_,rfl,trivial,?_⟩⟩;rw [show ([4*j].getD 0 0)=4*j from rfl,zB hz j1 j2];simp only [show ((10:Int) != 10)=false from rfl,Ut];have f01:=f.trans f1;have an:=hb.fr f1 (by simp);have a1:=Rd.argc (Rd.nilF hr f01) 0 (by simp);refine ⟨_,an.cell 0,_,an.cell 1,_,_,_,an.cell 2,_,an.cell 1,_,an.cell 0,_,an.cell 1,_,_,_,an.cell 2,_,_,_,an.cell 2,⟨by decide,by decide⟩,q,rfl,_,a1,sq (hK.nil f01) hs k1 k2 hy fun H2 f2=>?_⟩;have f02:=f01.trans f2;have c9:=an.fr f2 (by simp);have a2:=Rd.argc (Rd.nilF hr f02) 0 (by simp);exact ⟨_,rfl,⟨⟨a2,trivial⟩,⟨c9.cell 2,trivial⟩,⟨c9.cell 0,c9.cell 1,c9.cell 2,trivial⟩,trivial⟩,sq (hK.nil f02) hz j1 j2 LZ fun H3 f3=>⟨_,rfl,trivial,h _ (f02.trans f3)⟩⟩
variable {a:Option Addr}
end
def gi (v:KV) (o:Int):Bool:=decide (o=4) || match eK v o with
 | some i=>decide (14<(i:Int)+1)
 | none=>false
def cU (r:RH) (v:KV) (w:Int):Int:=if gi v (bV r w) then (cq r w).1 else 0
def nz (t:TB) (n:Int):ByteArray:=if h:0<=n∧n<t.texts.length then t.texts[n.toNat]'(by omega) else ⟨#[]⟩
section
variable {H:ag}{b:Nat}{F:aR}{s:SP}{t:TB}{v:KV}{Q:QT}{r x:Int}{a:Option Addr}{q:Addr}{l c:Nat}{ws:List Int}
theorem zL (hK:PK H b F s t) (hv:KAllW s t v) (ho:1<=bV s.h r∧bV s.h r<=65536) (h:∀ H',Fr [] H H'->Q (.tuple #[ac (4*bV s.h r),ac 0]) H'):ae PP 173 #[cv b r a l c] Q H:=by
 apply Dq;dsimp only [aK,aY,aF,aT,ak,aB,aH,aE,aL,ac,au,am,aJ,ax];have f:=Fr.push [] H (.cells (cc b r a l c) 138);have hb:=bH.new H (cc b r a l c) 138;exact ⟨_,hb.cell 0,_,hb.cell 1,_,_,_,hb.cell 2,_,hb.cell 1,mm (hK.nil f) hv fun H1 f1=>⟨_,rfl,oo ho ⟨_,_,rfl,h _ (f.trans f1)⟩⟩⟩
theorem zz (h:∀ H',Fr [] H H'->Q (.tuple #[ac (tw (decide (r=4))),ac 0]) H'):ae PP 174 #[cv b r a l c] Q H:=by
 apply Du;dsimp only [aY,aF,bk,ak,aB,ac,au,am,aJ,ax];have hb:=bH.new H (cc b r a l c) 138;refine ⟨_,hb.cell 1,dw ⟨_,_,rfl,?_⟩⟩;rw [bI];exact h _ (Fr.push _ _ _)
theorem yv (h:∀ H',Fr [] H H'->Q (.tuple #[ac (tw (decide (r≠4))),ac 0]) H'):ae PP 175 #[cv b r a l c] Q H:=by
 apply EL;dsimp only [aY,aF,bk,ak,aB,ac,au,am,aJ,ax];have hb:=bH.new H (cc b r a l c) 138;refine ⟨_,hb.cell 1,dw ⟨_,_,rfl,?_⟩⟩;rw [bK];exact h _ (Fr.push _ _ _)
theorem B2 (h:∀ H',Fr [] H H'->Q (.tuple #[ac r,ac 0]) H'):ae PP 176 #[cv b r a l c] Q H:=by
 apply Cr;dsimp only [aY,aF,aB,ac,au,am,aJ,ax];have hb:=bH.new H (cc b r a l c) 138;exact ⟨_,hb.cell 1,h _ (Fr.push _ _ _)⟩
theorem xk (hK:PK H b F s t) (hv:KAllW s t v){w:Int} (h:∀ H',Fr [] H H'->Q (.bool (gi v (bV s.h w))) H'):ae PP 289 #[cv b r a l c,ac w] Q H:=by
 apply BK;dsimp only [aK,aY,bk,aT,ao,ak,cS,aB,aH,aE,aL,ac,au,am,aJ,ax];have f:=Fr.push [] H (.cells (cc b r a l c) 138);have hb:=bH.new H (cc b r a l c) 138;refine ⟨_,hb.cell 0,_,hb.cell 1,_,_,_,hb.cell 2,mm (hK.nil f) hv fun H1 f1=>⟨_,rfl,?_⟩⟩;have f01:=f.trans f1;have an:=hb.fr f1 (by simp);refine ⟨_,an.cell 0,tM (hK.nil f01) hv fun H2 f2=>?_⟩;have hq:=h _ (f01.trans f2);unfold gi at hq;cases hp:eK v (bV s.h w) with
 | none =>
  rw [hp] at hq;refine ⟨_,_,rfl,?_⟩;rw [bI,ah];refine aP (fun h4=>?_) fun h4=>?_
  ·rw [Vs h4] at hq;exact hq
  ·rw [Vz h4] at hq;exact hq
 | some i =>
  rw [hp] at hq;refine ⟨_,_,rfl,?_⟩;rw [bI,ah];refine aP (fun h4=>?_) fun h4=>?_
  ·rw [Vs h4] at hq;exact hq
  ·rw [Vz h4] at hq;exact hq
theorem rB (hK:PK H b F s t) (hv:KAllW s t v) (h:∀ H',Fr [] H H'->Q (ac (cU s.h v r)) H'):ae PP 287 #[cv b r a l c] Q H:=by
 apply DV;dsimp only [aK,aY,bJ,ao,ak,aB,aH,aE,aL,ac,au,am,aJ,ax];have f:=Fr.push [] H (.cells (cc b r a l c) 138);have hb:=bH.new H (cc b r a l c) 138;refine ⟨_,hb.cell 0,_,hb.cell 1,_,_,_,hb.cell 2,_,hb.cell 1,xk (hK.nil f) hv fun H1 f1=>⟨_,rfl,?_⟩⟩;have f01:=f.trans f1;have an:=hb.fr f1 (by simp);unfold cU at h;cases hi:gi v (bV s.h r) with
 | false =>
  rw [hi] at h;exact h _ f01
 | true =>
  rw [hi] at h;exact ⟨_,an.cell 0,_,an.cell 1,_,_,_,an.cell 2,_,an.cell 1,fU (hK.nil f01) fun H2 f2=>⟨_,_,rfl,h _ (f01.trans f2)⟩⟩
theorem yZ (hK:PK H b F s t) (hv:KAllW s t v) (h:∀ H',Fr [] H H'->Q (.tuple #[ac (fe (cU s.h v r)).1,ac (fe (cU s.h v r)).2]) H'):ae PP 178 #[cv b r a l c] Q H:=by
 apply DW;dsimp only [aK,aY,aF,aT,ak,aB,aH,aE,aL,ac,au,am,aJ,ax];have f:=Fr.push [] H (.cells (cc b r a l c) 138);have hb:=bH.new H (cc b r a l c) 138;exact ⟨_,hb.cell 0,_,hb.cell 1,_,_,_,hb.cell 2,rB (hK.nil f) hv fun H1 f1=>⟨_,rfl,lg ⟨_,_,rfl,h _ (f.trans f1)⟩⟩⟩
theorem xC (hK:PK H b F s t) (hr:Rd 1 H (some q) l (av (x :: ws))) (ho:q.block∉F){n:Int} (cp:(aV n x).2≠0->∀ H',Fr [] H H'->Q (.tuple #[ac 0,ac (aV n x).2]) H')
  (CI:(aV n x).2=0->ws=[]->∀ H',Fr [] H H'->Q (.tuple #[ac (dQ s.h r (aV n x).1),ac 0]) H')
  (DR:(aV n x).2=0->∀ y ws',ws=y :: ws'->∀ H',PK H' b F (s.putW r (aV n x).1 y).2 t->Fr F H H'->Q (.tuple #[ac y,ac (s.putW r (aV n x).1 y).1]) H'):ae PP 288 #[cv b r (some q) l c,ac n] Q H:=by
 have aa:=hK.lt;have ai:l=ws.length+1:=by have:=hr.1;simp [av] at this;omega
 apply DZ;dsimp only [aK,aY,aF,aT,ao,ak,bv,aB,aH,aE,bq,aL,ac,bu,au,am,aJ,ax];have f:=Fr.push [] H (.cells (cc b r (some q) l c) 138);have hb:=bH.new H (cc b r (some q) l c) 138;have L3:H.size∉F:=fun hm=>by have:=aa _ hm;omega
 refine ⟨_,hb.cell 0,_,hb.cell 1,_,_,_,hb.cell 2,pD (hK.nil f) (Rd.nilF hr f) fun H1 f1=>⟨_,_,rfl,?_⟩⟩;have f01:=f.trans f1;have an:=hb.fr f1 (by simp);rw [bK,ah];refine aP (fun h0=>cp h0 _ f01) fun h0=>?_;have Jm:(aV n x).2=0:=Uv h0;refine ⟨_,_,_,an.cell 2,?_⟩;rw [ah];refine aP (fun h2=>?_) fun h2=>?_
 ·have hw:ws=[]:=UX (by omega);exact ⟨_,an.cell 0,_,an.cell 1,_,_,_,an.cell 2,_,an.cell 1,mn (hK.nil f01) fun H2 f2=>⟨_,rfl,CI Jm hw _ (f01.trans f2)⟩⟩
 ·cases ws with
  | nil=>simp at ai;omega
  | cons y ws =>
   have Lv:1<(l:Int):=by omega
   have a1:=Rd.argc (Rd.nilF hr f01) 1 (by simp);refine ⟨_,_,_,an.cell 2,⟨by decide,Lv⟩,q,rfl,_,a1,_,an.cell 0,_,an.cell 1,_,_,_,an.cell 2,_,an.cell 1,_,_,_,an.cell 2,⟨by decide,Lv⟩,q,rfl,_,a1,wt (hK.nil f01) fun H3 v7 f3=>?_⟩;have f03:Fr F H H3:=⟨Ux f01.1 f3.1,fun z hz hn=>by rw [f3.2 z (UJ hz f01.1) hn,f01.2 z hz (by simp)]⟩;have xb:=an.fr f3 L3;have a3:=Rd.argc (hr.fr' f03 fun p hp=>by cases hp;exact ho) 1 (by simp);exact ⟨_,rfl,⟨⟨a3,trivial⟩,⟨xb.cell 2,trivial⟩,trivial⟩,DR Jm y ws rfl H3 v7 f03⟩
theorem E5 (hK:PK H b F s t) (hr:Rd 1 H (some q) l (av (x :: ws))) (ho:q.block∉F) (cp:(aV (cq s.h r).1 x).2≠0->∀ H',Fr [] H H'->Q (.tuple #[ac 0,ac (aV (cq s.h r).1 x).2]) H')
  (CI:(aV (cq s.h r).1 x).2=0->ws=[]->∀ H',Fr [] H H'->Q (.tuple #[ac (dQ s.h r (aV (cq s.h r).1 x).1),ac 0]) H')
  (DR:(aV (cq s.h r).1 x).2=0->∀ y ws',ws=y :: ws'->∀ H',PK H' b F (s.putW r (aV (cq s.h r).1 x).1 y).2 t->Fr F H H'->Q (.tuple #[ac y,ac (s.putW r (aV (cq s.h r).1 x).1 y).1]) H'):ae PP 215 #[cv b r (some q) l c] Q H:=by
 apply C4;dsimp only [aK,aY,aF,ak,aB,aH,aE,aL,ac,au,am,aJ,ax];have f:=Fr.push [] H (.cells (cc b r (some q) l c) 138);have hb:=bH.new H (cc b r (some q) l c) 138;refine ⟨_,hb.cell 0,_,hb.cell 1,_,_,_,hb.cell 2,_,hb.cell 1,fU (hK.nil f) fun H1 f1=>⟨_,_,rfl,?_⟩⟩;have f01:=f.trans f1;have an:=hb.fr f1 (by simp);refine ⟨_,an.cell 0,_,an.cell 1,_,_,_,an.cell 2,xC (hK.nil f01) (Rd.nilF hr f01) ho (fun h0 H' f'=>⟨_,_,rfl,cp h0 _ (f01.trans f')⟩) (fun h0 hw H' f'=>⟨_,_,rfl,CI h0 hw _ (f01.trans f')⟩) fun h0 y ws' hw H' lc f'=>⟨_,_,rfl,DR h0 y ws' hw H' lc ?_⟩⟩;exact ⟨Ux f01.1 f'.1,fun z hz hn=>by rw [f'.2 z (UJ hz f01.1) hn,f01.2 z hz (by simp)]⟩
theorem xJ (hK:PK H b F s t) (hv:KAllW s t v) (hr:Rd 1 H (some q) l (av (x :: ws))) (ho:q.block∉F) (cp:(aV (cU s.h v r) x).2≠0->∀ H',Fr [] H H'->Q (.tuple #[ac 0,ac (aV (cU s.h v r) x).2]) H')
  (CI:(aV (cU s.h v r) x).2=0->ws=[]->∀ H',Fr [] H H'->Q (.tuple #[ac (dQ s.h r (aV (cU s.h v r) x).1),ac 0]) H')
  (DR:(aV (cU s.h v r) x).2=0->∀ y ws',ws=y :: ws'->∀ H',PK H' b F (s.putW r (aV (cU s.h v r) x).1 y).2 t->Fr F H H'->Q (.tuple #[ac y,ac (s.putW r (aV (cU s.h v r) x).1 y).1]) H'):ae PP 179 #[cv b r (some q) l c] Q H:=by
 apply BG;dsimp only [aK,aY,aF,aT,ak,aB,aH,aE,aL,ac,au,am,aJ,ax];have f:=Fr.push [] H (.cells (cc b r (some q) l c) 138);have hb:=bH.new H (cc b r (some q) l c) 138;refine ⟨_,hb.cell 0,_,hb.cell 1,_,_,_,hb.cell 2,_,hb.cell 0,_,hb.cell 1,_,_,_,hb.cell 2,rB (hK.nil f) hv fun H1 f1=>?_⟩;have f01:=f.trans f1;have an:=hb.fr f1 (by simp);refine ⟨_,rfl,⟨⟨an.cell 0,an.cell 1,an.cell 2,trivial⟩,trivial⟩,xC (hK.nil f01) (Rd.nilF hr f01) ho (fun h0 H' f'=>⟨_,_,rfl,trivial,cp h0 _ (f01.trans f')⟩) (fun h0 hw H' f'=>⟨_,_,rfl,trivial,CI h0 hw _ (f01.trans f')⟩) fun h0 y ws' hw H' lc f'=>⟨_,_,rfl,trivial,DR h0 y ws' hw H' lc ?_⟩⟩;exact ⟨Ux f01.1 f'.1,fun z hz hn=>by rw [f'.2 z (UJ hz f01.1) hn,f01.2 z hz (by simp)]⟩
theorem E9 (h:∀ H',Fr [] H H'->Q (.tuple #[ac (tw (decide (r=8))),ac 0]) H'):ae PP 292 #[cv b r a l c] Q H:=by
 apply En;dsimp only [aY,aF,bk,ak,aB,ac,au,am,aJ,ax];have hb:=bH.new H (cc b r a l c) 138;refine ⟨_,hb.cell 1,dw ⟨_,_,rfl,?_⟩⟩;rw [bI];exact h _ (Fr.push _ _ _)
theorem zY (hK:PK H b F s t) (hn:pN (dp r)) (h:∀ H',Fr [] H H'->Q (.tuple #[ac (fe (d8 0 (dp r)).1).1,ac (fe (d8 0 (dp r)).1).2]) H'):ae PP 199 #[cv b r a l c] Q H:=by
 apply Bw;dsimp only [aK,aY,aF,aT,ao,ak,aB,aH,aE,aL,ac,au,am,aJ,ax];have f:=Fr.push [] H (.cells (cc b r a l c) 138);have hb:=bH.new H (cc b r a l c) 138;refine ⟨_,hb.cell 0,_,hb.cell 1,_,_,_,hb.cell 2,qn (hK.nil f) fun H1 f1=>⟨_,rfl,Ak 0 _ ⟨by decide,by decide⟩ hn ⟨_,_,rfl,?_⟩⟩⟩;rw [show (d8 0 (dp r)).2=0 from rfl];simp only [show ((0:Int) != 0)=false from rfl,Ut];exact lg ⟨_,_,rfl,h _ (f.trans f1)⟩
theorem FU:yX 197 fun n m=>(if m<n then m else n,0):=fun n m _ _ {Q H} h=>by
 apply DG;exact h
theorem Gr:yX 198 fun n m=>(if n<m then m else n,0):=fun n m _ _ {Q H} h=>by
 apply DS;exact h
theorem vd (hK:PK H b F s t){p:Nat}{i:Int} (hp:bH H p #[ac i]) (h:∀ H',Fr [] H H'->Q (.tuple #[ac (dQ s.h r i),ac 0]) H'):ae PP 309 #[cv b r a l c,Kj p] Q H:=by
 apply BZ;dsimp only [aK,aY,aF,aT,aB,aH,aE,aL,ac,au,am,aJ,ax];have f:=Fr.push [] H (.cells (cc b r a l c) 138);have hb:=bH.new H (cc b r a l c) 138;exact ⟨_,hb.cell 0,_,hb.cell 1,_,_,_,hb.cell 2,_,hb.cell 1,_,(hp.fr f (by simp)).cell 0,mn (hK.nil f) fun H1 f1=>⟨_,rfl,h _ (f.trans f1)⟩⟩
end
end Go.Proofs.YtgjfejoohojokaaGreatDoor
