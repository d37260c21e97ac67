/- Lemmas for RIM: functions of the program as predicate transformers, and their contracts. -/
import Derived.Test.YtcfmnlapccgllaaGreatDoorZIM2
set_option linter.all false
set_option maxRecDepth 100000
set_option maxHeartbeats 4000000
namespace Go.Proofs.YtcfmnlapccgllaaGreatDoor
open Kw
section
variable {H:ae}{b:Nat}{F F':aB}{s:SP}{Q:QT}
theorem BC {hb:Nat}{F1:aB}{r:RH} (hR:dd H hb F1 r){a2:Option Addr}{l2 c2:Nat}{ws:List Int} (hk:Rd 1 H a2 l2 (au ws)) (C5:l2<=1000000)
  (h:∀ H',dd H' hb F1 (r.keep (r.reach ws)).2->Fr F1 H H'->Q (jQ (r.keep (r.reach ws)).1) H'):ag PP 106 #[Cv hb,.slice a2 l2 c2] Q H:=by
 apply wF;dsimp only [ah,cd,iI,ac,ax,am,bn];refine xG hR hk C5 fun a l c G H1 ho hf hG=>⟨_,_,_,_,rfl,?_⟩;simp only [show ((0:Int) != 0)=false from rfl,Rh];have q7:=hR.fr hf (bL.nil_right _) (by simp);have an:=hR.lt;have Dr:l<=1099511627776:=by
  have h1:=ho.len;have h2:(r.reach ws).length<=r.all.length:=Ss _ _;have h3:=r.upto_len (r.oops+1).toNat;have h4:=hR.wf.o1;have h5:r.all.length<=(r.oops+1).toNat:=h3;simp only [au,RZ] at h1;omega
 refine vo (te hb r) q7 ho.rd (fun p hp D5=>?_) Dr fun H2 Dg g9=>⟨_,_,_,rfl,h H2 Dg ((hf.of_nil).trans g9)⟩;have PO:p.block∈G:=by
  rcases ho.2.2 with ⟨h1,_⟩ | ⟨b',_,h1,rfl,_⟩
  ·rw [h1] at hp;cases hp
  ·rw [h1] at hp;cases hp;simp
 have h1:=hG _ PO;have h2:=an _ D5;omega
theorem fO.nilfr {H':ae} (hS:fO H b F s) (hf:Fr [] H H'):fO H' b F s:=hS.fr hf (bL.nil_right _) (by simp)
theorem qe (hS:fO H b F s) (h:∀ H',fO H' b F s.collect.2->Fr F H H'->aj H' ⟨b,0,none⟩=aj H ⟨b,0,none⟩->Q (jQ s.collect.1) H'):ag PP 44 #[Cv b] Q H:=by
 obtain ⟨hb,F1,hR,c0,c3,c1,b9,DD,pp⟩:=hS.upd;apply z8;dsimp only [bK,cG,ah,cd,pj,aQ,ac,ax,ao,am,bn];unfold SP.collect at h;refine fG hS ⟨_,rfl,?_⟩;simp only [Rh];refine ⟨_,rfl,_,by rw [ak];exact c3,?_⟩;cases Db:s.op with
 | true =>
  rw [Db] at h;simp only [Rs];exact h H hS (Fr.refl _ _) rfl
 | false =>
  rw [Re (by rw [Db];simp)] at h;simp only [Rh];refine ⟨_,rfl,_,c0,sH hS fun a l c H1 ws hk hl he hf=>?_⟩;have CX:=hS.nilfr hf;obtain ⟨er,F1',q7,c01,c31,c11,Ds,MO,MP⟩:=CX.upd;have an:=hS.lt;have s6:b<H.size:=an b hS.bmem;have Dd:aj H1 ⟨b,0,none⟩=aj H ⟨b,0,none⟩:=by unfold aj;rw [hf.2 b s6 (by simp)]
  have MQ:er=hb:=by rw [Dd,c0] at c01;simpa using c01.symm
  subst MQ;refine ⟨_,_,_,rfl,⟨⟨by rw [Dd];exact c0,trivial⟩,trivial⟩,?_⟩;refine BC q7 hk (by omega) fun H2 Dg g9=>⟨_,_,_,rfl,trivial,?_⟩;rw [he] at Dg ⊢;refine h H2 (MP H2 _ Dg g9) ((hf.of_nil).trans (g9.mono Ds)) ?_;rw [←Dd];unfold aj;rw [g9.2 b (RC s6 hf.1) MO]
theorem nQ (hS:fO H b F s){cls n f:Int} (h:∀ H',fO H' b F (s.alloc cls n f).2->Fr F H H'->Q (.tuple #[ac (if (s.alloc cls n f).1.2=0 then (s.alloc cls n f).1.1 else 0),ac (s.alloc cls n f).1.2]) H') :
  ag PP 9 #[Cv b,ac cls,ac n,ac f] Q H:=by
 have Dm:fO (H.push (.cells #[Cv b] 33)) b F s:=hS.nilfr (Fr.push [] _ _);have E8:bW (H.push (.cells #[Cv b] 33)) H.size #[Cv b]:=bW.new _ _ _;have an:=hS.lt;have JS:H.size∉F:=fun hx=>by have:=an _ hx;omega
 apply Bw;dsimp only [bf,bk,bK,ah,aA,aQ,ac,ao,am,bg,az];refine ⟨_,E8.cell 0,fG Dm ⟨_,rfl,?_⟩⟩;simp only [Rh];have q9:Fr F H (H.push (.cells #[Cv b] 33)):=Fr.push _ _ _;generalize (H.push (.cells #[Cv b] 33))=H0 at Dm E8 q9 ⊢;obtain ⟨hb,F1,hR,c0,c3,c1,b9,DD,pp⟩:=Dm.upd;refine ⟨_,E8.cell 0,_,rfl,_,c0,?_⟩;have fin:∀ (p:Int × Int) (s':SP) (H2:ae),fO H2 b F s'->Fr F H H2->s.alloc cls n f=((4*p.1,p.2),s')->(p.2=0->1<=p.1∧p.1<=65536) ->
   ∃ n12 n13:Int,two p=.tuple #[ac n12,ac n13]∧cond (n13 != 0) (Q (.tuple #[ac 0,ac n13]) H2) (ag PP 45 #[ac n12] (fun v14 H3=>∃ n15:Int,∃ n16:Int,v14=.tuple #[ac n15,ac n16]∧Q (.tuple #[ac n15,ac n16]) H3) H2):=by
  intro p s' H2 DT g9 he hb;rw [he] at h;refine ⟨_,_,rfl,?_⟩;rw [bw,af];refine ba (fun c9=>?_) fun c9=>?_
  ·have:=h H2 DT g9;simp only [c9,if_false] at this;exact this
  ·have hz:p.2=0:=RE c9;have MR:=hb hz;refine sn MR ⟨_,_,rfl,?_⟩
   have:=h H2 DT g9;simp only [hz,if_true] at this;exact this
 have bnd:∀ (r:RH),WFH r->(r.alloc cls n f).1.2=0->1<=(r.alloc cls n f).1.1∧(r.alloc cls n f).1.1<=65536:=by
  intro r hw hz;have C3:=hw.o1;unfold RH.alloc at hz ⊢;split at hz
  ·simp at hz
  rename_i g1;split at hz
  ·simp at hz
  rename_i g2;split at hz
  ·simp at hz
  rename_i g3;split at hz
  ·simp at hz
  rename_i g4;rw [Re g1,Re g2,Re g3,Re g4]
  have:=dm hw.objs hw.o1 (by omega);exact ⟨this.1,by have:=this.2.1;simp only;omega⟩
 apply zc;dsimp only [bk,bK,ah,aA,ac];show ag PP 26 #[Cv hb,ac cls,ac n,ac f] _ H0;refine oz hR fun H1 q7 cp=>⟨_,_,rfl,?_⟩;have CX:=pp H1 _ q7 cp;have Es:Fr F H H1:=q9.trans (cp.mono b9);have tw:=E8.fr (cp.mono b9) JS;have ll:=hS.wf.h;rw [bq,af];refine ba (fun he=>?_) fun he=>?_
 ·have EI:=lF he;have Et:fO H1 b F s:=by
   have e:({ s with h:=(s.h.alloc cls n f).2 }:SP)=s:=by rw [EI]
   rw [e] at CX;exact CX
  show ag PP 43 #[.pointer (some ⟨H.size,0,none⟩)] _ H1;apply zh;dsimp only [bx,cd,aQ,am];refine ⟨_,tw.cell 0,qe Et fun H2 DT g9 KX=>⟨_,_,_,rfl,_,rfl,?_⟩⟩;have An:=tw.fr g9 JS;cases Db:s.op with
  | true =>
   have ec:s.collect=((0,0,25),s):=by unfold SP.collect;rw [Db];rfl
   rw [ec] at DT ⊢;simp only [show ((25:Int) == 0)=false from rfl,Rh];have ea:s.alloc cls n f=((4*(s.h.alloc cls n f).1.1,(s.h.alloc cls n f).1.2),s):=by
    unfold SP.alloc;rw [Rj (.inr Db),EI]
   exact fin (s.h.alloc cls n f).1 s H2 DT (Es.trans g9) ea (bnd _ ll)
  | false =>
   have ec:s.collect=((s.h.keep s.reach).1,{ s with h:=(s.h.keep s.reach).2 }):=by unfold SP.collect;rw [Db];rfl
   have ek:(s.h.keep s.reach).1.2.2=0:=by
    unfold RH.keep;rw [Re];rintro ⟨k,hk,hn⟩;exact ((RH.mem_reach ll).1 hk).there hn
   rw [ec] at DT ⊢;simp only [ek,show ((0:Int) == 0)=true from rfl,Rs];obtain ⟨er,F1',JT,c03,_,_,DU,_,Eu⟩:=DT.upd;have MQ:er=hb:=by
    have h1:aj H2 ⟨b,0,none⟩=some (Cv hb):=by
     rw [KX,←c0];unfold aj;rw [cp.2 b (by have:=Dm.lt b Dm.bmem;exact this) DD]
    rw [c03] at h1;simpa using h1
   subst MQ;show ag PP 26 #[Cv er,ac cls,ac n,ac f] _ H2;refine oz JT fun H4 GQ p3=>⟨_,_,rfl,?_⟩;have Gp:=Eu H4 _ GQ p3;have ea:s.alloc cls n f=((4*((s.h.keep s.reach).2.alloc cls n f).1.1,((s.h.keep s.reach).2.alloc cls n f).1.2),{ s with h:=((s.h.keep s.reach).2.alloc cls n f).2 }):=by
    unfold SP.alloc;rw [Re (by simp [he,Db])]
   exact fin ((s.h.keep s.reach).2.alloc cls n f).1 _ H4 Gp ((Es.trans g9).trans (p3.mono DU)) ea (bnd _ (eu ll _))
 ·have ea:s.alloc cls n f=((4*(s.h.alloc cls n f).1.1,(s.h.alloc cls n f).1.2),{ s with h:=(s.h.alloc cls n f).2 }):=by
   unfold SP.alloc;rw [Rj (.inl he)]
  exact fin (s.h.alloc cls n f).1 _ H1 CX Es ea (bnd _ ll)
theorem mn (hS:fO H b F s){a2:Option Addr}{l2 c2:Nat}{ws:List Int} (hk:Rd 1 H a2 l2 (au ws)) (C5:l2<=1000000000) (h:∀ H' F',fO H' b F' (s.keepW ws).2->Up F H F' H'->Q (ac (s.keepW ws).1) H'):ag PP 11 #[Cv b,.slice a2 l2 c2] Q H:=by
 have Dm:=hS;have s8:=hS.lt;have Ow:=hS.kinds;have D8:=Ow.lt;apply zG;dsimp only [bK,ah,bA,aO,ac,ax,ao,am,bE,bi,aI];unfold SP.keepW at h;refine fG hS ⟨_,rfl,?_⟩;simp only [Rh];refine mQ Ow hk C5 ⟨_,rfl,?_⟩;rw [af];refine ba (fun l8=>?_) fun l8=>?_
 ·rw [Rj l8] at h;exact h H F Dm (Up.refl _ _)
 rw [Re l8] at h;obtain ⟨hb,a,l,c,F1,F2,po,b5,b6,b7,rfl,h1,h2,h3,k1,k2,hB,hR,hO,hw,ho⟩:=hS;have p9:aj H ⟨b,2,none⟩=some (.slice a l c):=hB.cell 2;have hl:l=s.stack.length:=by have:=hO.len;simpa [au] using this.symm
 have DI:l2=ws.length:=by have:=hk.1;simpa [au] using this.symm
 have hm:=hw.many;have hU:aY PP 44=some (1,8,some (ac 0)):=by kernel_rfl
 refine ⟨_,rfl,_,_,_,by rw [ak];exact p9,?_⟩;rw [ai (by omega) (by omega),af];refine ba (fun FL=>?_) fun FL=>?_
 ·rw [Rj (by omega)] at h;exact h H _ Dm (Up.refl _ _)
 rw [Re (by omega)] at h;refine ⟨_,rfl,_,_,_,by rw [ak];exact p9,?_⟩;refine dp hU rfl (by kernel_rfl) hO hk eF (by omega) (by decide) (by decide) fun a' c' F3 H1 g1 g2 g3=>⟨_,_,_,rfl,_,rfl,?_⟩;have At:b∉F3:=fun hx=>by
  rcases g2.2 b hx with h4 | h4
  ·exact h2 h4
  ·have:=s8 b (by simp);omega
 have MS:aP∉F3:=fun hx=>by
  rcases g2.2 _ hx with h4 | h4
  ·exact k2 h4
  ·omega
 have tw:=hB.fr g2.1 h2;have w7:Fr [b] H1 (bc H1 ⟨b,2,none⟩ (.slice a' (l+l2) c')):=Fr.set (by simp);rw [ak];refine ⟨tw.wr (by simp),h _ (b :: (F1++F3)) ⟨hb,a',l+l2,c',F1,F3,po,b5,b6,b7,rfl,h1,At,fun x hx GS=>?_,k1,MS,tw.set 2 (.slice a' (l+l2) c'),?_,?_,?_,ho⟩ ⟨?_,fun x hx=>?_⟩⟩
 ·rcases g2.2 x GS with h4 | h4
  ·exact h3 x hx h4
  ·have:=s8 x (by simp [hx]);omega
 ·exact (hR.fr g2.1 h3 k2).fr w7 (fun x hx hn=>h1 (by simp only [Rg] at hn;rw [←hn];exact hx)) (by simpa using S4 k1)
 ·simp only;rw [bJ];exact g1.fr w7 (fun x hx hn=>At (by simp only [Rg] at hn;rw [←hn];exact hx))
 ·refine { hw with many:=?_,words:=fun w w5=>?_ }
  ·simp only [Rz];omega
  ·rcases Rl.1 w5 with h4 | h4
   ·exact hw.words w h4
   ·exact RE fun hn=>l8 ⟨w,h4,hn⟩
 ·exact (g2.1.mono (F':=b :: (F1++F2)) fun x hx=>by simp [hx]).trans (w7.mono fun x hx=>by simp only [Rg] at hx;simp [hx])
 ·rcases Rk.1 hx with rfl | hx
  ·exact .inl (by simp)
  ·rcases Rl.1 hx with hx | hx
   ·exact .inl (by simp [hx])
   ·exact (g2.2 x hx).imp (fun h4=>by simp [h4]) id
theorem qz (hS:fO H b F s) (h:∀ a c H',Rd 1 H' a s.stack.length (au s.stack)->Fr [] H H'->Q (.slice a s.stack.length c) H'):ag PP 120 #[Cv b] Q H:=by
 apply vF;dsimp only [bK,cG,ah,aO,ax,ao,am];refine fG hS ⟨_,rfl,?_⟩;simp only [Rh];obtain ⟨hb,a,l,c,F1,F2,po,b5,b6,b7,rfl,h1,h2,h3,k1,k2,hB,hR,hO,hw,ho⟩:=hS;have p9:aj H ⟨b,2,none⟩=some (.slice a l c):=hB.cell 2;have hl:l=s.stack.length:=by have:=hO.len;simpa [au] using this.symm
 have hm:=hw.many;refine ⟨_,rfl,_,_,_,by rw [ak];exact p9,?_⟩;refine ul hO.rd (by omega) fun a' c' G H1 C3 cp hG=>⟨_,_,_,rfl,?_⟩;apply yg;dsimp only [ax,az];have HU:=C3.2.1;refine ⟨⟨⟨by omega,by omega⟩,by omega,by omega⟩,_,_,_,rfl,?_⟩;rw [Ro,hl];rw [hl] at C3;exact h _ _ H1 C3.rd cp
theorem pz (hS:fO H b F s){n:Int} (hn:qW n) (h:∀ H',fO H' b F (s.drop n).2->Fr F H H'->Q (ac (s.drop n).1) H'):ag PP 30 #[Cv b,ac n] Q H:=by
 have Dm:=hS;apply zR;dsimp only [bK,ah,bA,aZ,aO,ac,ax,ao,am,az,bi,aI];unfold SP.drop at h;refine fG hS ⟨_,rfl,?_⟩;simp only [Rh,af];refine ba (fun JU=>?_) fun JU=>?_
 ·rw [Rj (.inl JU)] at h;exact h H Dm (Fr.refl _ _)
 obtain ⟨hb,a,l,c,F1,F2,po,b5,b6,b7,rfl,h1,h2,h3,k1,k2,hB,hR,hO,hw,ho⟩:=hS;have p9:aj H ⟨b,2,none⟩=some (.slice a l c):=hB.cell 2;have hl:l=s.stack.length:=by have:=hO.len;simpa [au] using this.symm
 have hm:=hw.many;refine ⟨_,rfl,_,_,_,by rw [ak];exact p9,ba (fun FL=>?_) fun FL=>?_⟩
 ·rw [Rj (.inr (by omega))] at h;exact h H Dm (Fr.refl _ _)
 rw [Re (by omega)] at h;have e:IntKind.wrap .i64 ((l:Int)-n)=(l:Int)-n:=ai (by omega) (by omega);have HU:=hO.2.1;refine ⟨_,rfl,_,_,_,by rw [ak];exact p9,_,rfl,_,_,_,by rw [ak];exact p9,?_⟩;rw [e];have w7:Fr [b] H (bc H ⟨b,2,none⟩ (.slice a ((l:Int)-n).toNat c)):=Fr.set (by simp);refine ⟨⟨by omega,by omega⟩,_,rfl,by rw [ak];exact hB.wr (by simp),trivial,?_⟩;rw [ak];refine h _ ⟨hb,a,((l:Int)-n).toNat,c,F1,F2,po,b5,b6,b7,rfl,h1,h2,h3,k1,k2,hB.set 2 _,?_,?_,?_,ho⟩ (w7.mono fun x hx=>by simp only [Rg] at hx;simp [hx])
 ·exact hR.fr w7 (fun x hx hn=>h1 (by simp only [Rg] at hn;rw [←hn];exact hx)) (by simpa using S4 k1)
 ·have h4:=hO.fr w7 (fun x hx hn=>h2 (by simp only [Rg] at hn;rw [←hn];exact hx));have h5:s.stack.length-n.toNat=((l:Int)-n).toNat:=by omega
  simp only;rw [h5];refine ⟨by simp [au];omega,by omega,?_⟩;rcases h4.2.2 with ⟨h6,h7,h8⟩ | ⟨b',cs,h6,h7,h8,h9,JV⟩
  ·exact .inl ⟨h6,h7,h8⟩
  ·refine .inr ⟨b',cs,h6,h7,h8,h9,?_⟩;have GU:(cs.toList.take (l*1)).take (((l:Int)-n).toNat*1)=(au s.stack).take (((l:Int)-n).toNat*1):=by rw [JV]
   rw [List.take_take] at GU;have Gq:min (((l:Int)-n).toNat*1) (l*1)=((l:Int)-n).toNat*1:=by omega
   rw [Gq] at GU;rw [GU];simp [au,List.map_take]
 ·refine { hw with many:=?_,words:=fun w w5=>hw.words w (Sm w5) };simp only [R5];omega
end
theorem bU {p:Prop} [Decidable p] {X Y:Prop} (h1:p->X) (h2:¬ p->Y):if p then X else Y:=by
 split
 ·exact h1 ‹_›
 ·exact h2 ‹_›
def pg (H:ae) (b:Nat) (F:aB) (t:TB):Prop:=∃ a l c F',F=b :: F'∧b∉F'∧bW H b #[ac t.most,.slice a l c]∧bZ 1 H a l c (bF t.texts) F'∧WFT t
section
variable {H:ae}{b:Nat}{F F':aB}{t:TB}{Q:QT}
theorem pg.wf (h:pg H b F t):WFT t:=by obtain ⟨_,_,_,_,_,_,_,_,h⟩:=h;exact h
theorem pg.lt (h:pg H b F t):∀ x∈F,x<H.size:=by
 obtain ⟨a,l,c,F',rfl,h1,hB,hO,hw⟩:=h;intro x hx;rcases Rk.1 hx with rfl | hx
 ·exact hB.lt
 ·exact hO.lt x hx
theorem pg.fr {H':ae}{G:aB} (h:pg H b F t) (hf:Fr G H H') (hd:bL F G):pg H' b F t:=by
 obtain ⟨a,l,c,F',rfl,h1,hB,hO,hw⟩:=h;exact ⟨a,l,c,F',rfl,h1,hB.fr hf (hd b (by simp)),hO.fr hf fun x hx=>hd x (by simp [hx]),hw⟩
theorem vx {n:Int} (l8:¬ (0<=n∧n<=4096)->Q (.tuple #[.pointer none,ac 1]) H) (h:(0<=n∧n<=4096)->∀ H',pg H' H.size [H.size] ⟨n,[]⟩->Fr [] H H'->Q (.tuple #[.pointer (some ⟨H.size,0,none⟩),ac 0]) H'):ag PP 32 #[ac n] Q H:=by
 apply Ag;dsimp only [bf,ah,bA,aZ,ac,ax,am,bg,az,bn];simp only [af];refine bU (fun h1=>l8 (by omega)) fun h1=>bU (fun h2=>l8 (by omega)) fun h2=>?_;exact h (by omega) _ ⟨none,0,0,[],rfl,by simp,bW.new _ _ _,bZ.nil 1 _,by simp;omega,by simp;omega,by simp;omega,by simp,by simp⟩ (Fr.push _ _ _)
theorem wq {s:ByteArray} (h:Q (.bool (decide (cJ s))) H):ag PP 103 #[.string s] Q H:=by
 apply vG;dsimp only [bx,ah];simp only [af];have fin:∀ b:Bool,b=decide (cJ s)->Q (.bool b) H:=fun b hb=>hb ▸ h;refine bU (fun h1=>fin _ ?_) fun h1=>fin _ ?_
 ·rw [Sk,decide_eq_true_iff,decide_eq_true_iff];unfold cJ;omega
 ·rw [Sk,decide_eq_true_iff];unfold cJ;simp;omega
theorem Bq (hT:pg H b F t){s:ByteArray} (h:Q (ac (match cL t.texts s with | some n=>(n:Int) | none=>-1)) H):ag PP 104 #[Cv b,.string s] Q H:=by
 obtain ⟨a,l,c,F',rfl,h1,hB,hO,hw⟩:=hT;have l9:aj H ⟨b,1,none⟩=some (.slice a l c):=hB.cell 1;have hl:l=t.texts.length:=by have:=hO.len;simpa [bF] using this.symm
 have DA:=hw.m1;have b8:=hw.len;apply wR;dsimp only [ah,aZ,aO,fE,bl,ac,bm,ce,bt,ao,aI];refine ⟨fun w H'=>H'=H∧∃ n:Nat,w=[ac n]∧n<=l∧∀ j (hj:j<t.texts.length),j<n->t.texts[j]≠s,fun w _=>match w with
  | [.int _ i]=>(l-i).toNat
  | _=>0,⟨rfl,0,rfl,RL _,fun j hj h=>by omega⟩,?_⟩
 rintro w H1 ⟨rfl,n,rfl,E7,Dl⟩ _;refine ⟨_,rfl,_,rfl,_,_,_,l9,?_⟩;rw [af];refine bU (fun an=>?_) fun an=>?_
 ·obtain ⟨p,ap,rfl,al⟩:=hO.rd.str (i:=(n:Int)) (by omega) an;simp only [Ro] at al ap;refine ⟨_,rfl,_,_,_,l9,⟨by omega,an⟩,_,rfl,_,by rw [Ro,Rn];exact al,?_⟩;rw [fm,af];refine bU (fun he=>?_) fun he=>?_
  ·rw [qT ap he Dl] at h;exact h
  ·have e:IntKind.wrap .i64 ((n:Int)+1)=((n+1:Nat):Int):=by rw [ai (by omega) (by omega)];omega
   rw [e];refine ⟨⟨rfl,n+1,rfl,by omega,fun j hj C7=>?_⟩,by simp;omega⟩;by_cases Jd:j=n
   ·subst Jd;exact he
   ·exact Dl j hj (by omega)
 ·have:cL t.texts s=none:=gN.2 fun hm=>by
   obtain ⟨j,hj,he⟩:=Sp hm;exact Dl j hj (by omega) he
  rw [this] at h;exact h
theorem uw (hT:pg H b F t){s:ByteArray} (h:∀ H' F',pg H' b F' (t.add s).2->Up F H F' H'->Q (.tuple #[ac (t.add s).1.1,ac (t.add s).1.2]) H'):ag PP 36 #[Cv b,.string s] Q H:=by
 have DL:=hT;have s8:=hT.lt;have ll:=iN hT.wf s;obtain ⟨a,l,c,F',rfl,h1,hB,hO,hw⟩:=hT;have l9:aj H ⟨b,1,none⟩=some (.slice a l c):=hB.cell 1;have CO:aj H ⟨b,0,none⟩=some (ac t.most):=hB.cell 0;have hl:l=t.texts.length:=by have:=hO.len;simpa [bF] using this.symm
 have DA:=hw.m1;have b8:=hw.len;have hU:aY PP 73=some (1,16,some (.string (⟨#[]⟩:ByteArray))):=by kernel_rfl
 apply zH;dsimp only [bf,bk,bK,aH,ah,aM,aO,ax,ao,ch,am,bg,bE,bh,bi,aI];simp only [Rf,Rh];refine wq ⟨_,rfl,?_⟩;unfold TB.add at h ll;by_cases hg:cJ s
 ·simp only [hg,not_true_eq_false,if_false,decide_true,Rq,Rh] at h ll ⊢;refine Bq DL ⟨_,rfl,?_⟩;cases hn:cL t.texts s with
  | some n =>
   rw [hn] at h;rw [af,Rj (by simp only;omega)];exact h H _ DL (Up.refl _ _)
  | none =>
   rw [hn] at h ll;simp only at h ll;rw [af,Re (by simp)];refine ⟨_,rfl,_,_,_,l9,_,rfl,_,CO,?_⟩;rw [af];refine bU (fun h2=>?_) fun h2=>?_
   ·rw [Rj (by omega)] at h;exact h H _ DL (Up.refl _ _)
   ·rw [Re (by omega)] at h ll;refine ⟨_,rfl,_,_,_,l9,?_⟩;refine bD hU rfl (by kernel_rfl) hO rfl (by simp [dw]) (by omega) (by decide) (by decide) fun a' c' F3 H2 g1 g2 g3=>⟨_,_,_,rfl,?_⟩;have At:b∉F3:=fun hx=>by
     rcases g2.2 b hx with h4 | h4
     ·exact h1 h4
     ·have:=s8 b (by simp);omega
    have An:=hB.fr g2.1 h1;have JW:=An.set 1 (.slice a' (l+1) c');have e:IntKind.wrap .i64 (((l+1:Nat):Int)-1)=(t.texts.length:Int):=by rw [ai (by omega) (by omega)];omega
    refine ⟨_,rfl,An.wr (by simp),_,rfl,_,_,_,JW.cell 1,?_⟩;rw [e];refine h _ (b :: F3) ⟨a',l+1,c',F3,rfl,At,JW,?_,ll⟩ ⟨(g2.1.mono fun x hx=>by simp [hx]).step (by simp),fun x hx=>?_⟩
    ·have h5:=g1.fr (G:=[b]) (Fr.set (a:=⟨b,1,none⟩) (v:=.slice a' (l+1) c') (by simp)) (fun x hx hn=>At (by simp only [Rg] at hn;rw [←hn];exact hx));simp only;rw [dY];exact h5
    ·rcases Rk.1 hx with rfl | hx
     ·exact .inl (by simp)
     ·exact (g2.2 x hx).imp (fun h4=>by simp [h4]) id
 ·simp only [hg,not_false_eq_true,if_true,decide_false,Rp,Rs] at h ⊢;exact h H _ DL (Up.refl _ _)
theorem un (hT:pg H b F t) (h:Q (ac (t.texts.length:Int)) H):ag PP 129 #[Cv b] Q H:=by
 obtain ⟨a,l,c,F',rfl,h1,hB,hO,hw⟩:=hT;have l9:aj H ⟨b,1,none⟩=some (.slice a l c):=hB.cell 1;have hl:l=t.texts.length:=by have:=hO.len;simpa [bF] using this.symm
 apply wy;dsimp only [ah,aO,ac,ao,ch];simp only [Rf,Rh];refine ⟨_,rfl,_,_,_,l9,?_⟩;rw [hl];exact h
def kK (t:TB) (n:Int):Value:=if h:0<=n∧n<t.texts.length then .tuple #[.string (t.texts[n.toNat]'(by omega)),ac 0] else .tuple #[.string (⟨#[]⟩:ByteArray),ac 61]
theorem sk (hT:pg H b F t){n:Int} (h:Q (kK t n) H):ag PP 182 #[Cv b,ac n] Q H:=by
 obtain ⟨a,l,c,F',rfl,h1,hB,hO,hw⟩:=hT;have l9:aj H ⟨b,1,none⟩=some (.slice a l c):=hB.cell 1;have hl:l=t.texts.length:=by have:=hO.len;simpa [bF] using this.symm
 apply xE;dsimp only [ah,aZ,aO,fE,bl,ac,bm,ao,ch,bh,az,bn];unfold kK at h;simp only [af,Rf,Rh];refine bU (fun h2=>?_) fun h2=>?_
 ·rw [dif_neg (by omega)] at h;exact h
 refine ⟨_,rfl,_,_,_,l9,bU (fun h3=>?_) fun h3=>?_⟩
 ·rw [dif_neg (by omega)] at h;exact h
 ·rw [dif_pos (by omega)] at h;obtain ⟨p,ap,rfl,al⟩:=hO.rd.str (i:=n) (by omega) (by omega);exact ⟨_,rfl,_,_,_,l9,⟨by omega,by omega⟩,_,rfl,_,by rw [Rn];exact al,h⟩
theorem xx (hT:pg H b F t){n:Int} (h:∀ H' F',pg H' b F' (TB.back t n).2->Up F H F' H'->Q (ac (TB.back t n).1) H'):ag PP 134 #[Cv b,ac n] Q H:=by
 have DL:=hT;have s8:=hT.lt;obtain ⟨a,l,c,F',rfl,h1,hB,hO,hw⟩:=hT;have l9:aj H ⟨b,1,none⟩=some (.slice a l c):=hB.cell 1;have hl:l=t.texts.length:=by have:=hO.len;simpa [bF] using this.symm
 have DA:=hw.m1;have b8:=hw.len;have hU:aY PP 73=some (1,16,some (.string (⟨#[]⟩:ByteArray))):=by kernel_rfl
 apply wC;dsimp only [bf,ah,bA,aZ,aO,fE,bl,ac,bm,dq,ax,bt,ao,ch,bg,bE,bh,bi,aI];unfold TB.back at h;simp only [af,Rf,Rh];refine bU (fun h2=>?_) fun h2=>?_
 ·rw [Rj (.inl h2)] at h;exact h H _ DL (Up.refl _ _)
 refine ⟨_,rfl,_,_,_,l9,bU (fun h3=>?_) fun h3=>?_⟩
 ·rw [Rj (by omega)] at h;exact h H _ DL (Up.refl _ _)
 rw [Re (by omega)] at h;refine ⟨fun w H'=>∃(i:Nat) (a:Option Addr) (l' c:Nat) (G:aB),w=[.slice a l' c,ac i]∧(i:Int)<=n∧bZ 1 H' a l' c (bF (t.texts.take i)) G∧Fr [] H H'∧(∀ x∈G,H.size<=x),fun w _=>match w with
  | [_,.int _ i]=>(n-i).toNat
  | _=>0,⟨0,none,0,0,[],rfl,by omega,by simpa [bF] using bZ.nil 1 H,Fr.refl _ _,by simp⟩,?_⟩
 rintro w H1 ⟨i,a1,l1,c1,G,rfl,hi,ho,hf,hG⟩ _;have tw:=hB.fr hf (by simp);have MT:aj H1 ⟨b,1,none⟩=some (.slice a l c):=tw.cell 1;have Ek:l1=i:=by have:=ho.len;simp only [bF,RZ,R5] at this;omega
 refine ⟨_,_,_,_,rfl,bU (fun an=>?_) fun an=>?_⟩
 ·obtain ⟨p,ap,rfl,al⟩:=(hO.fr hf (by simp)).rd.str (i:=(i:Int)) (by omega) (by omega);simp only [Ro] at al ap;have lp:t.texts.take (i+1)=t.texts.take i++[t.texts[i]]:=by rw [RP];simp [ap]
  have e:IntKind.wrap .i64 ((i:Int)+1)=((i+1:Nat):Int):=by rw [ai (by omega) (by omega)];omega
  refine ⟨_,rfl,_,_,_,MT,⟨by omega,by omega⟩,_,rfl,_,by rw [Ro,Rn];exact al,?_⟩;refine bD hU rfl (by kernel_rfl) ho rfl (by simp [dw]) (by omega) (by decide) (by decide) fun a' c' G2 H2 g1 g2 g3=>⟨_,_,_,rfl,?_⟩;have p5:=Up.fresh hf g2 hG;rw [e];refine ⟨⟨i+1,a',l1+1,c',G2,rfl,by omega,?_,p5.1,p5.2⟩,by simp;omega⟩;rw [lp,dY];exact g1
 ·have D5:i=n.toNat:=by omega
  have JQ:b∉G:=fun hx=>by have:=hG b hx;have:=s8 b (by simp);omega
  refine ⟨_,rfl,tw.wr (by simp),h _ (b :: G) ⟨a1,l1,c1,G,rfl,JQ,tw.set 1 (.slice a1 l1 c1),?_,?_⟩ ⟨(hf.of_nil).step (by simp),fun x hx=>?_⟩⟩
  ·rw [D5] at ho;exact ho.fr (G:=[b]) (Fr.set (by simp)) (fun x hx hn=>JQ (by simp only [Rg] at hn;rw [←hn];exact hx))
  ·exact { hw with len:=by simp;omega,nodup:=hw.nodup.sublist (TL _ _),good:=fun s hs=>hw.good s (Sm hs) }
  ·rcases Rk.1 hx with rfl | hx
   ·exact .inl (by simp)
   ·exact .inr (hG x hx)
end
noncomputable instance memDec (s:ByteArray) (l:List ByteArray):Decidable (s∈l):=Classical.propDecidable _
theorem iY {es:List (Key × Value)}{k:Key}:cT es k=none↔k∉es.map (·.1):=by
 induction es with
 | nil=>simp [cT]
 | cons p l ih =>
  unfold cT;by_cases h:k=p.1
  ·simp [h]
  ·rw [Re h,ih];simp [h]
theorem tI {es:List (Key × Value)} (hnd:(es.map (·.1)).Nodup) (k k':Key):cT (mH es k) k'=if k'=k then none else cT es k':=by
 induction es with
 | nil=>simp [mH,cT]
 | cons p l ih =>
  rw [R6,SE] at hnd;unfold mH;by_cases h:k=p.1
  ·rw [Rj h];by_cases h2:k'=k
   ·rw [Rj h2];rw [iY,h2,h];exact hnd.1
   ·rw [Re h2]
    have:k'≠p.1:=fun e=>h2 (e.trans h.symm)
    conv=>rhs;unfold cT
    rw [Re this]
  ·rw [Re h];unfold cT;by_cases h3:k'=p.1
   ·rw [Rj h3,Rj h3,Re (fun e=>h (e.symm.trans h3))]
   ·rw [Re h3,Re h3];exact ih hnd.2
theorem uX (es:List (Key × Value)) (k:Key):(mH es k).Sublist es:=by
 induction es with
 | nil=>exact TJ _
 | cons p l ih =>
  unfold mH;split
  ·exact List.sublist_cons_self _ _
  ·exact ih.cons_cons _
def mD (H:ae) (b:Nat) (F:aB) (t:TB):Prop:=∃ a l c F' m es,F=b :: m :: F'∧b∉F'∧b≠m∧m∉F'∧bW H b #[ac t.most,.slice a l c,.map (some m)]∧bZ 1 H a l c (bF t.texts) F'∧cR H m es ∧
 (∀ p∈es,p.1.of .string)∧(∀ s,cT es (.str s)=(cL t.texts s).map fun n:Nat=>ac n)∧WFT t∧(es.map (·.1)).Nodup
section
variable {H:ae}{b:Nat}{F F':aB}{t:TB}{Q:QT}
theorem mD.wf (h:mD H b F t):WFT t:=by obtain ⟨_,_,_,_,_,_,_,_,_,_,_,_,_,_,_,h,_⟩:=h;exact h
theorem mD.lt (h:mD H b F t):∀ x∈F,x<H.size:=by
 obtain ⟨a,l,c,F',m,es,rfl,h1,h2,h3,hB,hO,hM,_⟩:=h;intro x hx;rcases Rk.1 hx with rfl | hx
 ·exact hB.lt
 ·rcases Rk.1 hx with rfl | hx
  ·exact hM.lt
  ·exact hO.lt x hx
theorem mD.fr {H':ae}{G:aB} (h:mD H b F t) (hf:Fr G H H') (hd:bL F G):mD H' b F t:=by
 obtain ⟨a,l,c,F',m,es,rfl,h1,h2,h3,hB,hO,hM,h4⟩:=h;exact ⟨a,l,c,F',m,es,rfl,h1,h2,h3,hB.fr hf (hd b (by simp)),hO.fr hf fun x hx=>hd x (by simp [hx]),hM.fr hf (hd m (by simp)),h4⟩
theorem kX (hT:mD H b F t) (h:Q (.bool false) H):ag PP 164 #[Cv b] Q H:=by
 obtain ⟨a,l,c,F',m,es,rfl,h1,h2,h3,hB,_⟩:=hT;have p9:aj H ⟨b,2,none⟩=some (.map (some m)):=hB.cell 2;apply wT;dsimp only [bx,ah,gE,ao,ch];simp only [Rf,Rh];exact ⟨_,rfl,_,p9,h⟩
theorem xl {n:Int} (l8:¬ (0<=n∧n<=4096)->Q (.tuple #[.pointer none,ac 1]) H) (h:(0<=n∧n<=4096)->∀ b F H',mD H' b F ⟨n,[]⟩->Fr [] H H'->(∀ x∈F,H.size<=x)->Q (.tuple #[Cv b,ac 0]) H'):ag PP 24 #[ac n] Q H:=by
 apply AR;dsimp only [bf,ah,bA,aZ,ac,ax,eS,am,bg,az,bn];simp only [af];refine bU (fun h1=>l8 (by omega)) fun h1=>bU (fun h2=>l8 (by omega)) fun h2=>?_;refine h (by omega) _ _ _ ⟨none,0,0,[],H.size,[],rfl,by simp,by simp,by simp,bW.new _ _ _,bZ.nil 1 _,cR.fr (H:=H.push (.map #[] 0)) (G:=[]) (cR.new H) (Fr.push [] _ _) (by simp),by simp,fun s=>by simp [cT,cL],?_,by simp⟩ ((Fr.push [] H _).more) (by simp);exact ⟨by simp;omega,by simp;omega,by simp;omega,by simp,by simp⟩
theorem pR (hT:mD H b F t):∃ a l c m es,aj H ⟨b,0,none⟩=some (ac t.most)∧aj H ⟨b,1,none⟩=some (.slice a l c)∧aj H ⟨b,2,none⟩=some (.map (some m))∧cR H m es∧(∀ p∈es,p.1.of .string)∧(∀ s,cT es (.str s)=(cL t.texts s).map fun n:Nat=>ac n)∧Rd 1 H a l (bF t.texts)∧l=t.texts.length:=by
 obtain ⟨a,l,c,F',m,es,rfl,h1,h2,h3,hB,hO,hM,h4,h5,h6⟩:=hT;exact ⟨a,l,c,m,es,hB.cell 0,hB.cell 1,hB.cell 2,hM,h4,h5,hO.rd,by have:=hO.len;simpa [bF] using this.symm⟩
theorem tM (hT:mD H b F t) (h:Q (ac (t.texts.length:Int)) H):ag PP 118 #[Cv b] Q H:=by
 obtain ⟨a,l,c,m,es,CO,l9,p9,hM,ho,hg,_,hl⟩:=pR hT;apply wk;dsimp only [bK,ah,aO,ac,ao,am];refine kX hT ⟨_,rfl,?_⟩;simp only [Rh];refine ⟨_,rfl,_,_,_,l9,?_⟩;rw [hl];exact h
theorem qp (hT:mD H b F t){n:Int} (h:Q (kK t n) H):ag PP 176 #[Cv b,ac n] Q H:=by
 obtain ⟨a,l,c,m,es,CO,l9,p9,hM,ho,hg,Hv,hl⟩:=pR hT;apply xj;dsimp only [bK,ah,aZ,aO,fE,bl,ac,bm,ao,am,bh,az,bn];unfold kK at h;refine kX hT ⟨_,rfl,?_⟩;simp only [Rh,af];refine bU (fun h2=>?_) fun h2=>?_
 ·rw [dif_neg (by omega)] at h;exact h
 refine ⟨_,rfl,_,_,_,l9,bU (fun h3=>?_) fun h3=>?_⟩
 ·rw [dif_neg (by omega)] at h;exact h
 ·rw [dif_pos (by omega)] at h;obtain ⟨p,ap,rfl,al⟩:=Hv.str (i:=n) (by omega) (by omega);exact ⟨_,rfl,_,_,_,l9,⟨by omega,by omega⟩,_,rfl,_,by rw [Rn];exact al,h⟩
theorem rL (hT:mD H b F t){s:ByteArray} (h:∀ H' F',mD H' b F' (t.add s).2->Up F H F' H'->Q (.tuple #[ac (t.add s).1.1,ac (t.add s).1.2]) H'):ag PP 95 #[Cv b,.string s] Q H:=by
 have DL:=hT;have s8:=hT.lt;have ll:=iN hT.wf s;have Gm:dL PP 167=some (.string,some (ac 0)):=by kernel_rfl
 have hU:aY PP 73=some (1,16,some (.string (⟨#[]⟩:ByteArray))):=by kernel_rfl
 obtain ⟨a,l,c,F',m,es,rfl,h1,h2,h3,hB,hO,hM,ho,hg,hw,hnd⟩:=hT;have CO:aj H ⟨b,0,none⟩=some (ac t.most):=hB.cell 0;have l9:aj H ⟨b,1,none⟩=some (.slice a l c):=hB.cell 1;have p9:aj H ⟨b,2,none⟩=some (.map (some m)):=hB.cell 2;have hl:l=t.texts.length:=by have:=hO.len;simpa [bF] using this.symm
 have DA:=hw.m1;have b8:=hw.len;apply zu;dsimp only [bf,bk,bK,ah,bA,aZ,aM,aO,gE,ac,ax,eS,ao,am,bg,bE,je,bh,bi,kT];refine kX DL ⟨_,rfl,?_⟩;simp only [Rh,af];unfold TB.add at h ll;refine bU (fun g1=>?_) fun g1=>bU (fun g2=>?_) fun g2=>?_
 ·rw [Rj (by unfold cJ;omega)] at h;exact h H _ DL (Up.refl _ _)
 ·rw [Rj (by unfold cJ;omega)] at h;exact h H _ DL (Up.refl _ _)
 have Mo:¬ ¬ cJ s:=by unfold cJ;omega
 rw [Re Mo] at h ll;refine ⟨_,rfl,_,p9,?_⟩;refine gS (k:=.str s) Gm trivial ho hM ?_;rw [hg s];cases hn:cL t.texts s with
 | some n =>
  rw [hn] at h;refine ⟨_,_,rfl,?_⟩;exact h H _ DL (Up.refl _ _)
 | none =>
  rw [hn] at h ll;simp only at h ll;refine ⟨_,_,rfl,?_⟩;simp only [S1,SZ,Rh];refine ⟨_,rfl,_,_,_,l9,_,rfl,_,CO,bU (fun g3=>?_) fun g3=>?_⟩
  ·rw [Rj (by omega)] at h;exact h H _ DL (Up.refl _ _)
  ·rw [Re (by omega)] at h ll;refine ⟨_,rfl,_,_,_,l9,?_⟩;refine bD hU rfl (by kernel_rfl) hO rfl (by simp [dw]) (by omega) (by decide) (by decide) fun a' c' F3 H2 k1 k2 k3=>⟨_,_,_,rfl,?_⟩;have At:b∉F3:=fun hx=>by
    rcases k2.2 b hx with h4 | h4
    ·exact h1 h4
    ·have:=s8 b (by simp);omega
   have JX:m∉F3:=fun hx=>by
    rcases k2.2 m hx with h4 | h4
    ·exact h3 h4
    ·have:=s8 m (by simp);omega
   have An:=hB.fr k2.1 h1;have JW:=An.set 1 (.slice a' (l+1) c');have PQ:=(hM.fr k2.1 h3).of_eq (H':=bc H2 ⟨b,1,none⟩ (.slice a' (l+1) c')) (cV (S4 h2));refine ⟨_,rfl,An.wr (by simp),_,rfl,_,JW.cell 2,?_⟩;refine co (k:=.str s) Gm trivial ho PQ fun H4 EX p3=>?_;rw [hl];have w7:Fr [b] H2 (bc H2 ⟨b,1,none⟩ (.slice a' (l+1) c')):=Fr.set (by simp);refine h H4 (b :: m :: F3) ⟨a',l+1,c',F3,m,_,rfl,At,h2,JX,JW.fr p3 (by simpa using h2),?_,EX,?_,fun x=>?_,ll,?_⟩ ⟨?_,fun x hx=>?_⟩
   ·have h5:=(k1.fr w7 (fun x hx hn=>At (by simp only [Rg] at hn;rw [←hn];exact hx))).fr p3 (fun x hx hn=>JX (by simp only [Rg] at hn;rw [←hn];exact hx));simp only;rw [dY];exact h5
   ·intro p hp
    have:∀ (es:List (Key × Value)),(∀ p∈es,p.1.of .string)->∀ p∈iC es (.str s) (ac (t.texts.length:Int)),p.1.of .string:=by
     intro es
     induction es with
     | nil=>intro _ p hp;simp [iC] at hp;subst hp;trivial
     | cons q es ih =>
      intro FM p hp;unfold iC at hp;split at hp
      ·rcases Rk.1 hp with rfl | hp
       ·trivial
       ·exact FM p (by simp [hp])
      ·rcases Rk.1 hp with rfl | hp
       ·exact FM _ (by simp)
       ·exact ih (fun p hp=>FM p (by simp [hp])) p hp
    rw [hl] at hp;exact this es ho p hp
   ·rw [fk,hg x,ox];by_cases hx:x=s
    ·subst hx;rw [hn];simp [hl]
    ·rw [Re (by simpa using hx)];cases cL t.texts x with
     | some n=>rfl
     | none=>simp only;rw [Re (fun e:s=x=>hx e.symm)]
   ·have Hw:cT es (.str s)=none:=by rw [hg s,hn];rfl
    rw [iK (eE.2 Hw),Su,SC];refine ⟨hnd,by simp,fun x hx y hy PR=>?_⟩;simp only [R6,S0,Rg] at hy;subst hy;subst PR;exact (iY.1 Hw) hx
   ·exact ((k2.1.mono fun x hx=>by simp [hx]).step (by simp)).trans (p3.mono fun x hx=>by simp only [Rg] at hx;simp [hx])
   ·rcases Rk.1 hx with rfl | hx
    ·exact .inl (by simp)
    ·rcases Rk.1 hx with rfl | hx
     ·exact .inl (by simp)
     ·exact (k2.2 x hx).imp (fun h4=>by simp [h4]) id
theorem qU {l:List ByteArray} (hnd:l.Nodup) (n:Nat) (s:ByteArray):cL (l.take n) s=if s∈l.drop n then none else cL l s:=by
 induction l generalizing n with
 | nil=>simp [cL]
 | cons x l ih =>
  rw [SE] at hnd;cases n with
  | zero =>
   simp only [List.take_zero,List.drop_zero,cL];by_cases h:s∈x :: l
   ·rw [Rj h]
   ·rw [Re h];have h1:x≠s:=fun e=>h (by simp [e]);have h2:cL l s=none:=gN.2 fun hm=>h (by simp [hm]);rw [Re h1,h2];rfl
  | succ n =>
   simp only [List.take_succ_cons,List.drop_succ_cons,cL];by_cases h1:x=s
   ·subst h1
    have:x∉l.drop n:=fun hm=>hnd.1 (List.mem_of_mem_drop hm);simp [this]
   ·rw [Re h1,Re h1,ih hnd.2];split <;> rfl
theorem t6 (hT:mD H b F t){n:Int} (h:∀ H',mD H' b F (TB.back t n).2->Fr F H H'->Q (ac (TB.back t n).1) H'):ag PP 124 #[Cv b,ac n] Q H:=by
 have DL:=hT;have s8:=hT.lt;have Gm:dL PP 167=some (.string,some (ac 0)):=by kernel_rfl
 obtain ⟨a,l,c,F',m,es,rfl,h1,h2,h3,hB,hO,hM,ho,hg,hw,hnd⟩:=hT;have l9:aj H ⟨b,1,none⟩=some (.slice a l c):=hB.cell 1;have hl:l=t.texts.length:=by have:=hO.len;simpa [bF] using this.symm
 have DA:=hw.m1;have b8:=hw.len;have HU:=hO.2.1;apply xq;dsimp only [mJ,bK,ah,bA,aZ,aO,gE,fE,bl,ac,bm,ce,ax,bt,eS,ao,am,bh,bi,aI];unfold TB.back at h;refine kX DL ⟨_,rfl,?_⟩;simp only [Rh,af];refine ba (fun g1=>?_) fun g1=>?_
 ·rw [Rj (.inl g1)] at h;exact h H DL (Fr.refl _ _)
 refine ⟨_,rfl,_,_,_,by rw [ak];exact l9,ba (fun g2=>?_) fun g2=>?_⟩
 ·rw [Rj (by omega)] at h;exact h H DL (Fr.refl _ _)
 rw [Re (by omega)] at h;have e1:IntKind.wrap .i64 ((l:Int)-n)=(l:Int)-n:=ai (by omega) (by omega);refine ⟨_,rfl,_,_,_,by rw [ak];exact l9,?_⟩;rw [e1];refine ⟨fun w H'=>∃(i:Nat) (es':List (Key × Value)),w=[ac i]∧(i:Int)<=(l:Int)-n∧Fr [m] H H'∧cR H' m es'∧es'.Sublist es∧∀ s,cT es' (.str s)=if s∈(t.texts.drop n.toNat).take i then none else cT es (.str s),fun w _=>match w with
  | [.int _ i]=>((l:Int)-n-i).toNat
  | _=>0,⟨0,es,rfl,by omega,Fr.refl _ _,hM,TJ _,by simp⟩,?_⟩
 rintro w H1 ⟨i,es',rfl,hi,hf,Ox,b9,IP⟩ _;have tw:=hB.fr hf (by simpa using h2);have JY:=hO.fr hf (fun x hx hm=>h3 (by simp only [Rg] at hm;rw [←hm];exact hx));refine ⟨_,rfl,ba (fun g3=>?_) fun g3=>?_⟩
 ·have e2:IntKind.wrap .i64 (n+(i:Int))=n+i:=ai (by omega) (by omega);have e3:IntKind.wrap .i64 ((i:Int)+1)=((i+1:Nat):Int):=by rw [ai (by omega) (by omega)];omega
  rw [e2,e3];obtain ⟨p,ap,rfl,al⟩:=JY.rd.str (i:=n+(i:Int)) (by omega) (by omega);refine ⟨_,rfl,_,by rw [ak];exact tw.cell 2,_,rfl,_,_,_,by rw [ak];exact tw.cell 1,⟨by omega,by omega⟩,_,rfl,_,by rw [Rn];exact al,?_⟩;have Il:(es'.map (·.1)).Nodup:=hnd.sublist (b9.map _);refine rq (k:=.str t.texts[(n+(i:Int)).toNat]) Gm trivial (fun p hp=>ho p (b9.subset hp)) Ox fun H2 EU g9=>⟨trivial,⟨i+1,_,rfl,by omega,hf.trans g9,EU,(uX _ _).trans b9,fun s=>?_⟩,by simp;omega⟩;have Hl:i<(t.texts.drop n.toNat).length:=by rw [Tp];omega
  have lp:(t.texts.drop n.toNat).take (i+1)=(t.texts.drop n.toNat).take i++[t.texts[(n+(i:Int)).toNat]]:=by
   rw [To Hl,List.getElem_drop]
   congr 3;omega
  rw [tI Il,IP,lp];by_cases hs:s=t.texts[(n+(i:Int)).toNat]
  ·rw [Rj (by rw [hs]),Rj (by rw [hs];simp)]
  ·rw [Re (by simpa using hs)];simp only [Rl,Rg,hs,Sx]
 ·have D5:(i:Int)=(l:Int)-n:=by omega
  have lp:(t.texts.drop n.toNat).take i=t.texts.drop n.toNat:=RJ (by rw [Tp];omega);rw [lp] at IP;refine ⟨_,rfl,_,_,_,by rw [ak];exact tw.cell 1,⟨by omega,by omega⟩,_,rfl,by rw [ak];exact tw.wr (by simp),?_⟩;rw [ak];have w7:Fr [b] H1 (bc H1 ⟨b,1,none⟩ (.slice a n.toNat c)):=Fr.set (by simp);refine h _ ⟨a,n.toNat,c,F',m,es',rfl,h1,h2,h3,tw.set 1 _,?_,Ox.fr w7 (by simpa using S4 h2),fun p hp=>ho p (b9.subset hp),fun s=>?_,?_,hnd.sublist (b9.map _)⟩ ((hf.mono fun x hx=>by simp only [Rg] at hx;simp [hx]).trans (w7.mono fun x hx=>by simp only [Rg] at hx;simp [hx]))
  ·have h4:=JY.fr w7 (fun x hx hm=>h1 (by simp only [Rg] at hm;rw [←hm];exact hx));refine ⟨by simp [bF];omega,by omega,?_⟩;rcases h4.2.2 with ⟨h6,h7,h8⟩ | ⟨b',cs,h6,h7,h8,h9,JV⟩
   ·exact .inl ⟨h6,h7,h8⟩
   ·refine .inr ⟨b',cs,h6,h7,h8,h9,?_⟩;have GU:(cs.toList.take (l*1)).take (n.toNat*1)=(bF t.texts).take (n.toNat*1):=by rw [JV]
    rw [List.take_take] at GU;have Gq:min (n.toNat*1) (l*1)=n.toNat*1:=by omega
    rw [Gq] at GU;rw [GU];simp [bF,List.map_take]
  ·rw [IP s,qU hw.nodup,hg s];split <;> rfl
  ·exact { hw with len:=by simp;omega,nodup:=hw.nodup.sublist (TL _ _),good:=fun s hs=>hw.good s (Sm hs) }
end
section
variable {Q:QT}{H:ae}
variable {a b c d A B D P:Option Addr}{i j k m n x y z I J K M N:Int}{l o r s u v L O R S U V:Nat}{t w T W:ByteArray}{e E g:Bool}{q:Option Nat}{p X Y Z:Value}{F G:Addr}
theorem BB (h:dU 23 #[ac i,ac j] H fun a b c=>az (am none) fun d=>ah (b != 0) (Q (bn #[d,ac b]) c) (dU 24 #[ac 4096] c fun b c e=>ah (c != 0) (Q (bn #[d,ac c]) e) (az (ac 0) fun c=>az (am a) fun a=>az (bg e #[a,am b] 70) fun b=>cG 25 #[] (bg b #[ac 5,c,ac 6,c,ac 7,c] 71) fun _ f _ g=>dq [ax (some (bf b.size)) 3 3,c] g fun b g i j k l m n=>az (some (bf j.size)) fun o=>ah (aZ n (f:Int)) (bE (Builtin.append_ #[72,72] 72 #[ax k l m,ax o 1 1]) (bg j #[ac 12,ac 7] 71) fun a c d e=>bt b g [ax a c d,ac (aI (n+1))] e i j) (bE (Builtin.append_ #[72,72] 72 #[ax k l m,ax o 3 3]) (bg j #[ac 11,c,ac 11,ac 8,ac 11,ac 14] 71) fun b f _ g=>ce [c] g fun g i j k l=>ah (aZ l (f:Int)) (bm l f b fun b=>aM k (bl b l 2) fun e=>aM k ((bl b l 2).add 1) fun b=>az (bf k.size) fun f=>bi (bg k #[c,c] 71) f (ac e) fun e=>az (ci k.size 1) fun m=>bi e m (ac b) fun b=>aM b f fun e=>aM b m fun n=>dB 13 #[a] b fun b o=>((aj o m=some (ac n)∧True)∧(aj o f=some (ac e)∧True)∧True)∧aH 27 #[ac e] o fun e f=>((aj f m=some (ac n)∧True)∧True)∧aA 26 #[am b,ac e,ac n,c] f fun b c e=>True∧ah (c != 0) (Q (bn #[d,ac c]) e) (aH 27 #[ac b] e fun b c=>aH 11 #[a,ax (some (bf c.size)) 1 1] (bg c #[ac b] 31) fun a b=>ah (a != 0) (Q (bn #[d,ac a]) b) (bt g i [ac (aI (l+1))] b j k))) (az (am (some (bf e.size))) fun b=>eH 28 #[b] k fun d=>aH 29 #[a,ac 19] d fun _ d=>aH 30 #[a,ac (f:Int)] d fun _ a=>Q (bn #[b,c]) a))))):ag PP 4 #[ac i,ac j] Q H :=
 okL Tryz.func4 rfl (fun | 10=>some [(10,72),(41,3)] | 15=>some [(56,3)] | _=>none) h
theorem BE (h:ah (ch a) (Q (am none) H) (ao a fun a=>aQ H a fun a=>Q (am a) H)):ag PP 8 #[.pointer a] Q H :=
 okF Tryz.func8 rfl h
theorem AK (h:az (am a) fun a=>bK 56 #[a] H fun b c=>ah (!b) (Q (ac 2) c) (bK 57 #[bh t,.int .u8 65,.int .u8 90] c fun b c=>ah (!b) (Q (ac 133) c) (bK 58 #[a,bh t] c fun b c=>ah b (Q (ac 131) c) (cG 59 #[a] c fun _ b _ c=>ah (decide ((b:Int)≥256)) (Q (ac 138) c) (dB 60 #[a] c fun a b=>az (am a) fun c=>aA 61 #[c,bh t] b fun b d e=>ah (d == 0) (ao a fun d=>aQ e d fun f=>ao a fun g=>aQ e g fun g=>aH 64 #[dO #[am g],ac 1] e fun e g=>((aj g d=some (am f)∧True)∧True)∧cG 63 #[dO #[am f],ac e] g fun d e f g=>True∧aH 27 #[ac 1] g fun g i=>True∧True∧bE (Builtin.append_ #[44,44] 44 #[ax d e f,ax (some (bf i.size)) 2 2]) (bg i #[ac b,ac g] 31) fun b d e f=>True∧aA 62 #[c,ax b d e] f fun b d e=>True∧ah (d == 0) (ao a fun a=>aQ e a fun a=>ao a fun a=>aQ e a fun a=>aH 65 #[am a,ac 1,ac b] e fun _ a=>aH 66 #[c,ac d] a fun a b=>Q (ac a) b) (aH 66 #[c,ac d] e fun a b=>Q (ac a) b)) (aH 66 #[c,ac d] e fun a b=>Q (ac a) b)))))):ag PP 17 #[.pointer a,.string t] Q H :=
 okF Tryz.func17 rfl h
theorem zb (h:aA 77 #[am a,ac i] H fun _ b c=>ah (b != 0) (Q (ac b) c) (aH 50 #[ac j] c fun b c=>ah (b == 0) (Q (ac 10) c) (ao a fun b=>aQ c b fun b=>dB 13 #[am b] c fun b c=>aH 64 #[dO #[am a],ac 1] c fun a c=>aH 14 #[am b,ac a,ac (aI (aI (2*i)+1)),ac j] c fun a b=>Q (ac a) b))):ag PP 19 #[.pointer a,ac i,ac j] Q H :=
 okF Tryz.func19 rfl h
theorem zY (h:ao a fun b=>aQ H b fun b=>dB 13 #[am b] H fun b c=>cG 25 #[] c fun c d _ e=>ce [ac 0] e fun e f g i j=>az (ac 18) fun k=>ah (aZ j (d:Int)) (bm j d c fun c=>fE i (bl c j 1) fun c=>ao a fun a=>aQ i (a.add 1) fun a=>aA 95 #[am a,bh c] i fun a _ c=>aA 96 #[ac a] c fun a _ c=>aH 27 #[ac 4] c fun c d=>vw (fun a=>ah (j == 0) (aH 27 #[ac 1] d fun b c=>a [ac b] c) (a [ac c] d)) fun c d=>aH 27 #[k] d fun d l=>aH 27 #[k] l fun l m=>aH 27 #[k] m fun k m=>aH 97 #[ac 0] m fun m n=>az (ac (aI (j+1))) fun o=>aH 97 #[o] n fun n p=>ce [ac 0] (bg p #[ac a,ac c,ac d,ac l,ac k,ac m,ac n] 31) fun a c d k l=>az (ac (aI (4+j))) fun m=>ah (aZ l 7) (bm l 7 (some (bf p.size)) fun e=>aM k (bl e l 1) fun e=>aH 14 #[am b,m,ac l,ac e] k fun _ b=>bt a c [ac (aI (l+1))] b d k) (aH 27 #[m] k fun a c=>aH 14 #[am b,ac 20,ac j,ac a] c fun _ a=>bt e f [o] a g i)) (ce [ac 0] (bg i #[ac 20,k,k,k,ac 1,ac 2,ac 3] 3) fun a c d e f=>ah (aZ f 7) (bm f 7 (some (bf i.size)) fun g=>aM e (bl g f 1) fun g=>aH 27 #[ac g] e fun g i=>aH 14 #[am b,ac 19,ac f,ac g] i fun _ b=>bt a c [ac (aI (f+1))] b d e) (Q (bn #[]) e))):ag PP 28 #[.pointer a] Q H :=
 okL Tryz.func28 rfl (fun | 2=>some [(21,3)] | 1009=>some [(9,31)] | 10=>some [(55,3)] | 17=>some [(76,3)] | _=>none) h
theorem z7 (h:ah (!(ch a)) (ao a fun a=>aQ H a fun a=>Q (bx (!(ch a))) H) (Q (bx false) H)):ag PP 56 #[.pointer a] Q H :=
 okF Tryz.func56 rfl h
theorem A2 (h:aA 114 #[am a,bh t] H fun _ b c=>ah (b == 0) (Q (bx true) c) (cG 59 #[am a] c fun a b c d=>bK 115 #[ax a b c,bh t] d fun a b=>Q (bx a) b)):ag PP 58 #[.pointer a,.string t] Q H :=
 okF Tryz.func58 rfl h
theorem zr (h:bK 56 #[am a] H fun b c=>ah (!b) (Q (ax none 0 0) c) (az (bf c.size) fun b=>bi (bg c #[am none] 125) b (am a) fun a=>aQ a b fun c=>aH 64 #[dO #[am c],ac 1] a fun a c=>aQ c b fun d=>aH 116 #[dO #[am d],ac a] c fun c d=>dq [ax none 0 0,ac 0] d fun d e f g i j k l=>ah (aZ l (aI (Int.tdiv c 2))) (aQ g b fun b=>cB 117 #[dO #[am b],ac a,ac (aI (2*l))] g fun a b=>bE (Builtin.append_ #[73,73] 73 #[ax i j k,ax (some (bf b.size)) 1 1]) (bg b #[bh a] 9) fun a b c i=>bt d e [ax a b c,ac (aI (l+1))] i f g) (Q (ax i j k) g))):ag PP 59 #[.pointer a] Q H :=
 okL Tryz.func59 rfl (fun | 7=>some [(5,73),(18,3)] | _=>none) h
theorem zy (h:ao a fun b=>aQ H (b.add 1) fun b=>ao a fun c=>aQ H c fun d=>ao a fun e=>aQ H e fun f=>aH 118 #[am b] H fun b g=>az (some (am f)) fun i=>((aj g e=i∧True)∧(aj g c=some (am d)∧True)∧True)∧dB 13 #[am d] g fun c d=>((aj d e=i∧True)∧True)∧aH 119 #[am c] d fun c d=>((aj d e=i∧True)∧True)∧cG 120 #[am f] d fun _ d _ e=>True∧True∧Q (am (some (bf e.size))) (bg e #[am a,ac b,ac c,ac (d:Int)] 127)):ag PP 60 #[.pointer a] Q H :=
 okF Tryz.func60 rfl h
theorem Aq (h:ao a fun a=>aQ H a fun a=>ao a fun a=>aQ H (a.add 1) fun a=>aA 95 #[am a,bh t] H fun a b c=>ah (b != 0) (Q (bk 0 b) c) (aA 96 #[ac a] c fun a b c=>Q (bk a b) c)):ag PP 61 #[.pointer a,.string t] Q H :=
 okF Tryz.func61 rfl h
theorem yV (h:ah ((l:Int) == 0) (aH 27 #[ac 18] H fun a b=>Q (bk a 0) b) (aA 121 #[am a,ac 11,ax b l o] H fun a b c=>Q (bk a b) c)):ag PP 62 #[.pointer a,.slice b l o] Q H :=
 okF Tryz.func62 rfl h
theorem zM (h:az (bg H #[am a] 125) fun a=>aQ a (bf H.size) fun b=>aH 116 #[dO #[am b],ac i] a fun a b=>dq [ax none 0 0,ac 0] b fun b c d e f g j k=>ah (aZ k a) (aQ e (bf H.size) fun a=>aH 122 #[dO #[am a],ac i,ac k] e fun a i=>bE (Builtin.append_ #[44,44] 44 #[ax f g j,ax (some (bf i.size)) 1 1]) (bg i #[ac a] 31) fun a f g i=>bt b c [ax a f g,ac (aI (k+1))] i d e) (Q (ax f g j) e)):ag PP 63 #[.agg #[.pointer a],ac i] Q H :=
 okL Tryz.func63 rfl (fun | 3=>some [(5,44),(10,3)] | _=>none) h
theorem zP (h:az (bg H #[am a] 125) fun a=>aQ a (bf H.size) fun b=>aH 123 #[dO #[am b],ac 19,ac i] a fun a b=>Q (ac a) b):ag PP 64 #[.agg #[.pointer a],ac i] Q H :=
 okF Tryz.func64 rfl h
theorem AH (h:ao a fun b=>aQ H b fun b=>ao b fun b=>aQ H b fun b=>ao a fun c=>aM H (c.add 3) fun d=>cG 120 #[am b] H fun _ e _ f=>((aj f (c.add 3)=some (ac d)∧True)∧True)∧aH 30 #[am b,ac (aI ((e:Int)-d))] f fun _ c=>True∧ah (i == 0) (Q (ac i) c) (ao a fun d=>aQ c d fun d=>ao d fun d=>aQ c (d.add 1) fun d=>ao a fun e=>aM c (e.add 1) fun e=>aH 124 #[am d,ac e] c fun _ c=>True∧ah (i != 24) (ao a fun a=>aM c (a.add 2) fun d=>dB 13 #[am b] c fun b c=>((aj c (a.add 2)=some (ac d)∧True)∧True)∧aH 125 #[am b,ac d] c fun _ a=>True∧Q (ac i) a) (Q (ac i) c))):ag PP 66 #[.pointer a,ac i] Q H :=
 okF Tryz.func66 rfl h
theorem y9 (h:bK 56 #[am a] H fun b c=>ah (!b) (Q (bk 0 2) c) (az (bf c.size) fun b=>bi (bg c #[am none] 125) b (am a) fun a=>aQ a b fun c=>aH 64 #[dO #[am c],ac 1] a fun a c=>ah (aZ i 0) (Q (bk 0 1) c) (aQ c b fun d=>aH 116 #[dO #[am d],ac a] c fun c d=>ah (decide (i≥aI (Int.tdiv c 2))) (Q (bk 0 1) d) (aQ d b fun b=>aH 122 #[dO #[am b],ac a,ac (aI (aI (2*i)+1))] d fun a b=>Q (bk a 0) b)))):ag PP 77 #[.pointer a,ac i] Q H :=
 okF Tryz.func77 rfl h
theorem xi (h:bK 56 #[am a] H fun b c=>ah (!b) (Q (bk 0 2) c) (az (bf c.size) fun b=>bi (bg c #[am none] 125) b (am a) fun a=>aQ a b fun c=>aH 64 #[dO #[am c],ac 0] a fun a c=>aQ c b fun d=>aH 116 #[dO #[am d],ac a] c fun c d=>ce [ac 0] d fun d e f g i=>ah (aZ i c) (aQ g b fun c=>aH 123 #[dO #[am c],ac a,ac i] g fun a c=>aQ c b fun b=>cB 117 #[dO #[am b],ac a,ac 0] c fun b c=>ah (iV b t) (Q (bk a 0) c) (bt d e [ac (aI (i+1))] c f g)) (Q (bk 0 130) g))):ag PP 114 #[.pointer a,.string t] Q H :=
 okL Tryz.func114 rfl (fun | 6=>some [(20,3)] | _=>none) h
theorem xp (h:az (bg H #[am a] 125) fun a=>aQ a (bf H.size) fun b=>ao b fun b=>aQ a b fun b=>dB 13 #[am b] a fun a b=>cd 174 #[am a,ac i] b fun a _ _ b=>Q (ac a) b):ag PP 116 #[.agg #[.pointer a],ac i] Q H :=
 okF Tryz.func116 rfl h
theorem yl (h:az (bg H #[am a] 125) fun a=>aQ a (bf H.size) fun b=>aH 122 #[dO #[am b],ac i,ac j] a fun a b=>aA 175 #[ac a] b fun a b c=>ah (b != 0) (Q (bh (⟨#[]⟩:ByteArray)) c) (aQ c (bf H.size) fun b=>ao b fun b=>aQ c (b.add 1) fun b=>dV 176 #[am b,ac a] c fun a _ b=>Q (bh a) b)):ag PP 117 #[.agg #[.pointer a],ac i,ac j] Q H :=
 okF Tryz.func117 rfl h
theorem wx (h:ao a fun c=>aQ H c fun d=>ao d fun e=>aQ H e fun f=>aH 27 #[ac i] H fun g i=>((aj i e=some (am f)∧True)∧(aj i c=some (am d)∧True)∧True)∧aA 9 #[am f,ac g,ac (l:Int),ac 0] i fun c d e=>True∧ah (d != 0) (Q (bk 0 d) e) (aA 147 #[ac c] e fun d _ e=>ce [ac 0] e fun e f g i j=>ah (aZ j (l:Int)) (bm j l b fun b=>aM i (bl b j 1) fun b=>ao a fun a=>aQ i a fun a=>ao a fun a=>aQ i a fun a=>dB 13 #[am a] i fun a c=>aH 14 #[am a,ac d,ac j,ac b] c fun _ a=>bt e f [ac (aI (j+1))] a g i) (ao a fun a=>aQ i a fun a=>ao a fun a=>aQ i a fun a=>aH 11 #[am a,ax (some (bf i.size)) 1 1] (bg i #[ac c] 31) fun a b=>Q (bk c a) b))):ag PP 121 #[.pointer a,ac i,.slice b l o] Q H :=
 okL Tryz.func121 rfl (fun | 6=>some [(40,3)] | _=>none) h
theorem xD (h:az (bg H #[am a] 125) fun a=>aQ a (bf H.size) fun b=>ao b fun b=>aQ a b fun b=>dB 13 #[am b] a fun a b=>aA 179 #[am a,ac i,ac j] b fun a _ b=>Q (ac a) b):ag PP 122 #[.agg #[.pointer a],ac i,ac j] Q H :=
 okF Tryz.func122 rfl h
theorem xJ (h:az (bg H #[am a] 125) fun a=>aQ a (bf H.size) fun b=>aH 122 #[dO #[am b],ac i,ac j] a fun a b=>aA 147 #[ac a] b fun a _ b=>Q (ac a) b):ag PP 123 #[.agg #[.pointer a],ac i,ac j] Q H :=
 okF Tryz.func123 rfl h
theorem wN (h:bK 56 #[am a] H fun b c=>ah (!b) (Q (bk 0 2) c) (aH 50 #[ac i] c fun b c=>ah (b == 1) (Q (bk 8 0) c) (ah (b == 2) (Q (bk 9 0) c) (ah (b == 3) (aA 147 #[ac i] c fun b _ c=>ao a fun a=>aQ c a fun a=>dB 13 #[am a] c fun a c=>aA 98 #[am a,ac b] c fun a b c=>ah (b != 0) (Q (bk 0 b) c) (aA 147 #[ac a] c fun a b c=>Q (bk a b) c)) (Q (bk 0 10) c))))):ag PP 186 #[.pointer a,ac i] Q H :=
 okF Tryz.func186 rfl h
theorem vT (h:ah (ch a) (Q (am none) H) (ao a fun a=>aQ H (a.add 1) fun a=>Q (am a) H)):ag PP 190 #[.pointer a] Q H :=
 okF Tryz.func190 rfl h
end
theorem xI {H:ae}{x v:Value}{t:TypeId}{fr:Nat × Nat}:bc (H.push (.cells #[x] t fr)) ⟨H.size,0,none⟩ v=H.push (.cells #[v] t fr):=by
 rw [av];rfl
theorem Fr.late {H H2:ae} (h:Fr [] H H2){b o:Nat}{v:Value} (hb:H.size<=b):Fr [] H (bc H2 ⟨b,o,none⟩ v) :=
 ⟨Rr h.1 (Fr.set (F:=[b]) (H:=H2) (a:=⟨b,o,none⟩) (v:=v) (by simp)).1,fun c hc _=>by rw [cV (by simp only;omega)];exact h.2 c hc (by simp)⟩
def PK (H:ae) (b:Nat) (F:aB) (s:SP) (t:TB):Prop:=∃ sb tb F1 F2,F=b :: (F1++F2)∧b∉F1∧b∉F2∧bL F1 F2∧b≠aP∧aP∉F2 ∧
 bW H b #[Cv sb,Cv tb]∧fO H sb F1 s∧mD H tb F2 t
theorem PK.lt {H:ae}{b:Nat}{F:aB}{s:SP}{t:TB} (h:PK H b F s t):∀ x∈F,x<H.size:=by
 obtain ⟨sb,tb,F1,F2,rfl,h1,h2,h3,k1,k2,hB,hS,hT⟩:=h;intro x hx;rcases Rk.1 hx with rfl | hx
 ·exact hB.lt
 ·rcases Rl.1 hx with hx | hx
  ·exact hS.lt x hx
  ·exact hT.lt x hx
theorem PK.bmem {H:ae}{b:Nat}{F:aB}{s:SP}{t:TB} (h:PK H b F s t):b∈F:=by obtain ⟨_,_,_,_,rfl,_⟩:=h;simp
theorem PK.kinds {H:ae}{b:Nat}{F:aB}{s:SP}{t:TB} (h:PK H b F s t):dG H:=by obtain ⟨_,_,_,_,_,_,_,_,_,_,_,hS,_⟩:=h;exact hS.kinds
theorem PK.gk {H:ae}{b:Nat}{F:aB}{s:SP}{t:TB} (h:PK H b F s t):aP∉F:=by
 obtain ⟨sb,tb,F1,F2,rfl,h1,h2,h3,k1,k2,hB,hS,hT⟩:=h;simp only [Rk,Rl,Ta];exact ⟨fun e=>k1 e.symm,hS.gk,k2⟩
theorem PK.fr {H H':ae}{b:Nat}{F G:aB}{s:SP}{t:TB} (h:PK H b F s t) (hf:Fr G H H') (hd:bL F G) (hg:aP∉G):PK H' b F s t:=by
 obtain ⟨sb,tb,F1,F2,rfl,h1,h2,h3,k1,k2,hB,hS,hT⟩:=h;exact ⟨sb,tb,F1,F2,rfl,h1,h2,h3,k1,k2,hB.fr hf (hd b (by simp)),hS.fr hf (hd.mono (fun x hx=>by simp [hx]) fun _ h=>h) hg,hT.fr hf (hd.mono (fun x hx=>by simp [hx]) fun _ h=>h)⟩
theorem PK.nil {H H':ae}{b:Nat}{F:aB}{s:SP}{t:TB} (h:PK H b F s t) (hf:Fr [] H H'):PK H' b F s t:=h.fr hf (bL.nil_right _) (by simp)
theorem PK.wfs {H:ae}{b:Nat}{F:aB}{s:SP}{t:TB} (h:PK H b F s t):WFS s:=by obtain ⟨_,_,_,_,_,_,_,_,_,_,_,hS,_⟩:=h;exact hS.wf
theorem PK.wft {H:ae}{b:Nat}{F:aB}{s:SP}{t:TB} (h:PK H b F s t):WFT t:=by obtain ⟨_,_,_,_,_,_,_,_,_,_,_,_,hT⟩:=h;exact hT.wf
theorem PK.sp {H:ae}{b:Nat}{F:aB}{s:SP}{t:TB} (h:PK H b F s t):∃ sb F1,aj H ⟨b,0,none⟩=some (Cv sb)∧fO H sb F1 s∧(∀ x∈F1,x∈F)∧b∉F1 ∧
  (∀ H' F1' s',fO H' sb F1' s'->Up F1 H F1' H'->∃ F',PK H' b F' s' t∧Up F H F' H')∧(∀ H' s',fO H' sb F1 s'->Fr F1 H H'->PK H' b F s' t):=by
 have an:=h.lt;have D8:=h.kinds.lt;obtain ⟨sb,tb,F1,F2,rfl,h1,h2,h3,k1,k2,hB,hS,hT⟩:=h;refine ⟨sb,F1,hB.cell 0,hS,fun x hx=>by simp [hx],h1,fun H' F1' s' GV hu=>⟨b :: (F1'++F2),⟨sb,tb,F1',F2,rfl,fun hx=>?_,h2,fun x hx s7=>?_,k1,k2,hB.fr hu.1 h1,GV,hT.fr hu.1 h3.symm⟩,hu.1.mono fun x hx=>by simp [hx],fun x hx=>?_⟩,fun H' s' GV hf=>⟨sb,tb,F1,F2,rfl,h1,h2,h3,k1,k2,hB.fr hf h1,GV,hT.fr hf h3.symm⟩⟩
 ·rcases hu.2 b hx with h4 | h4
  ·exact h1 h4
  ·have:=an b (by simp);omega
 ·rcases hu.2 x hx with h4 | h4
  ·exact h3 x h4 s7
  ·have:=an x (by simp [s7]);omega
 ·rcases Rk.1 hx with rfl | hx
  ·exact .inl (by simp)
  ·rcases Rl.1 hx with hx | hx
   ·exact (hu.2 x hx).imp (fun h4=>by simp [h4]) id
   ·exact .inl (by simp [hx])
theorem PK.tb {H:ae}{b:Nat}{F:aB}{s:SP}{t:TB} (h:PK H b F s t):∃ tb F2,aj H ⟨b,1,none⟩=some (Cv tb)∧mD H tb F2 t∧(∀ x∈F2,x∈F)∧b∉F2 ∧
  (∀ H' F2' t',mD H' tb F2' t'->Up F2 H F2' H'->∃ F',PK H' b F' s t'∧Up F H F' H')∧(∀ H' t',mD H' tb F2 t'->Fr F2 H H'->PK H' b F s t'):=by
 have an:=h.lt;have D8:=h.kinds.lt;obtain ⟨sb,tb,F1,F2,rfl,h1,h2,h3,k1,k2,hB,hS,hT⟩:=h;have PS:=hS.gk;refine ⟨tb,F2,hB.cell 1,hT,fun x hx=>by simp [hx],h2,fun H' F2' t' IW hu=>⟨b :: (F1++F2'),⟨sb,tb,F1,F2',rfl,h1,fun hx=>?_,fun x hx s7=>?_,k1,fun hx=>?_,hB.fr hu.1 h2,hS.fr hu.1 h3 k2,IW⟩,hu.1.mono fun x hx=>by simp [hx],fun x hx=>?_⟩,fun H' t' IW hf=>⟨sb,tb,F1,F2,rfl,h1,h2,h3,k1,k2,hB.fr hf h2,hS.fr hf h3 k2,IW⟩⟩
 ·rcases hu.2 b hx with h4 | h4
  ·exact h2 h4
  ·have:=an b (by simp);omega
 ·rcases hu.2 x s7 with h4 | h4
  ·exact h3 x hx h4
  ·have:=an x (by simp [hx]);omega
 ·rcases hu.2 _ hx with h4 | h4
  ·exact k2 h4
  ·omega
 ·rcases Rk.1 hx with rfl | hx
  ·exact .inl (by simp)
  ·rcases Rl.1 hx with hx | hx
   ·exact .inl (by simp [hx])
   ·exact (hu.2 x hx).imp (fun h4=>by simp [h4]) id
abbrev rd (b:Nat):Value:=.agg #[Cv b]
section
variable {H:ae}{b:Nat}{F:aB}{s:SP}{t:TB}{Q:QT}
theorem ju (hK:PK H b F s t) (h:Q (.bool true) H):ag PP 56 #[Cv b] Q H:=by
 obtain ⟨sb,F1,hc,_⟩:=hK.sp;apply z7;dsimp only [bx,ah,aQ,ao,ch];exact ⟨_,rfl,_,hc,h⟩
theorem oq (hK:PK H b F s t){o i:Int} (h:∀ H',Fr [] H H'->Q (ac (kslot s.h o i)) H'):ag PP 122 #[rd b,ac o,ac i] Q H:=by
 apply xD;dsimp only [bf,dB,aA,aQ,ac,ao,am,bg,az];have hf:Fr [] H (H.push (.cells #[Cv b] 125)):=Fr.push _ _ _;obtain ⟨sb,F1,hc,hS,_⟩:=(hK.nil hf).sp;refine ⟨_,(bW.new _ _ _).cell 0,_,rfl,_,hc,eh hS fun hb F2 hR _ _=>⟨_,rfl,tY hR ⟨_,_,rfl,h _ hf⟩⟩⟩
theorem yE (hK:PK H b F s t){o i:Int} (h:∀ H',Fr [] H H'->Q (ac (lE s.h o i)) H'):ag PP 123 #[rd b,ac o,ac i] Q H:=by
 apply xJ;dsimp only [bf,aH,aA,aQ,dO,ac,am,bg,az];have hf:Fr [] H (H.push (.cells #[Cv b] 125)):=Fr.push _ _ _;have DF:=hK.nil hf;refine ⟨_,(bW.new _ _ _).cell 0,oq DF fun H' pe=>⟨_,rfl,kI (DF.nil pe).kinds ?_⟩⟩
 have:=h H' (hf.trans pe);unfold lE rB at this;unfold qA;split
 ·rename_i hk;rw [Rj hk] at this;exact ⟨_,_,rfl,this⟩
 ·rename_i hk;rw [Re hk] at this;exact ⟨_,_,rfl,this⟩
theorem uI (hK:PK H b F s t){o i:Int} (h:∀ H',Fr [] H H'->Q (.string (nj s.h t o i)) H'):ag PP 117 #[rd b,ac o,ac i] Q H:=by
 apply yl;dsimp only [bf,aH,ah,aA,dV,aQ,dO,ac,ao,am,bg,bh,az];have hf:Fr [] H (H.push (.cells #[Cv b] 125)):=Fr.push _ _ _;have DF:=hK.nil hf;refine ⟨_,(bW.new _ _ _).cell 0,oq DF fun H' pe=>⟨_,rfl,rY (DF.nil pe).kinds ?_⟩⟩;have FJ:=(bW.new H #[Cv b] 125).fr pe (by simp)
 have:=h H' (hf.trans pe);unfold nj rJ at this;unfold qA;split
 ·rename_i hk;rw [Rj hk] at this;refine ⟨_,_,rfl,?_⟩;simp only [show ((0:Int) != 0)=false from rfl,Rh];obtain ⟨tb,F2,hc,hT,_⟩:=(DF.nil pe).tb;refine ⟨_,FJ.cell 0,_,rfl,_,hc,qp hT ?_⟩;unfold kK;by_cases an:0<=kslot s.h o i / 4∧kslot s.h o i / 4<t.texts.length
  ·rw [dif_pos an];refine ⟨_,_,rfl,?_⟩;have e:t.texts[(kslot s.h o i / 4).toNat]'(by omega)=tx t (kslot s.h o i / 4).toNat:=by
    unfold tx;rw [RQ,RB (by omega)];rfl
   rw [e];exact this
  ·rw [dif_neg an];refine ⟨_,_,rfl,?_⟩;have AT:=bN (kslot s.h o i);have e:tx t (kslot s.h o i / 4).toNat=⟨#[]⟩:=by
    unfold tx;rw [RQ,Tb (by omega)];rfl
   rw [e] at this;exact this
 ·rename_i hk;rw [Re hk] at this;exact ⟨_,_,rfl,this⟩
theorem oG (hK:PK H b F s t){o:Int} (h:∀ H',Fr [] H H'->Q (ac (ksize s.h o)) H'):ag PP 116 #[rd b,ac o] Q H:=by
 apply xp;dsimp only [bf,dB,cd,aQ,ac,ao,am,bg,az];have hf:Fr [] H (H.push (.cells #[Cv b] 125)):=Fr.push _ _ _;obtain ⟨sb,F1,hc,hS,_⟩:=(hK.nil hf).sp;refine ⟨_,(bW.new _ _ _).cell 0,_,rfl,_,hc,eh hS fun hb F2 hR _ _=>⟨_,rfl,oy hR ⟨_,_,_,rfl,h _ hf⟩⟩⟩
theorem mf (hK:PK H b F s t){i:Int} (h:∀ H',Fr [] H H'->Q (ac (lE s.h 19 i)) H'):ag PP 64 #[rd b,ac i] Q H:=by
 apply zP;dsimp only [bf,aH,aQ,dO,ac,am,bg,az];have hf:Fr [] H (H.push (.cells #[Cv b] 125)):=Fr.push _ _ _;exact ⟨_,(bW.new _ _ _).cell 0,yE (hK.nil hf) fun H' pe=>⟨_,rfl,h _ (hf.trans pe)⟩⟩
end
section
variable {H:ae}{b:Nat}{F:aB}{s:SP}{t:TB}{v:KV}{Q:QT}
theorem vX (hK:PK H b F s t) (hv:KAllW s t v){name:ByteArray} (h:∀ H',Fr [] H H'->Q (.tuple #[ac (fX v t name).1,ac (fX v t name).2]) H'):ag PP 114 #[Cv b,.string name] Q H:=by
 have DA:=hv.ks.shape.many1;apply xi;dsimp only [bf,bk,bK,aH,cB,ah,aZ,aQ,dO,ac,ce,bt,am,bg,az,bi,aI];refine ju hK ⟨_,rfl,?_⟩;simp only [Rq,Rh];rw [xI];have cp:Fr [] H (H.push (.cells #[Cv b] 125)):=Fr.push _ _ _;have hB:=bW.new H #[Cv b] 125;refine ⟨aF.2 (by simp),_,hB.cell 0,mf (hK.nil cp) fun H2 g9=>⟨_,rfl,?_⟩⟩;rw [hv.ks.root0];have s4:=cp.trans g9;have An:=hB.fr g9 (by simp);refine ⟨_,An.cell 0,oG (hK.nil s4) fun H3 ly=>⟨_,rfl,?_⟩⟩;rw [hv.ks.size0];have Di:=s4.trans ly;have Ea:=An.fr ly (by simp);refine ⟨fun w H'=>∃ i:Nat,w=[ac i]∧i<=v.cls.length∧Fr [] H3 H'∧∀ j (hj:j<v.cls.length),j<i->tx t (v.cls[j]).name≠name,fun w _=>match w with
  | [.int _ i]=>(v.cls.length-i).toNat
  | _=>0,⟨0,rfl,RL _,Fr.refl _ _,fun j _ hj=>by omega⟩,?_⟩
 rintro w H4 ⟨i,rfl,hi,p3,yB⟩ _;have GW:=Di.trans p3;have Oy:=Ea.fr p3 (by simp);refine ⟨_,rfl,?_⟩;rw [af];refine ba (fun an=>?_) fun an=>?_
 ·have cx:i<v.cls.length:=by omega
  refine ⟨_,Oy.cell 0,yE (hK.nil GW) fun H5 Gr=>⟨_,rfl,_,(Oy.fr Gr (by simp)).cell 0,?_⟩⟩;rw [(hv.ks.clsAt cx).2];refine uI (hK.nil (GW.trans Gr)) fun H6 DQ=>⟨_,rfl,?_⟩;rw [hv.name cx,fm,af];refine ba (fun he=>?_) fun he=>?_
  ·have Im:fX v t name=((v.cls[i]).oop,0):=by
    unfold fX
    have:v.cls.findIdx? (fun c=>decide (tx t c.name=name))=some i:=by
     rw [S2];exact ⟨cx,by simpa using he,fun j hj=>by simpa using yB j (by omega) hj⟩
    rw [this];simp [cx]
   rw [Im] at h;exact h _ ((GW.trans Gr).trans DQ)
  ·have e:IntKind.wrap .i64 ((i:Int)+1)=((i+1:Nat):Int):=by rw [ai (by omega) (by omega)];omega
   rw [e];refine ⟨⟨i+1,rfl,by omega,(p3.trans Gr).trans DQ,fun j hj EC=>?_⟩,by simp;omega⟩;rcases Sf j i with h1 | h1
   ·exact yB j hj h1
   ·have:j=i:=by omega
    subst this;exact he
 ·have Im:fX v t name=(0,130):=by
   unfold fX
   have:v.cls.findIdx? (fun c=>decide (tx t c.name=name))=none:=by
    rw [Ti];intro c hc;obtain ⟨j,hj,rfl⟩:=hv.ks.view.idx hc;simpa using yB j hj (by omega)
   rw [this]
  rw [Im] at h;exact h _ GW
end
section
variable {H:ae}{b:Nat}{F:aB}{s:SP}{t:TB}{v:KV}{Q:QT}
theorem vA (hK:PK H b F s t){o:Int} (h:∀ a l c G H',bZ 1 H' a l c (au (kwords s.h o)) G->Fr [] H H'->(∀ x∈G,H.size<=x)->Q (.slice a l c) H'):ag PP 63 #[rd b,ac o] Q H:=by
 have hU:aY PP 44=some (1,8,some (ac 0)):=by kernel_rfl
 have Fo:=kF (r:=s.h) o;have E7:=rS hK.wfs.h o;apply zM;dsimp only [bf,aH,ah,aZ,aQ,dO,ac,dq,ax,bt,am,bg,bE,az,aI];have hf:Fr [] H (H.push (.cells #[Cv b] 125)):=Fr.push _ _ _;refine ⟨_,(bW.new _ _ _).cell 0,oG (hK.nil hf) fun H0 q9=>⟨_,rfl,?_⟩⟩;have E8:=(bW.new H #[Cv b] 125).fr q9 (by simp);refine ⟨fun w H'=>∃(i:Nat) (a:Option Addr) (l' c:Nat) (G:aB),w=[.slice a l' c,ac i]∧(i:Int)<=ksize s.h o∧bZ 1 H' a l' c (au ((kwords s.h o).take i)) G∧Fr [] H0 H'∧(∀ x∈G,H0.size<=x),fun w _=>match w with
  | [_,.int _ i]=>(ksize s.h o-i).toNat
  | _=>0,⟨0,none,0,0,[],rfl,Fo,by simpa [au] using bZ.nil 1 H0,Fr.refl _ _,by simp⟩,?_⟩
 rintro w H1 ⟨i,a1,l1,c1,G,rfl,hi,ho,cp,hG⟩ _;have b8:(kwords s.h o).length=(ksize s.h o).toNat:=by simp [kwords]
 have Ek:l1=i:=by have:=ho.len;simp only [au,RZ,R5] at this;omega
 have DM:Fr [] H H1:=(hf.trans q9).trans cp;refine ⟨_,_,_,_,rfl,?_⟩;rw [af];refine ba (fun an=>?_) fun an=>?_
 ·have lp:(kwords s.h o).take (i+1)=(kwords s.h o).take i++[kslot s.h o i]:=by
   rw [RP,RB (by omega)];simp [kwords]
  have e:IntKind.wrap .i64 ((i:Int)+1)=((i+1:Nat):Int):=by rw [ai (by omega) (by omega)];omega
  refine ⟨_,(E8.fr cp (by simp)).cell 0,oq (hK.nil DM) fun H2 g9=>⟨_,rfl,?_⟩⟩;refine bD hU rfl (by kernel_rfl) (ho.fr g9 (by simp)) rfl (by simp [dw]) (by omega) (by decide) (by decide) fun a' c' G2 H3 g1 g2 g3=>⟨_,_,_,rfl,?_⟩;have p5:=Up.fresh (cp.trans g9) g2 hG;rw [e];refine ⟨⟨i+1,a',l1+1,c',G2,rfl,by omega,?_,p5.1,p5.2⟩,by simp;omega⟩;rw [lp,bJ];exact g1
 ·rw [RJ (by omega)] at ho;exact h _ _ _ _ H1 ho DM fun x hx=>Rr (hf.trans q9).1 (hG x hx)
theorem kx (hK:PK H b F s t) (hv:KAllW s t v) (h:∀ a l c G H',bZ 1 H' a l c (bF (cy v t)) G->Fr [] H H'->(∀ x∈G,H.size<=x)->Q (.slice a l c) H'):ag PP 59 #[Cv b] Q H:=by
 have hU:aY PP 73=some (1,16,some (.string (⟨#[]⟩:ByteArray))):=by kernel_rfl
 have hg:=hv.ks.shape.globs;apply zr;dsimp only [bf,bK,aH,cB,ah,aZ,aQ,dO,ac,dq,ax,bt,am,bg,bE,bh,az,bi,aI];refine ju hK ⟨_,rfl,?_⟩;simp only [Rq,Rh];rw [xI];have cp:Fr [] H (H.push (.cells #[Cv b] 125)):=Fr.push _ _ _;have hB:=bW.new H #[Cv b] 125;refine ⟨aF.2 (by simp),_,hB.cell 0,mf (hK.nil cp) fun H2 g9=>⟨_,rfl,?_⟩⟩;rw [hv.ks.root1];have s4:=cp.trans g9;have An:=hB.fr g9 (by simp);refine ⟨_,An.cell 0,oG (hK.nil s4) fun H0 q9=>⟨_,rfl,?_⟩⟩;rw [hv.ks.size1];have IR:=s4.trans q9;have E8:=An.fr q9 (by simp);have ed:IntKind.wrap .i64 (Int.tdiv (2*(v.glob.length:Int)) 2)=v.glob.length:=by
  rw [show Int.tdiv (2*(v.glob.length:Int)) 2=v.glob.length by rw [SQ (by omega)];omega];exact ai (by omega) (by omega)
 have b8:(cy v t).length=v.glob.length:=by simp [cy]
 refine ⟨fun w H'=>∃(i:Nat) (a:Option Addr) (l' c:Nat) (G:aB),w=[.slice a l' c,ac i]∧i<=v.glob.length∧bZ 1 H' a l' c (bF ((cy v t).take i)) G∧Fr [] H0 H'∧(∀ x∈G,H0.size<=x),fun w _=>match w with
  | [_,.int _ i]=>(v.glob.length-i).toNat
  | _=>0,⟨0,none,0,0,[],rfl,RL _,by simpa [bF] using bZ.nil 1 H0,Fr.refl _ _,by simp⟩,?_⟩
 rintro w H1 ⟨i,a1,l1,c1,G,rfl,hi,ho,ly,hG⟩ _;have Ek:l1=i:=by have:=ho.len;simp only [bF,RZ,R5] at this;omega
 have DM:Fr [] H H1:=IR.trans ly;refine ⟨_,_,_,_,rfl,?_⟩;rw [ed,af];refine ba (fun an=>?_) fun an=>?_
 ·have cx:i<v.glob.length:=by omega
  have lp:(cy v t).take (i+1)=(cy v t).take i++[tx t v.glob[i].1]:=by
   rw [RP,RB (by omega)];simp [cy]
  have e:IntKind.wrap .i64 ((i:Int)+1)=((i+1:Nat):Int):=by rw [ai (by omega) (by omega)];omega
  have e2:IntKind.wrap .i64 (2*(i:Int))=((2*i:Nat):Int):=by rw [ai (by omega) (by omega)];omega
  rw [e2];refine ⟨_,(E8.fr ly (by simp)).cell 0,uI (hK.nil DM) fun H2 p3=>⟨_,rfl,?_⟩⟩;rw [hv.gname cx];refine bD hU rfl (by kernel_rfl) (ho.fr p3 (by simp)) rfl (by simp [dw]) (by omega) (by decide) (by decide) fun a' c' G2 H3 g1 g2 g3=>⟨_,_,_,rfl,?_⟩;have p5:=Up.fresh (ly.trans p3) g2 hG;rw [e];refine ⟨⟨i+1,a',l1+1,c',G2,rfl,by omega,?_,p5.1,p5.2⟩,by simp;omega⟩;rw [lp,dY];exact g1
 ·rw [RJ (by omega)] at ho;exact h _ _ _ _ H1 ho DM fun x hx=>Rr IR.1 (hG x hx)
theorem rM (hK:PK H b F s t) (hv:KAllW s t v){n:Int} (h:∀ H',Fr [] H H'->Q (.tuple #[ac (gm v n).1,ac (gm v n).2]) H'):ag PP 77 #[Cv b,ac n] Q H:=by
 have hg:=hv.ks.shape.globs;apply y9;dsimp only [bf,bk,bK,aH,ah,aZ,aQ,dO,ac,am,bg,az,bi,aI];unfold gm at h;refine ju hK ⟨_,rfl,?_⟩;simp only [Rq,Rh];rw [xI];have cp:Fr [] H (H.push (.cells #[Cv b] 125)):=Fr.push _ _ _;have hB:=bW.new H #[Cv b] 125;refine ⟨aF.2 (by simp),_,hB.cell 0,mf (hK.nil cp) fun H2 g9=>⟨_,rfl,?_⟩⟩;rw [hv.ks.root1,af];have s4:=cp.trans g9;refine ba (fun h1=>?_) fun h1=>?_
 ·rw [dif_neg (by omega)] at h;exact h _ s4
 have An:=hB.fr g9 (by simp);refine ⟨_,An.cell 0,oG (hK.nil s4) fun H3 ly=>⟨_,rfl,?_⟩⟩;have ed:IntKind.wrap .i64 (Int.tdiv (2*(v.glob.length:Int)) 2)=v.glob.length:=by
  rw [show Int.tdiv (2*(v.glob.length:Int)) 2=v.glob.length by rw [SQ (by omega)];omega];exact ai (by omega) (by omega)
 rw [hv.ks.size1,af];refine ba (fun h2=>?_) fun h2=>?_
 ·rw [ed] at h2;rw [dif_neg (by omega)] at h;exact h _ (s4.trans ly)
 rw [ed] at h2;rw [dif_pos (by omega)] at h;have e:IntKind.wrap .i64 (IntKind.wrap .i64 (2*n)+1)=((2*n.toNat+1:Nat):Int):=by rw [ai (n:=2*n) (by omega) (by omega),ai (by omega) (by omega)];omega
 rw [e];refine ⟨_,(An.fr ly (by simp)).cell 0,oq (hK.nil (s4.trans ly)) fun H4 p3=>⟨_,rfl,?_⟩⟩;rw [(hv.ks.globAt (by omega)).2];exact h _ ((s4.trans ly).trans p3)
theorem rh (hK:PK H b F s t) (hv:KAllW s t v){n w:Int} (h:∀ H' F',PK H' b F' (cU s v n w).2 t->Up F H F' H'->Q (ac (cU s v n w).1) H'):ag PP 19 #[Cv b,ac n,ac w] Q H:=by
 have hg:=hv.ks.shape.globs;apply zb;dsimp only [aH,dB,ah,aA,aQ,dO,ac,ao,am,aI];unfold cU at h;refine rM hK hv fun H1 cp=>⟨_,_,rfl,?_⟩;unfold gm;by_cases hn:0<=n∧n<v.glob.length
 ·rw [dif_pos hn];rw [Re (by omega)] at h;simp only [show ((0:Int) != 0)=false from rfl,Rh];have DF:=hK.nil cp;refine iy DF.kinds ⟨_,rfl,?_⟩;rw [bq,af];refine ba (fun hw=>?_) fun hw=>?_
  ·rw [Rj (by unfold d8;omega)] at h;exact h _ _ DF ⟨cp.of_nil,fun x hx=>.inl hx⟩
  rw [Re (by unfold d8;omega)] at h;obtain ⟨sb,F1,hc,hS,b9,Oz,pp,_⟩:=DF.sp;refine ⟨_,rfl,_,hc,eh hS fun hb F2 hR q8 Dt=>⟨_,rfl,mf DF fun H3 ly=>⟨_,rfl,?_⟩⟩⟩;rw [hv.ks.root1];have e:IntKind.wrap .i64 (IntKind.wrap .i64 (2*n)+1)=2*n+1:=by rw [ai (n:=2*n) (by omega) (by omega),ai (by omega) (by omega)]
  rw [e];refine mB (hR.fr ly (bL.nil_right _) (by simp)) (fun o ho=>?_) fun H4 GQ p3=>⟨_,rfl,?_⟩
  ·obtain ⟨x,h1,h2,_⟩:=hv.ks.view.globs;rw [h1] at ho;cases ho;exact h2
  ·have JZ:Fr F2 H1 H4:=ly.of_nil.trans p3;have Gp:=Dt H4 _ GQ JZ;obtain ⟨F',DV,hu⟩:=pp H4 F1 _ Gp ⟨JZ.mono q8,fun x hx=>.inl hx⟩;exact h _ _ DV ⟨cp.of_nil.trans hu.1,fun x hx=>(hu.2 x hx).imp id fun h=>Rr cp.1 h⟩
 ·rw [dif_neg hn];rw [Rj (by omega)] at h;simp only [show ((1:Int) != 0)=true from rfl,Rs];exact h _ _ (hK.nil cp) ⟨cp.of_nil,fun x hx=>.inl hx⟩
theorem BI (hK:PK H b F s t) (hv:KAllW s t v){w:Int} (h:Q (.tuple #[ac (ov s.h w).1,ac (ov s.h w).2]) H):ag PP 186 #[Cv b,ac w] Q H:=by
 apply wN;dsimp only [bk,bK,aH,dB,ah,aA,aQ,ac,ao,am];unfold ov at h;refine ju hK ⟨_,rfl,?_⟩;simp only [Rq,Rh];refine iy hK.kinds ⟨_,rfl,?_⟩;rw [bq,bq,bq,af];refine ba (fun h1=>?_) fun h1=>?_
 ·rw [Rj h1] at h;exact h
 rw [Re h1] at h;rw [af];refine ba (fun h2=>?_) fun h2=>?_
 ·rw [Rj h2] at h;exact h
 rw [Re h2] at h;rw [af];refine ba (fun h3=>?_) fun h3=>?_
 ·rw [Rj h3] at h;refine kI hK.kinds ?_;unfold qA;rw [Rj h3];obtain ⟨sb,F1,hc,hS,_⟩:=hK.sp;refine ⟨_,_,rfl,_,rfl,_,hc,eh hS fun hb F2 hR _ _=>⟨_,rfl,jy hR ?_⟩⟩;unfold RH.clsAt at h ⊢;cases ho:aG s.h.objs (w / 4) with
  | none=>rw [ho] at h;exact ⟨_,_,rfl,h⟩
  | some x =>
   rw [ho] at h;refine ⟨_,_,rfl,?_⟩;have hc:=hv.ks.gc x (aN ho).1;simp only [show ((0:Int) != 0)=false from rfl,Rh];refine kI hK.kinds ?_;unfold qA;rw [Rj hc];refine ⟨_,_,rfl,?_⟩;simp only [rB,Rj hc] at h;exact h
 ·rw [Re h3] at h;exact h
end
theorem oN {s:ByteArray}{i:Nat} (h:i<s.size):s[i]?=some s[i]∧(s[i]).toNat=gB s i:=by
 have:s[i]?=some s[i]:=by simp [h]
 exact ⟨this,by rw [x8 this]⟩
section
variable {H:ae}{b:Nat}{F:aB}{s:SP}{t:TB}{v:KV}{Q:QT}
theorem vM {x:ByteArray}{lo up:Nat} (h:∀ H',Fr [] H H'->Q (.bool (decide (hZ lo up x))) H'):ag PP 57 #[.string x,.int .u8 lo,.int .u8 up] Q H:=by
 apply zi;dsimp only [bx,ah,bA,aZ,bl,ac,bm,ce,bt,bE,bh,az,mK,aI];have no:¬ hZ lo up x->∀ H',Fr [] H H'->Q (.bool false) H':=fun hn H' hf=>by have:=h H' hf;rw [Tj hn] at this;exact this
 rw [fm,af];refine ba (fun h1=>no (fun hn=>?_) _ (Fr.refl _ _)) fun h1=>?_
 ·have:=hn.1;rw [h1] at this;exact absurd this (by decide)
 have p6:0<x.size:=by
  rcases TD x.size with h0 | h0
  ·exfalso;apply h1;obtain ⟨d⟩:=x
   have:d=#[]:=Array.eq_empty_of_size_eq_zero h0;rw [this]
  ·exact h0
 rw [af];refine ba (fun h2=>no (fun hn=>by have:=hn.2.1;omega) _ (Fr.refl _ _)) fun h2=>?_;obtain ⟨g1,g2⟩:=oN p6;refine ⟨_,⟨Sc 0,g1⟩,?_⟩;rw [g2,af];refine ba (fun h3=>no (fun hn=>by have:=hn.2.2.1;omega) _ (Fr.refl _ _)) fun h3=>⟨_,⟨Sc 0,g1⟩,?_⟩;rw [g2,af];refine ba (fun h4=>no (fun hn=>by have:=hn.2.2.2.1;omega) _ (Fr.refl _ _)) fun h4=>?_;refine sL (e:=5) (by kernel_rfl) (by kernel_rfl) (by kernel_rfl) fun cap H0 q9 al=>⟨_,_,_,rfl,?_⟩;refine ⟨fun w H'=>H'=H0∧∃ i:Nat,w=[ac i]∧i<=x.size∧∀ j,j<i->cP (gB x j),fun w _=>match w with
  | [.int _ i]=>(x.size-i).toNat
  | _=>0,⟨rfl,0,rfl,RL _,fun j hj=>by omega⟩,?_⟩
 rintro w H1 ⟨rfl,i,rfl,hi,be⟩ _;refine ⟨_,rfl,?_⟩;rw [af];refine ba (fun an=>?_) fun an=>?_
 ·have cx:i<x.size:=by omega
  have e:IntKind.wrap .i64 ((i:Int)+1)=((i+1:Nat):Int):=by rw [ai (by omega) (by omega)];omega
  have hc:=al i cx;have PT:((x[i]?.getD 0).toNat:Int)=(gB x i:Int):=rfl;rw [PT] at hc;refine ⟨⟨by omega,an⟩,_,rfl,_,by rw [Ro,Rn,ak,Rm];exact hc,?_⟩;have go:cP (gB x i)->(True∧∃ i_1:Nat,[Value.int .i64 (IntKind.wrap .i64 ((i:Int)+1))]=[ac i_1]∧i_1<=x.size∧∀ j,j<i_1->cP (gB x j))∧((x.size:Int)-(IntKind.wrap .i64 ((i:Int)+1))).toNat<((x.size:Int)-(i:Int)).toNat:=fun ha=>by
   rw [e];refine ⟨⟨trivial,i+1,rfl,by omega,fun j hj=>?_⟩,by omega⟩;rcases Sf j i with h5 | h5
   ·exact be j h5
   ·have:j=i:=by omega
    rw [this];exact ha
  have bad:¬ cP (gB x i)->Q (.bool false) H1:=fun ha=>no (fun hn=>ha (hn.2.2.2.2 i cx)) _ q9;simp only [af];refine ba (fun c1=>ba (fun c2=>ba (fun c3=>bad (by unfold cP;omega)) fun c3=>ba (fun c4=>bad (by unfold cP;omega)) fun c4=>go (by unfold cP;omega)) fun c2=>ba (fun c3=>ba (fun c4=>bad (by unfold cP;omega)) fun c4=>ba (fun c5=>bad (by unfold cP;omega)) fun c5=>go (by unfold cP;omega)) fun c3=>go (by unfold cP;omega)) fun c1=>ba (fun c2=>ba (fun c3=>ba (fun c4=>bad (by unfold cP;omega)) fun c4=>ba (fun c5=>bad (by unfold cP;omega)) fun c5=>go (by unfold cP;omega)) fun c3=>ba (fun c4=>ba (fun c5=>bad (by unfold cP;omega)) fun c5=>ba (fun c6=>bad (by unfold cP;omega)) fun c6=>go (by unfold cP;omega)) fun c4=>go (by unfold cP;omega)) fun c2=>go (by unfold cP;omega)
 ·have:i=x.size:=by omega
  subst this
  have:=h H1 q9;have MU:hZ lo up x:=⟨p6,by omega,by omega,by omega,be⟩;rw [SB MU] at this;exact this
theorem qZ {a:Option Addr}{l c:Nat}{xs:List ByteArray}{x:ByteArray} (hk:Rd 1 H a l (bF xs)) (C5:l<=1000000000000000) (h:Q (.bool (decide (x∈xs))) H):ag PP 115 #[.slice a l c,.string x] Q H:=by
 have hl:l=xs.length:=by have:=hk.1;simpa [bF] using this.symm
 apply we;dsimp only [bx,aH,ax,bh];apply vU;dsimp only [ah,aZ,fE,bl,ac,bm,ce,bt,aI];refine ⟨fun w H'=>H'=H∧∃ i:Nat,w=[ac i]∧i<=l∧∀ j (hj:j<xs.length),j<i->xs[j]≠x,fun w _=>match w with
  | [.int _ i]=>(l-i).toNat
  | _=>0,⟨rfl,0,rfl,RL _,fun j _ hj=>by omega⟩,?_⟩
 rintro w H1 ⟨rfl,i,rfl,hi,be⟩ _;refine ⟨_,rfl,?_⟩;rw [af];refine ba (fun an=>?_) fun an=>?_
 ·obtain ⟨p,ap,rfl,al⟩:=hk.str (i:=(i:Int)) (by omega) an;simp only [Ro] at al ap;have e:IntKind.wrap .i64 ((i:Int)+1)=((i+1:Nat):Int):=by rw [ai (by omega) (by omega)];omega
  refine ⟨⟨by omega,an⟩,_,rfl,_,by rw [Ro,Rn];exact al,?_⟩;rw [fm,af];refine ba (fun he=>⟨_,rfl,?_⟩) fun he=>?_
  ·rw [SB (show x∈xs by rw [he];exact RG _)] at h;rw [SB (show (i:Int) ≥ 0 by omega)];exact h
  ·rw [e];refine ⟨⟨rfl,i+1,rfl,by omega,fun j hj EC=>?_⟩,by simp;omega⟩;rcases Sf j i with h5 | h5
   ·exact be j hj h5
   ·have:j=i:=by omega
    subst this;exact fun e=>he e.symm
 ·refine ⟨_,rfl,?_⟩
  have:x∉xs:=fun hm=>by
   obtain ⟨j,hj,he⟩:=Sp hm;exact be j hj (by omega) he
  rw [Tj this] at h;exact h
theorem wn (hK:PK H b F s t) (hv:KAllW s t v){name:ByteArray} (h:∀ H',Fr [] H H'->Q (.bool (decide (gn v t name))) H'):ag PP 58 #[Cv b,.string name] Q H:=by
 have hg:=hv.ks.shape.globs;apply A2;dsimp only [bx,bK,cG,ah,aA,ax,am,bh];refine vX hK hv fun H1 cp=>⟨_,_,rfl,?_⟩;rw [bq,af];refine ba (fun h1=>?_) fun h1=>?_
 ·have:=h H1 cp;rw [SB (show gn v t name from .inl h1)] at this;exact this
 ·refine kx (hK.nil cp) hv fun a l c G H2 ho g9 hG=>⟨_,_,_,rfl,qZ ho.rd ?_ ⟨_,rfl,?_⟩⟩
  ·have:=ho.len;simp only [bF,cy,RZ] at this;omega
  ·have:=h H2 (cp.trans g9);have e:decide (gn v t name)=decide (name∈cy v t):=by
    rw [decide_eq_decide];unfold gn;exact ⟨fun h=>h.resolve_left h1,.inr⟩
   rw [e] at this;exact this
end
structure PM (H:ae) (mb b:Nat) (F:aB) (s:SP) (t:TB) (cnt mk kp:Int):Prop where
 k:PK H b F s t
 m:bW H mb #[Cv b,ac cnt,ac mk,ac kp]
 out:mb∉F
theorem Up.out {F F':aB}{H H':ae} (h:Up F H F' H'){x:Nat} (hx:x∉F) (hl:x<H.size):x∉F':=fun hm=>by
 rcases h.2 x hm with h1 | h1
 ·exact hx h1
 ·omega
theorem PM.up {H H':ae}{mb b:Nat}{F F':aB}{s s':SP}{t t':TB}{cnt mk kp:Int} (h:PM H mb b F s t cnt mk kp) (hk:PK H' b F' s' t') (hu:Up F H F' H'):PM H' mb b F' s' t' cnt mk kp :=
 ⟨hk,h.m.fr hu.1 h.out,Up.out hu h.out h.m.lt⟩
theorem PM.nil {H H':ae}{mb b:Nat}{F:aB}{s:SP}{t:TB}{cnt mk kp:Int} (h:PM H mb b F s t cnt mk kp) (hf:Fr [] H H'):PM H' mb b F s t cnt mk kp:=⟨h.k.nil hf,h.m.fr hf (by simp),h.out⟩
theorem Up.of_nil {F:aB}{H H':ae} (h:Fr [] H H'):Up F H F H':=⟨Kw.Fr.of_nil h,fun _ h=>.inl h⟩
theorem rQ {r:RH} (k i w j:Int){y:RO} (h:aG (r.put k i w).2.objs j=some y):∃ x,aG r.objs j=some x∧y.fmt=x.fmt:=by
 unfold RH.put at h;split at h
 ·exact ⟨y,h,rfl⟩
 split at h
 ·exact ⟨y,h,rfl⟩
 split at h
 ·exact ⟨y,h,rfl⟩
 ·simp only at h;rw [eC (f:=fA i w) (fun o=>rfl)] at h;cases hx:aG r.objs j with
  | none=>rw [hx] at h;cases h
  | some x =>
   rw [hx] at h;simp only [SM,Option.some.injEq] at h;refine ⟨x,rfl,?_⟩;rw [←h];split <;> rfl
section
variable {H:ae}{mb b:Nat}{F:aB}{s:SP}{t:TB}{v:KV}{cnt mk kp:Int}{Q:QT}
theorem sG (hM:PM H mb b F s t cnt mk kp){x:ByteArray} (h:∀ H' F',PM H' mb b F' s (t.add x).2 cnt mk kp->Up F H F' H'->Q (.tuple #[ac (if (t.add x).1.2=0 then 4*(t.add x).1.1+2 else 0),ac (t.add x).1.2]) H'):ag PP 61 #[Cv mb,.string x] Q H:=by
 apply Aq;dsimp only [bk,ah,aA,aQ,ac,ao,am,bh];obtain ⟨tb,F2,hc,hT,b9,DD,pp,_⟩:=hM.k.tb;refine ⟨_,rfl,_,hM.m.cell 0,_,rfl,_,hc,rL hT fun H1 F1 PU Eo=>⟨_,_,rfl,?_⟩⟩;obtain ⟨F',Li,GX⟩:=pp H1 F1 _ PU Eo;have Hx:=hM.up Li GX;rw [bw,af];refine ba (fun h1=>?_) fun h1=>?_
 ·have:=h _ _ Hx GX;rw [Re h1] at this;exact this
 ·have hz:(t.add x).1.2=0:=RE h1;obtain ⟨n,e1,e2,_⟩:=jp x hz;have hw:=Li.wft;have h2:=(eq e2).2;have h3:=hw.m1;have h4:=hw.len;rw [e1];refine yM ⟨by omega,by omega⟩ ⟨_,_,rfl,?_⟩
  have:=h _ _ Hx GX;rw [Rj hz,e1,hz] at this;exact this
theorem wL (hM:PM H mb b F s t cnt mk kp){cls:Int} (Em:1<=cls∧cls<=65536){a:Option Addr}{l c:Nat}{ws:List Int} (hk:Rd 1 H a l (au ws)) (hd:∀ p,a=some p->p.block∉F) (C5:l<=1000000000)
  (h:∀ H' F',PM H' mb b F' (s.make cls ws).2 t cnt mk kp->Up F H F' H'->Q (.tuple #[ac (s.make cls ws).1.1,ac (s.make cls ws).1.2]) H'):ag PP 121 #[Cv mb,ac cls,.slice a l c] Q H:=by
 have hl:l=ws.length:=by have:=hk.1;simpa [au] using this.symm
 apply wx;dsimp only [bf,bk,aH,dB,ah,aA,aZ,aM,aQ,bl,ac,bm,ce,ax,bt,ao,am,bg,aI];unfold SP.make at h;obtain ⟨sb,F1,hc,hS,b9,DD,_,pp⟩:=hM.k.sp;refine ⟨_,rfl,_,hM.m.cell 0,_,rfl,_,hc,dt Em ⟨_,rfl,⟨⟨hc,trivial⟩,⟨hM.m.cell 0,trivial⟩,trivial⟩,?_⟩⟩;rw [hl];refine nQ hS fun H1 CX cp=>⟨_,_,rfl,trivial,?_⟩;have In:=cp.mono b9;have GX:Up F H F H1:=⟨In,fun _ h=>.inl h⟩;have Hx:=hM.up (pp H1 _ CX cp) GX;have Eg:=hk.fr' In hd;rw [bw,af];refine ba (fun h1=>?_) fun h1=>?_
 ·rw [Rj h1] at h;exact h _ _ Hx GX
 rw [Re h1] at h;have hz:(s.alloc (4*cls) ws.length 0).1.2=0:=RE h1;obtain ⟨o,e1,o1,o2,_,_,HX,_⟩:=ki hM.k.wfs hz;rw [Rj hz];rw [e1] at h ⊢;have e2:4*o / 4=o:=by omega
 rw [e2] at h;generalize (s.alloc (4*cls) ws.length 0).2=s1 at *;have HP:bT (4*o)=3:=by have:=bN (4*o);omega
 refine kI Hx.k.kinds ?_;unfold qA;rw [Rj HP];simp only [e2];refine ⟨_,_,rfl,?_⟩;refine ⟨fun w H'=>∃(i:Nat) (r:RH),w=[ac i]∧i<=ws.length∧PM H' mb b F { s1 with h:=r } t cnt mk kp∧Fr F H1 H'∧r.lay o i (ws.drop i)=s1.h.lay o 0 ws∧∀ x,aG r.objs o=some x->x.fmt=0,fun w _=>match w with
  | [.int _ i]=>(ws.length-i).toNat
  | _=>0,⟨0,s1.h,rfl,RL _,Hx,Fr.refl _ _,rfl,fun x hx=>by obtain ⟨y,h2,h3,_⟩:=HX;rw [h2] at hx;cases hx;exact h3⟩,?_⟩
 rintro w H4 ⟨i,r,rfl,hi,EX,p3,v7,FO⟩ _;refine ⟨_,rfl,?_⟩;rw [af];refine ba (fun an=>?_) fun an=>?_
 ·obtain ⟨p,rfl,al,ap⟩:=(Eg.fr' p3 hd).int (i:=(i:Int)) (by omega) (by omega);rw [Ro] at al ap;have hx:ws.getD i 0=ws[i]:=by simp [ap]
  rw [hx] at al;have ed:ws.drop i=ws[i] :: ws.drop (i+1):=Sj ap;have e:IntKind.wrap .i64 ((i:Int)+1)=((i+1:Nat):Int):=by rw [ai (by omega) (by omega)];omega
  obtain ⟨sb4,F4,EY,Gp,DW,_,_,DX⟩:=EX.k.sp;refine ⟨⟨by omega,an⟩,_,rfl,_,by rw [Ro,Rn];exact al,_,rfl,_,EX.m.cell 0,_,rfl,_,EY,eh Gp fun hb F5 hR Du Ev=>⟨_,rfl,mB hR FO fun H6 Ht DQ=>⟨_,rfl,?_⟩⟩⟩;have MV:=Ev H6 _ Ht DQ;have Ew:=DX H6 _ MV (DQ.mono Du);have J0:Fr F H4 H6:=(DQ.mono Du).mono DW;have PW:=EX.up Ew ⟨J0,fun _ h=>.inl h⟩;rw [e];refine ⟨⟨i+1,(r.put o i ws[i]).2,rfl,by omega,PW,p3.trans J0,?_,fun x hx=>?_⟩,by simp;omega⟩
  ·rw [←v7,ed];simp only [RH.lay]
   congr 1
   all_goals omega
  ·obtain ⟨y,h2,h3⟩:=rQ o i ws[i] o hx;rw [h3];exact FO y h2
 ·have p8:i=ws.length:=by omega
  subst p8;rw [Tr] at v7;simp only [RH.lay] at v7;rw [v7] at EX;obtain ⟨sb4,F4,EY,Gp,DW,_,DX,_⟩:=EX.k.sp;refine ⟨_,rfl,_,EX.m.cell 0,_,rfl,_,EY,?_⟩;have fp:Fr [] H4 (H4.push (.cells #[ac (4*o)] 31)):=Fr.push _ _ _;have EZ:=EX.nil fp;obtain ⟨sb5,F5,CY,MW,Du,_,Ev,_⟩:=EZ.k.sp;have Ho:sb5=sb4:=by
   have:aj (H4.push (.cells #[ac (4*o)] 31)) ⟨b,0,none⟩=aj H4 ⟨b,0,none⟩:=dc (EX.k.lt b EX.k.bmem);rw [this,EY] at CY;simpa using CY.symm
  subst Ho;refine mn MW (ws:=[4*o]) ?_ (by omega) fun H7 F7 J1 Io=>⟨_,rfl,?_⟩
  ·refine ⟨rfl,(fun h=>by cases h),fun p hp k hk=>?_⟩;cases hp
   have:k=0:=by omega
   subst this;rw [ak];exact (bW.new H4 _ _).cell 0
  ·obtain ⟨F',Fe,J2⟩:=Ev H7 F7 _ J1 Io;have PX:=EZ.up Fe J2;exact h H7 F' PX ((GX.trans ⟨p3,fun _ h=>.inl h⟩).trans ((Up.of_nil fp).trans J2))
theorem uQ (hM:PM H mb b F s t cnt mk kp){a:Option Addr}{l c:Nat}{ws:List Int} (hk:Rd 1 H a l (au ws)) (hd:∀ p,a=some p->p.block∉F) (C5:l<=1000000000)
  (h:∀ H' F',PM H' mb b F' (s.array ws).2 t cnt mk kp->Up F H F' H'->Q (.tuple #[ac (s.array ws).1.1,ac (s.array ws).1.2]) H'):ag PP 62 #[Cv mb,.slice a l c] Q H:=by
 have hl:l=ws.length:=by have:=hk.1;simpa [au] using this.symm
 apply yV;dsimp only [bk,aH,ah,aA,ac,ax,am];unfold SP.array at h;rw [bq,af];refine ba (fun h0=>?_) fun h0=>?_
 ·have:ws=[]:=RM (by omega);rw [Rj this] at h;exact dt (by decide) ⟨_,rfl,h H F hM (Up.refl _ _)⟩
 ·have:ws≠[]:=fun e=>h0 (by rw [hl,e];rfl);rw [Re this] at h;exact wL hM (by decide) hk hd C5 fun H' F' Hx hu=>⟨_,_,rfl,h H' F' Hx hu⟩
end
def pd (H:ae) (a:Option Addr) (F:aB):Prop:=∀ p,a=some p->p.block<H.size∧p.block∉F
theorem pd.up {H H':ae}{a:Option Addr}{F F':aB} (h:pd H a F) (hu:Up F H F' H'):pd H' a F':=fun p hp=>⟨RC (h p hp).1 hu.1.1,Up.out hu (h p hp).2 (h p hp).1⟩
theorem pd.rd {H H':ae}{a:Option Addr}{F F':aB}{l:Nat}{ys:List Value} (h:pd H a F) (hu:Up F H F' H') (hk:Rd 1 H a l ys):Rd 1 H' a l ys:=hk.fr' hu.1 fun p hp=>(h p hp).2
def sU (H:ae) (a:Option Addr) (l:Nat) (F:aB):Prop:=l=0∨pd H a F
theorem sU.up {H H':ae}{a:Option Addr}{l:Nat}{F F':aB} (h:sU H a l F) (hu:Up F H F' H'):sU H' a l F':=h.imp id fun h=>h.up hu
theorem sU.rd {H H':ae}{a:Option Addr}{F F':aB}{l:Nat}{ys:List Value} (h:sU H a l F) (hu:Up F H F' H') (hk:Rd 1 H a l ys):Rd 1 H' a l ys:=by
 rcases h with h | h
 ·subst h;exact ⟨hk.1,hk.2.1,fun p _ i hi=>by simp at hi⟩
 ·exact h.rd hu hk
theorem bZ.out {H:ae}{a:Option Addr}{l c:Nat}{xs:List Value}{F G:aB} (h:bZ 1 H a l c xs G) (hd:bL G F):pd H a F:=fun p hp=>by
 have an:=h.lt;rcases h.2.2 with ⟨h1,_⟩ | ⟨b',cs,h1,rfl,_⟩
 ·rw [h1] at hp;cases hp
 ·rw [h1] at hp;cases hp;exact ⟨an _ (by simp),hd _ (by simp)⟩
theorem cg {F:aB}{H H':ae}{b o:Nat} (hf:Fr F H H') (hb:b∉F) (hl:b<H.size):aj H' ⟨b,o,none⟩=aj H ⟨b,o,none⟩:=by
 unfold aj;rw [hf.2 b hl hb]
theorem gi {H:ae}{cs:List Int}{t:TypeId}:Rd 1 (H.push (.cells (au cs).toArray t)) (some ⟨H.size,0,none⟩) cs.length (au cs):=by
 refine ⟨by simp [au],(fun h=>by cases h),fun p hp k hk=>?_⟩;cases hp;rw [ak,Rm,(bW.new H _ _).cell];simp
section
variable {H:ae}{mb b:Nat}{F:aB}{s:SP}{t:TB}{v:KV}{cnt mk kp:Int}{Q:QT}
theorem yf (hK:PK H b F s t) (h:∀ H' mb,PM H' mb b F s t t.texts.length s.h.mark s.stack.length->Fr [] H H'->Q (Cv mb) H'):ag PP 60 #[Cv b] Q H:=by
 apply zy;dsimp only [bf,aH,cG,dB,aQ,ac,ao,am,bg,az];obtain ⟨tb,F2,p9,hT,_⟩:=hK.tb;obtain ⟨sb,F1,hc,hS,_⟩:=hK.sp;refine ⟨_,rfl,_,p9,_,rfl,_,hc,_,rfl,_,hc,tM hT ⟨_,rfl,⟨⟨hc,trivial⟩,⟨hc,trivial⟩,trivial⟩,eh hS fun hb F3 hR _ _=>⟨_,rfl,⟨⟨hc,trivial⟩,trivial⟩,sJ hR ⟨_,rfl,⟨⟨hc,trivial⟩,trivial⟩,?_⟩⟩⟩⟩;refine qz hS fun a c H1 _ hf=>⟨_,_,_,rfl,trivial,trivial,?_⟩;have g9:=hf.more (o:=.cells #[Cv b,ac (t.texts.length:Int),ac s.h.mark,ac (s.stack.length:Int)] 127);refine h _ H1.size ⟨hK.nil g9,bW.new _ _ _,fun hm=>?_⟩ g9
 have:=(hK.nil hf).lt _ hm;omega
theorem Bp (hM:PM H mb b F s t cnt mk kp) (Fi:0<=kp∧kp<=1000000){e:Int} (h:∀ H',PK H' b F (jB s t mk cnt kp e).1 (jB s t mk cnt kp e).2->Fr F H H'->Q (ac e) H'):ag PP 66 #[Cv mb,ac e] Q H:=by
 have DS:=hM.k.wfs.many;apply AH;dsimp only [aH,cG,dB,ah,aM,aQ,ac,ao,am,aI];unfold jB at h;obtain ⟨sb,F1,hc,hS,b9,GY,_,pp⟩:=hM.k.sp;refine ⟨_,rfl,_,hM.m.cell 0,_,rfl,_,hc,_,rfl,_,hM.m.cell 3,qz hS fun a c H1 _ hf=>⟨_,_,_,rfl,⟨⟨(hM.m.fr hf (by simp)).cell 3,trivial⟩,trivial⟩,?_⟩⟩;have ew:IntKind.wrap .i64 ((s.stack.length:Int)-kp)=(s.stack.length:Int)-kp:=ai (by omega) (by omega);rw [ew];refine pz (hS.nilfr hf) ⟨by omega,by omega⟩ fun H2 DT g9=>⟨_,rfl,trivial,?_⟩;have w6:Fr F1 H H2:=hf.of_nil.trans g9;have In:Fr F H H2:=w6.mono b9;have EU:=hM.up (pp H2 _ DT w6) ⟨In,fun _ h=>.inl h⟩;rw [bq,af];refine ba (fun h1=>?_) fun h1=>?_
 ·rw [Rj h1] at h;exact h H2 EU.k In
 rw [Re h1] at h;obtain ⟨tb,F3,EJ,hT,DU,At,_,Eu⟩:=EU.k.tb;refine ⟨_,rfl,_,EU.m.cell 0,_,rfl,_,EJ,_,rfl,_,EU.m.cell 1,t6 hT fun H3 J3 ly=>⟨_,rfl,trivial,?_⟩⟩;have Ip:Fr F H2 H3:=ly.mono DU;have IT:=EU.up (Eu H3 _ J3 ly) ⟨Ip,fun _ h=>.inl h⟩;rw [bw,af];refine ba (fun h2=>?_) fun h2=>?_
 ·rw [Re h2] at h;obtain ⟨sb4,F4,EY,Gp,DW,_,_,DX⟩:=IT.k.sp;have Ho:sb4=sb:=by
   have s6:=hM.k.lt b hM.k.bmem;have e1:aj H3 ⟨b,0,none⟩=some (Cv sb):=by
    rw [cg ly At (RC s6 w6.1),cg w6 GY s6,hc]
   rw [EY] at e1;simpa using e1
  subst Ho;refine ⟨_,rfl,_,IT.m.cell 2,eh Gp fun hb F5 hR Du Ev=>⟨_,rfl,⟨⟨IT.m.cell 2,trivial⟩,trivial⟩,AA hR fun H5 J4 Gr=>⟨_,rfl,trivial,?_⟩⟩⟩;have MW:=Ev H5 _ J4 Gr;have C9:=DX H5 _ MW (Gr.mono Du)
  have:=h H5 ?_ ((In.trans Ip).trans ((Gr.mono Du).mono DW))
  ·exact this
  ·have ed:(s.drop ((s.stack.length:Int)-kp)).2.h=s.h:=by unfold SP.drop;split <;> rfl
   simp only [ed] at C9;exact C9
 ·have Fw:e=24:=RE h2;rw [Rj Fw] at h;refine h H3 ?_ (In.trans Ip);have ed:(s.drop ((s.stack.length:Int)-kp)).2.h=s.h:=by unfold SP.drop;split <;> rfl
  have Dy:=IT.k;generalize (s.drop ((s.stack.length:Int)-kp)).2=s' at *;cases s';simp only at ed;subst ed;exact Dy
theorem KS.words {s:SP}{v:KV} (h:KS s v):kwords s.h v.clsA=v.clsW:=h.view.all.kwords
theorem sQ {H0:ae} (hM:PM H0 mb b F s t cnt mk kp) (hf:Fr [] H0 H){a a2:Option Addr}{l c c2 l2:Nat}{G:aB}{ws xs:List Int}{Q:QT} (ho:bZ 1 H a l c (au ws) G) (hG:∀ x∈G,H0.size<=x) (sz:ws.length<=8192) (h2:Rd 1 H a2 l2 (au xs)) (HS:l2<=8192)
  (h:∀ H' F',PM H' mb b F' (s.array (ws++xs)).2 t cnt mk kp->Up F H0 F' H'->Q (.tuple #[ac (s.array (ws++xs)).1.1,ac (s.array (ws++xs)).1.2]) H') :
  cc PP (Builtin.append_ #[44,44] 44 #[.slice a l c,.slice a2 l2 c2]) (fun v H'=>∃ a3:Option Addr,∃ l3:Nat,∃ c3:Nat,v=.slice a3 l3 c3∧True∧ag PP 62 #[Cv mb,.slice a3 l3 c3] Q H') H:=by
 have hU:aY PP 44=some (1,8,some (ac 0)):=by kernel_rfl
 have hl:l=ws.length:=by have:=ho.len;simpa [au] using this.symm
 have an:=hM.k.lt;refine dp hU rfl (by kernel_rfl) ho h2 eF (by omega) (by decide) (by decide) fun a' c' G' H' g1 g2 g3=>⟨_,_,_,rfl,trivial,?_⟩;obtain ⟨pe,PY⟩:=Up.fresh hf g2 hG;have C2:pd H' a' F:=bZ.out g1 fun x hx hm=>by have:=PY x hx;have:=an x hm;omega
 rw [←bJ] at g1;exact uQ (hM.nil pe) g1.rd (fun p hp=>(C2 p hp).2) (by omega) fun H2 F' EU hu=>h H2 F' EU ((Up.of_nil pe).trans hu)
end
section
variable {H:ae}{b:Nat}{F:aB}{s:SP}{t:TB}{v:KV}{Q:QT}
theorem KS.gwords {s:SP}{v:KV} (h:KS s v):kwords s.h v.globA=bC v.glob:=h.view.globs.kwords
theorem tJ (hK:PK H b F s t) (hv:KAllW s t v) (lc:s.stack.length<60000){name:ByteArray}
  (h:∀ H' F',PK H' b F' (bB s v t name).2.1 (bB s v t name).2.2->Up F H F' H'->Q (ac (bB s v t name).1) H') :
  ag PP 17 #[Cv b,.string name] Q H:=by
 have hg:=hv.ks.shape.globs;apply AK;dsimp only [bf,bK,aH,cG,dB,ah,aA,aQ,dO,ac,ax,ao,am,bg,bE,bh,az];unfold bB nh at h;refine ju hK ⟨_,rfl,?_⟩;simp only [Rq,Rh];refine vM (lo:=65) (up:=90) fun H1 cp=>⟨_,rfl,?_⟩;rw [←decide_not,af];refine ba (fun h1=>?_) fun h1=>?_
 ·rw [Rj h1,Rj (by decide)] at h;exact h H1 F (hK.nil cp) (Up.of_nil cp)
 rw [Re h1] at h;refine wn (hK.nil cp) hv fun H2 g9=>⟨_,rfl,?_⟩;have s4:=cp.trans g9;rw [af];refine ba (fun h2=>?_) fun h2=>?_
 ·rw [Rj h2,Rj (by decide)] at h;exact h H2 F (hK.nil s4) (Up.of_nil s4)
 rw [Re h2] at h;refine kx (hK.nil s4) hv fun a l c G H3 ho ly hG=>⟨_,_,_,rfl,?_⟩;have Di:=s4.trans ly;have hl:l=v.glob.length:=by have:=ho.len;simpa [bF,cy] using this.symm
 rw [af];refine ba (fun h3=>?_) fun h3=>?_
 ·rw [Rj (show 256<=v.glob.length by omega),Rj (by decide)] at h;exact h H3 F (hK.nil Di) (Up.of_nil Di)
 rw [Re (show ¬ 256<=v.glob.length by omega),Re (by decide)] at h;refine yf (hK.nil Di) fun H4 mb EX p3=>⟨_,rfl,?_⟩;have GW:=Di.trans p3;have Ex:Up F H F H4:=Up.of_nil GW;unfold dI at h;have Fi:(0:Int)<=s.stack.length∧(s.stack.length:Int)<=1000000:=⟨by omega,by omega⟩;have fin:∀ (R:Int × SP × TB) (H5:ae) (F5:aB),fy s t (bC v.glob) name=R->PM H5 mb b F5 R.2.1 R.2.2 t.texts.length s.h.mark s.stack.length->Up F H F5 H5->ag PP 66 #[Cv mb,ac R.1] (fun v37 H13=>∃ n38:Int,v37=ac n38∧Q (ac n38) H13) H5:=by
  intro R H5 F5 eR EZ DY;rw [eR] at h;exact Bp EZ Fi fun H6 Ew DQ=>⟨_,rfl,h H6 F5 Ew (DY.trans ⟨DQ,fun _ h=>.inl h⟩)⟩
 refine sG EX fun H5 F5 EZ DY=>⟨_,_,rfl,?_⟩;have E0:=Ex.trans DY;rw [bq,af];refine ba (fun h5=>?_) fun h5=>?_
 rotate_left
 ·have eR:fy s t (bC v.glob) name=((t.add name).1.2,s,(t.add name).2):=by unfold fy;rw [Rj h5]
  have:=fin _ H5 F5 eR EZ E0;exact this
 rw [Rj h5];obtain ⟨nn,en,en2,_⟩:=jp name h5;have eR:fy s t (bC v.glob) name=im s (t.add name).2 (bC v.glob) (4*(t.add name).1.1+2):=by unfold fy;rw [Re (by simpa using h5)]
 rw [en] at eR ⊢;generalize (t.add name).2=t1 at *;unfold im at eR;have Iq:=EZ.k.wft;have Ib:=(eq en2).2;have sz:∀ w∈bC v.glob++[4*(nn:Int)+2,4],d8 w:=fun w hw=>by
  rcases Rl.1 hw with hw | hw
  ·exact ik hv.ks w hw
  ·simp only [Rk,Sa,Sx] at hw;rcases hw with rfl | rfl
   ·exact js Iq Ib
   ·decide
 obtain ⟨k1,_⟩:=iu hv.ks (by omega) sz;have mc:∀ {H':ae},Fr [] H5 H'->aj H' ⟨mb,0,none⟩=some (Cv b):=fun hf=>(EZ.m.fr hf (by simp)).cell 0;refine ⟨_,rfl,_,EZ.m.cell 0,_,rfl,_,EZ.m.cell 0,mf EZ.k fun H6 f6=>⟨_,rfl,⟨⟨mc f6,trivial⟩,trivial⟩,?_⟩⟩;rw [hv.ks.root1];refine vA (EZ.k.nil f6) fun a7 l7 c7 G7 H7 Ir f7 Is=>⟨_,_,_,rfl,trivial,dt (by decide) ⟨_,rfl,trivial,trivial,?_⟩⟩;rw [KS.gwords hv.ks] at Ir;have fp:=(Fr.push [] H7 (.cells #[ac (4*(nn:Int)+2),ac 4] 31));have Eh:Rd 1 (H7.push (.cells #[ac (4*(nn:Int)+2),ac 4] 31)) (some ⟨H7.size,0,none⟩) 2 (au [4*(nn:Int)+2,4]):=gi (cs:=[4*(nn:Int)+2,4]);rw [show ((4:Int)*1)=4 from rfl];generalize (H7.push (.cells #[ac (4*(nn:Int)+2),ac 4] 31))=Hp at fp Eh ⊢;have D8:=eX v.glob;refine sQ (xs:=[4*(nn:Int)+2,4]) EZ ((f6.trans f7).trans fp) (Ir.fr fp (by simp)) (fun x hx=>Rr f6.1 (Is x hx)) (by omega) Eh (by decide) fun H8 F8 Lj EL=>⟨_,_,rfl,trivial,?_⟩;have J5:=E0.trans EL;rw [bq,af];refine ba (fun h6=>?_) fun h6=>?_
 ·rw [Re (by simpa using h6)] at eR;obtain ⟨sb,F1,C1,hS,b9,_,_,pp⟩:=Lj.k.sp;refine ⟨_,rfl,_,Lj.m.cell 0,_,rfl,_,C1,qy hS (fun o ho=>?_) fun H9 PZ FP=>⟨_,rfl,?_⟩⟩
  ·obtain ⟨x,D6,s7,_⟩:=k1.view.root;rw [k1.king] at ho;rw [D6] at ho;cases ho;exact s7
  have Ey:Up F8 H8 F8 H9:=⟨FP.mono b9,fun _ h=>.inl h⟩
  have:=fin _ H9 F8 eR (Lj.up (pp H9 _ PZ FP) Ey) (J5.trans Ey);rw [h6];exact this
 ·rw [Rj h6] at eR
  have:=fin _ H8 F8 eR Lj J5;exact this
theorem iF (hK:PK H b F s t) (h:∀ sb F1,aj H ⟨b,0,none⟩=some (Cv sb)->fO H sb F1 s->(∀ x∈F1,x∈F)->(∀ H' F1' s',fO H' sb F1' s'->Up F1 H F1' H'->∃ F',PK H' b F' s' t∧Up F H F' H')->(∀ H' s',fO H' sb F1 s'->Fr F1 H H'->PK H' b F s' t)->Q (Cv sb) H):ag PP 8 #[Cv b] Q H:=by
 obtain ⟨sb,F1,hc,hS,b9,_,pp,Dt⟩:=hK.sp;apply BE;dsimp only [ah,aQ,ao,ch,am];exact ⟨_,rfl,_,hc,h sb F1 hc hS b9 pp Dt⟩
theorem qK (hK:PK H b F s t) (h:∀ tb F1,aj H ⟨b,1,none⟩=some (Cv tb)->mD H tb F1 t->Q (Cv tb) H):ag PP 190 #[Cv b] Q H:=by
 obtain ⟨tb,F1,hc,hT,_⟩:=hK.tb;apply vT;dsimp only [ah,aQ,ao,ch,am];exact ⟨_,rfl,_,hc,h tb F1 hc hT⟩
end
section
variable {Q:QT}{H:ae}
variable {a b c d A B D P:Option Addr}{i j k m n x y z I J K M N:Int}{l o r s u v L O R S U V:Nat}{t w T W:ByteArray}{e E g:Bool}{q:Option Nat}{p X Y Z:Value}{F G:Addr}
theorem Bu (h:dU 4 #[ac 60000,ac 9000] H fun a b c=>dU 5 #[ac 60000,ac 9000] c fun c d e=>az (bx false) fun f=>ah (ch a) (Q f e) (aH 6 #[ac b] e fun b e=>ah (b != d) (Q f e) (aH 7 #[ac i,ac 1,ac 2100] e fun b d=>az (am a) fun a=>dB 8 #[a] d fun d e=>az (ac 0) fun g=>az (ac 44) fun i=>az (ac (aI (b+1))) fun k=>aA 9 #[am d,i,k,g] e fun d e l=>ao c fun m=>aQ l m fun m=>aA 10 #[am m,i,k,g] l fun k l m=>dB 8 #[a] m fun m n=>az (ac d) fun o=>aH 11 #[am m,ax (some (bf n.size)) 1 1] (bg n #[o] 31) fun _ m=>ao c fun n=>aQ m n fun n=>az (ac k) fun p=>aH 12 #[am n,ax (some (bf m.size)) 1 1] (bg m #[p] 31) fun _ m=>ah (d != k) (Q f m) (aH 6 #[ac e] m fun d e=>ah (d != l) (Q f e) (ce [g] e fun d e k l m=>ah (aZ m b) (dB 8 #[a] l fun n q=>aA 9 #[am n,i,ac 1,g] q fun n q r=>ao c fun s=>aQ r s fun s=>aA 10 #[am s,i,ac 1,g] r fun i r s=>ah (n != i) (Q f s) (aH 6 #[ac q] s fun q s=>ah (q != r) (Q f s) (dB 8 #[a] s fun f q=>dB 13 #[am f] q fun f q=>aH 15 #[o] q fun q r=>aH 14 #[am f,ac q,ac m,ac n] r fun _ f=>ao c fun q=>aQ f q fun r=>ao r fun s=>aQ f s fun t=>aH 15 #[p] f fun f u=>((aj u s=some (am t)∧True)∧(aj u q=some (am r)∧True)∧True)∧aH 16 #[am t,ac f,ac m,ac i] u fun _ f=>True∧aH 7 #[ac j,g,ac (aI (b-1))] f fun f g=>az (ac (aI (m+1))) fun j=>ah (m == f) (dB 8 #[a] g fun a f=>dB 13 #[am a] f fun a f=>aH 15 #[o] f fun f g=>aH 14 #[am a,ac f,ac b,ac n] g fun _ a=>ao c fun c=>aQ a c fun f=>ao f fun g=>aQ a g fun m=>aH 15 #[p] a fun a n=>((aj n g=some (am m)∧True)∧(aj n c=some (am f)∧True)∧True)∧aH 16 #[am m,ac a,ac b,ac i] n fun _ a=>True∧bt d e [j] a k l) (bt d e [j] g k l)))) (az (bh (⟨#[71]⟩:ByteArray)) fun b=>aH 17 #[a,b] l fun _ d=>aH 18 #[am c,b] d fun _ b=>aH 19 #[a,g,o] b fun _ b=>aH 20 #[am c,g,p] b fun _ b=>dV 21 #[a] b fun a b d=>dV 22 #[am c] d fun c d e=>ah (iV a c) (aH 6 #[ac b] e fun a b=>ah (a == d) (Q (bx (d == 0)) b) (Q f b)) (Q f e))))))):ag PP 3 #[ac i,ac j] Q H :=
 okL Tryz.func3 rfl (fun | 13=>some [(12,3)] | _=>none) h
theorem BJ (h:Q (ac i) H):ag PP 6 #[ac i] Q H :=
 okF Tryz.func6 rfl h
theorem Bm (h:az (aI (aI (k-j)+1)) fun a=>az (Int.tmod i a) fun b=>az (ac (aI (j+aI (aI (aI (b+k)-j)+1)))) fun c=>az (ac (aI (j+b))) fun d=>az (decide (a=0)) fun a=>ah (decide (i≥j)) (ah (decide (i<=k)) (Q (ac i) H) (ah a False (ah (aZ b 0) (Q c H) (Q d H)))) (ah a False (ah (aZ b 0) (Q c H) (Q d H)))):ag PP 7 #[ac i,ac j,ac k] Q H :=
 okF Tryz.func7 rfl h
def Ct (a:Option Addr) (Q:QT) (H:ae):Prop :=
 az (am a) fun a=>dB 8 #[a] H fun b c=>az (bh (⟨#[]⟩:ByteArray)) fun d=>ah (ch b) (∀ a:ae,fT H.size c a->Q (bn #[d,ac 2]) a) (az (eS (some c.size)) fun e=>az (bx false) fun f=>az (ax none 0 0) fun g=>az (c.push (.map #[] 0)) fun c=>az (bg c #[a,e,g,f] 140) fun i=>az (bf i.size) fun j=>az (am (some (bf c.size))) fun c=>bi (bg i #[am none] 137) j c fun i=>Bd 80 #[] i fun i k=>bi (bg k #[eS none] 141) (bf k.size) (eS i) fun l=>cG 59 #[a] (bg l #[am none,g] 146) fun m n o p=>∃ q:List Value->ae->Prop,∃ r:List Value->ae->Nat,az (ac 0) fun s=>q [s] p∧(∀ p t,q p t->∀ u:Nat->Value,∃ v,p=[ac v]∧az (am (some (bf l.size))) fun l=>ah (aZ v (n:Int)) (bm v n m fun b=>fE t (bl b v 1) fun b=>aA 77 #[a,ac v] t fun a _ c=>az (⟨#[32,61,32]⟩:ByteArray) fun d=>ah (bA ((b.size+d.size:Nat):Int) IntKind.i64.max) False (aQ c j fun e=>cB 82 #[am e,ac a] c fun a c=>ah (bA (((b++d).size+a.size:Nat):Int) IntKind.i64.max) False (az (⟨#[10]⟩:ByteArray) fun e=>ah (bA (((b++d++a).size+e.size:Nat):Int) IntKind.i64.max) False (pi 81 #[l,bh (b++d++a++e)] (fun a b=>∃ c,∃ d:Value,a=bn #[ac c,d]∧bt q r [ac (aI (v+1))] b p t) c)))) (aQ t j fun p=>vu 83 #[am p] t fun q r t w=>∀ x:FuncId,az (bn #[]) fun y=>az (fW PP 21 0) fun z=>pi q (r++#[.func (.yield (w.size+1)) #[] #[]]++t) (fun _ a=>il (w.size+1) (fun a=>aQ a j fun b=>ao b fun b=>pj a (b.add 3) fun b=>ah b (pi 81 #[l,bh (⟨#[109,111,114,101,10]⟩:ByteArray)] (fun a b=>∃ c,∃ d:Value,a=bn #[ac c,d]∧cB 87 #[l] b fun a b=>∀ c:ae,fT H.size b c->Q (bn #[bh a,s]) c) a) (cB 87 #[l] a fun a b=>∀ c:ae,fT H.size b c->Q (bn #[bh a,s]) c)) (fun a=>∀ b:ae,fT H.size a b->Q (bn #[d,s]) b) [] a) ((w.push (.deferred (some []))).push (.loop (gg x #[a,y,d,s,am (some j),am (some (bf k.size)),l,u 7,u 8,u 9,u 10,y,y,y,y,a,am b,f,a,e,dO #[a,e,g,f],c,eS i,a,ax m n o,ac (n:Int),ac v,f,u 28,u 29,u 30,u 31,u 32,u 33,u 34,u 35,u 36,u 37,u 38,u 39,u 40,u 41,u 42,u 43,u 44,u 45,am p,.func (.func q) r t,y,y,y,y,y,y,y,y,y,y,y,y,y,y,y,y,y,y,y,y,y,y,y,y,y,y,y,y,y,y,y,y,y] z.1 z.2.1 z.2.2 w.size))))))
theorem zF {p1:Option Addr} (h:Ct p1 Q H):ag PP 21 #[.pointer p1] Q H :=
 nz good Tryz.func21 rfl (Ls:=fun | 7=>some [(26,3)] | _=>none) (mk:=true) (by kernel_rfl) h
def cI (l:Nat) (F:Addr) (G:Addr) (q_6:Addr) (i:Int) (j:Int) (k:Int) (a:Option Addr) (o:Nat) (r:Nat) (Q:QT) (H:ae):Prop :=
 az (bf H.size) fun b=>bi (bg H #[ac 0,ac 0,ax none 0 0] 156) b (ac j) fun c=>az (ci H.size 1) fun d=>bi c d (ac k) fun c=>az (ci H.size 2) fun e=>bi c e (ax a o r) fun a=>∃ c:Loop,a[l]?=some (.loop c)∧c.state=.ready∧az (a.setIfInBounds l (.loop { c with state:=.busy })) fun a=>gE a G fun c=>aM a d fun f=>rH (Instr.lookup 141 (eS c) (ac f) true) a fun a c f g j=>Bf (fun b=>ah (!g) (b [.func (.func 84) #[] #[]] j) (b [.func (.func a) c f] j)) fun a c f g=>aQ g F fun j=>aM g d fun k=>aQ g F fun m=>aM g b fun n=>aM g d fun o=>aO g e fun p q r=>cB 85 #[ac i] g fun g i=>az (ax p q r) fun p=>az (aj i d) (fun a=>(aj i b=some (ac n)∧a=some (ac o)∧aj i e=some p∧True)∧(aj i F=some (am m)∧True)∧(a=some (ac k)∧True)∧(aj i F=some (am j)∧True)∧True)∧az (⟨#[64]⟩:ByteArray) fun q=>ah (bA ((q.size+g.size:Nat):Int) IntKind.i64.max) False (az (⟨#[32]⟩:ByteArray) fun r=>ah (bA (((q++g).size+r.size:Nat):Int) IntKind.i64.max) False (cB 86 #[am j,ac k] i fun i j=>((aj j b=some (ac n)∧aj j d=some (ac o)∧aj j e=some p∧True)∧(aj j F=some (am m)∧True)∧True)∧ah (bA (((q++g++r).size+i.size:Nat):Int) IntKind.i64.max) False (cB a (c++#[am m,dO #[ac n,ac o,p]]++f) j fun a b=>True∧ah (bA (((q++g++r++i).size+a.size:Nat):Int) IntKind.i64.max) False (az (⟨#[10]⟩:ByteArray) fun c=>ah (bA (((q++g++r++i++a).size+c.size:Nat):Int) IntKind.i64.max) False (pi 81 #[am (some q_6),bh (q++g++r++i++a++c)] (fun a b=>∃ c,∃ d:Value,a=bn #[ac c,d]∧True∧(∃ a:Loop,b[l]?=some (.loop a)∧Q (bx true) (b.setIfInBounds l (.loop { a with state:=.ready,pending:=none })))) b)))))
theorem gR {l:Nat}{fn:FuncId}{D:Nat}{Ya:Value}{Yb:Value}{Yc:Value}{Yd:Value}{q_4:Addr}{q_5:Addr}{q_6:Addr}{Yh:Value}{Yi:Value}{Yj:Value}{Yk:Value}{Yl:Value}{Ym:Value}{Yn:Value}{Yo:Value}{Yp:Value}{Yq:Value}{Yr:Value}{Ys:Value}{Yt:Value}{Yu:Value}{Yv:Value}{Yw:Value}{Yx:Value}{Yy:Value}{Yz:Value}{YA:Value}{YB:Value}{YC:Value}{YD:Value}{YE:Value}{YF:Value}{YG:Value}{YH:Value}{YI:Value}{YJ:Value}{YK:Value}{YL:Value}{YM:Value}{YN:Value}{YO:Value}{YP:Value}{YQ:Value}{YR:Value}{YS:Value}{YT:Value}{YU:Value}{YV:Value}{YW:Value}{YX:Value}{YY:Value}{YZ:Value}{Y0:Value}{Y1:Value}{Y2:Value}{Y3:Value}{Y4:Value}{Y5:Value}{Y6:Value}{Y7:Value}{Y8:Value}{Y9:Value}{Za:Value}{Zb:Value}{Zc:Value}{Zd:Value}{Ze:Value}{Zf:Value}{Zg:Value}{Zh:Value}{Zi:Value}{Zj:Value}{Zk:Value}{Zl:Value}{Zm:Value}{Zn:Value}{Zo:Value}{Zp:Value}{Zq:Value}{Zr:Value}{Zs:Value}{n1:Int}{n2:Int}{n3:Int}{a4:Option Addr}{l4:Nat}{c4:Nat} (hl:H[l]?=some (.loop (gg fn #[Ya,Yb,Yc,Yd,.pointer (some q_4),.pointer (some q_5),.pointer (some q_6),Yh,Yi,Yj,Yk,Yl,Ym,Yn,Yo,Yp,Yq,Yr,Ys,Yt,Yu,Yv,Yw,Yx,Yy,Yz,YA,YB,YC,YD,YE,YF,YG,YH,YI,YJ,YK,YL,YM,YN,YO,YP,YQ,YR,YS,YT,YU,YV,YW,YX,YY,YZ,Y0,Y1,Y2,Y3,Y4,Y5,Y6,Y7,Y8,Y9,Za,Zb,Zc,Zd,Ze,Zf,Zg,Zh,Zi,Zj,Zk,Zl,Zm,Zn,Zo,Zp,Zq,Zr,Zs] (fW PP 21 0).1 (fW PP 21 0).2.1 (fW PP 21 0).2.2 D))) (h:cI l q_4 q_5 q_6 n1 n2 n3 a4 l4 c4 Q H):eP PP l #[ac n1,.agg #[ac n2,ac n3,.slice a4 l4 c4]] Q H :=
 mq good hl (by kernel_rfl) (by kernel_rfl) (Ls:=fun | 1018=>some [(13,157)] | _=>none) (Ls':=fun | 1018=>some [(13,157)] | _=>none) (by kernel_rfl) h
theorem zW (h:az (bh (⟨#[]⟩:ByteArray)) fun b=>ah (ch a) (Q (bn #[b,ac 2]) H) (cG 69 #[am a] (bg H #[am a,ax none 0 0,bx false] 164) fun c d _ e=>pm [b,ac 0] e fun b e f g i j=>az (⟨#[10]⟩:ByteArray) fun k=>az (some (bf H.size)) fun l=>ah (aZ j (d:Int)) (aA 78 #[am a,ac j] g fun a _ m=>bm j d c fun c=>fE m (bl c j 1) fun d=>ah (bA ((i.size+d.size:Nat):Int) IntKind.i64.max) False (az (⟨#[32,61,32]⟩:ByteArray) fun n=>ah (bA (((i++d).size+n.size:Nat):Int) IntKind.i64.max) False (cB 88 #[am l,ac a] m fun a l=>((aj l (bl c j 1)=some (bh d)∧True)∧True)∧ah (bA (((i++d++n).size+a.size:Nat):Int) IntKind.i64.max) False (ah (bA (((i++d++n++a).size+k.size:Nat):Int) IntKind.i64.max) False (bt b e [bh (i++d++n++a++k),ac (aI (j+1))] l f g))))) (pm [bh i,ac 0] g fun a b c d e f=>ao l fun g=>aO d (g.add 1) fun _ g _=>ah (aZ f (g:Int)) (cB 89 #[am l,ac f] d fun g i=>ah (bA ((e.size+g.size:Nat):Int) IntKind.i64.max) False (ah (bA (((e++g).size+k.size:Nat):Int) IntKind.i64.max) False (bt a b [bh (e++g++k),ac (aI (f+1))] i c d))) (ao l fun a=>pj d (a.add 2) fun a=>ah a (az (⟨#[109,111,114,101,10]⟩:ByteArray) fun a=>ah (bA ((e.size+a.size:Nat):Int) IntKind.i64.max) False (Q (bn #[bh (e++a),ac 0]) d)) (Q (bn #[bh e,ac 0]) d))))):ag PP 22 #[.pointer a] Q H :=
 okL Tryz.func22 rfl (fun | 7=>some [(5,9),(7,3)] | 12=>some [(5,9),(10,3)] | _=>none) h
theorem AU (h:az (eS (some H.size)) fun a=>je (Instr.mapUpdate 141 a (ac 10) (.func (.func 136) #[] #[])) (H.push (.map #[] 0)) fun b=>je (Instr.mapUpdate 141 a (ac 11) (.func (.func 139) #[] #[])) b fun b=>je (Instr.mapUpdate 141 a (ac 14) (.func (.func 141) #[] #[])) b fun b=>je (Instr.mapUpdate 141 a (ac 13) (.func (.func 143) #[] #[])) b fun b=>je (Instr.mapUpdate 141 a (ac 15) (.func (.func 143) #[] #[])) b fun b=>je (Instr.mapUpdate 141 a (ac 16) (.func (.func 143) #[] #[])) b fun b=>je (Instr.mapUpdate 141 a (ac 17) (.func (.func 144) #[] #[])) b fun b=>Q a b):ag PP 80 #[] Q H :=
 okF Tryz.func80 rfl h
theorem zl (h:fU 146 #[am a,ac i] H fun b c d=>ah c (Q (bh b) d) (aA 147 #[ac i] d fun b _ c=>ao a fun d=>gE c (d.add 1) fun d=>az (ac b) fun b=>kT (Instr.lookup 138 (eS d) b true) c fun c d e=>az (⟨#[64]⟩:ByteArray) fun f=>az (ax (some (bf e.size)) 1 1) fun g=>az (bg e #[b] 3) fun i=>ah (!d) (ao a fun j=>aO e (j.add 2) fun _ j _=>ah (decide ((j:Int)≥2000)) (ao a fun a=>bi e (a.add 3) (bx true) fun a=>Q (bh f) a) (ah (!d) (ao a fun c=>aO e (c.add 2) fun c d e=>bE (Builtin.append_ #[109,109] 109 #[ax c d e,g]) i fun c d e g=>ao a fun i=>bi g (i.add 2) (ax c d e) fun c=>ao a fun d=>aO c (d.add 2) fun _ d _=>ao a fun a=>gE c (a.add 1) fun a=>je (Instr.mapUpdate 138 (eS a) b (ac (d:Int))) c fun a=>cB 85 #[ac (d:Int)] a fun a b=>ah (bA ((f.size+a.size:Nat):Int) IntKind.i64.max) False (Q (bh (f++a)) b)) (cB 85 #[ac c] e fun a b=>ah (bA ((f.size+a.size:Nat):Int) IntKind.i64.max) False (Q (bh (f++a)) b)))) (ah (!d) (ao a fun c=>aO e (c.add 2) fun c d e=>bE (Builtin.append_ #[109,109] 109 #[ax c d e,g]) i fun c d e g=>ao a fun i=>bi g (i.add 2) (ax c d e) fun c=>ao a fun d=>aO c (d.add 2) fun _ d _=>ao a fun a=>gE c (a.add 1) fun a=>je (Instr.mapUpdate 138 (eS a) b (ac (d:Int))) c fun a=>cB 85 #[ac (d:Int)] a fun a b=>ah (bA ((f.size+a.size:Nat):Int) IntKind.i64.max) False (Q (bh (f++a)) b)) (cB 85 #[ac c] e fun a b=>ah (bA ((f.size+a.size:Nat):Int) IntKind.i64.max) False (Q (bh (f++a)) b))))):ag PP 82 #[.pointer a,ac i] Q H :=
 okF Tryz.func82 rfl h
theorem Ac (h:Q (.func (.func 148) #[] #[am (some (bf H.size))]) (bg H #[am a] 137)):ag PP 83 #[.pointer a] Q H :=
 okF Tryz.func83 rfl h
theorem yO (h:jq 149 #[am a,ac i] H fun b c d e f g=>bi (bg g #[ac 0,ac 0,ax none 0 0] 156) (bf g.size) (ac b) fun b=>bi b (ci g.size 1) (ac c) fun b=>az (ci g.size 2) fun c=>bi b c (ax d e f) fun b=>aO b c fun _ d _=>ah (decide ((d:Int)<=0)) (Q (bh (⟨#[]⟩:ByteArray)) b) (aO b c fun c d _=>bm 0 d c fun c=>aM b (bl c 0 1) fun c=>fU 152 #[am a,ac c] b fun a _ b=>Q (bh a) b)):ag PP 86 #[.pointer a,ac i] Q H :=
 okF Tryz.func86 rfl h
theorem zC (h:ao a fun b=>aQ H b fun b=>fU 153 #[am b,ac i] H fun b c d=>ah c (Q (bh b) d) (aH 15 #[ac i] d fun b c=>ce [ac 0] c fun c d e f g=>ao a fun i=>aO f (i.add 1) fun _ i _=>az (⟨#[64]⟩:ByteArray) fun j=>ah (aZ g (i:Int)) (ao a fun a=>aO f (a.add 1) fun a i _=>bm g i a fun a=>aM f (bl a g 1) fun a=>az (ac (aI (g+1))) fun g=>ah (a == b) (cB 85 #[g] f fun a b=>ah (bA ((j.size+a.size:Nat):Int) IntKind.i64.max) False (Q (bh (j++a)) b)) (bt c d [g] f e f)) (ao a fun c=>aO f (c.add 1) fun _ c _=>ah (decide ((c:Int)≥2000)) (ao a fun a=>bi f (a.add 2) (bx true) fun a=>Q (bh j) a) (ao a fun c=>aO f (c.add 1) fun c d e=>bE (Builtin.append_ #[109,109] 109 #[ax c d e,ax (some (bf f.size)) 1 1]) (bg f #[ac b] 3) fun b c d e=>ao a fun f=>bi e (f.add 1) (ax b c d) fun b=>ao a fun a=>aO b (a.add 1) fun _ a _=>cB 85 #[ac (a:Int)] b fun a b=>ah (bA ((j.size+a.size:Nat):Int) IntKind.i64.max) False (Q (bh (j++a)) b))))):ag PP 88 #[.pointer a,ac i] Q H :=
 okL Tryz.func88 rfl (fun | 6=>some [(8,3)] | _=>none) h
theorem Au (h:ao a fun b=>aO H (b.add 1) fun b c _=>bm i c b fun b=>aM H (bl b i 1) fun b=>ao a fun c=>aQ H c fun d=>az (ac b) fun b=>aH 35 #[b] H fun e f=>((aj f c=some (am d)∧True)∧True)∧aA 154 #[am d,ac e] f fun c _ d=>True∧ao a fun e=>aQ d e fun f=>cB 85 #[ac (aI (i+1))] d fun d g=>((aj g e=some (am f)∧True)∧True)∧az (⟨#[64]⟩:ByteArray) fun e=>ah (bA ((e.size+d.size:Nat):Int) IntKind.i64.max) False (az (⟨#[32]⟩:ByteArray) fun i=>ah (bA (((e++d).size+i.size:Nat):Int) IntKind.i64.max) False (cB 155 #[am f,ac c] g fun f g=>True∧ah (bA (((e++d++i).size+f.size:Nat):Int) IntKind.i64.max) False (az (bA (((e++d++i++f).size+i.size:Nat):Int) IntKind.i64.max) fun j=>ah (c == 10) (ah j False (ao a fun a=>aQ g a fun a=>cB 157 #[am a,b] g fun a b=>cB 156 #[bh a] b fun a b=>ah (bA (((e++d++i++f++i).size+a.size:Nat):Int) IntKind.i64.max) False (Q (bh (e++d++i++f++i++a)) b))) (ah (c == 11) (az (⟨#[32,40]⟩:ByteArray) fun c=>ah (bA (((e++d++i++f).size+c.size:Nat):Int) IntKind.i64.max) False (cB 158 #[am a,b] g fun a b=>ah (bA (((e++d++i++f++c).size+a.size:Nat):Int) IntKind.i64.max) False (az (⟨#[41]⟩:ByteArray) fun g=>ah (bA (((e++d++i++f++c++a).size+g.size:Nat):Int) IntKind.i64.max) False (Q (bh (e++d++i++f++c++a++g)) b)))) (ah (c == 14) (ao a fun a=>aQ g a fun a=>aH 160 #[am a,b,ac 4] g fun a b=>aA 159 #[ac a] b fun a _ b=>ah j False (cB 85 #[ac a] b fun a b=>ah (bA (((e++d++i++f++i).size+a.size:Nat):Int) IntKind.i64.max) False (Q (bh (e++d++i++f++i++a)) b))) (Be (fun a=>ah (c == 13) (a [bx true] g) (ah (c == 15) (a [bx true] g) (a [bx (c == 16)] g))) fun g k=>az (bh (e++d++i++f)) fun l=>ah g (Q l k) (ah (c == 17) (ao a fun c=>aQ k c fun c=>aH 161 #[am c,b] k fun c g=>ah (c == 0) (Q l g) (ah j False (cB 158 #[am a,b] g fun a b=>ah (bA (((e++d++i++f++i).size+a.size:Nat):Int) IntKind.i64.max) False (Q (bh (e++d++i++f++i++a)) b)))) (cB 162 #[am a,ac c,b] k fun a b=>ah (bA (((e++d++i++f).size+a.size:Nat):Int) IntKind.i64.max) False (Q (bh (e++d++i++f++a)) b)))))))))):ag PP 89 #[.pointer a,ac i] Q H :=
 okL Tryz.func89 rfl (fun | 1015=>some [(79,4)] | _=>none) h
theorem wZ (h:az (bg H #[ac i,ac j,ax b l o] 156) fun b=>aO b (ci H.size 2) fun c d e=>cB 140 #[am a,ax c d e] b fun a b=>az (⟨#[32,40]⟩:ByteArray) fun c=>ah (bA ((c.size+a.size:Nat):Int) IntKind.i64.max) False (az (⟨#[41]⟩:ByteArray) fun d=>ah (bA (((c++a).size+d.size:Nat):Int) IntKind.i64.max) False (Q (bh (c++a++d)) b))):ag PP 139 #[.pointer a,.agg #[ac i,ac j,.slice b l o]] Q H :=
 okF Tryz.func139 rfl h
theorem x6 (h:bE (Instr.makeSlice 73 (ac (l:Int)) (ac (l:Int))) H fun c d e f=>ce [ac 0] f fun f g i j k=>ah (aZ k (l:Int)) (bm k l b fun b=>aM j (bl b k 1) fun b=>cB 82 #[am a,ac b] j fun a b=>bm k d c fun c=>bi b (bl c k 1) (bh a) fun a=>bt f g [ac (aI (k+1))] a i j) (cB 184 #[ax c d e,bh (⟨#[32]⟩:ByteArray)] j fun a b=>Q (bh a) b)):ag PP 140 #[.pointer a,.slice b l o] Q H :=
 okL Tryz.func140 rfl (fun | 3=>some [(13,3)] | _=>none) h
theorem yo (h:az (ac i) fun b=>aH 50 #[b] H fun c d=>az (bx true) fun e=>ah (c == 1) (aA 142 #[b] d fun a _ b=>cB 85 #[ac a] b fun a b=>Q (bn #[bh a,e]) b) (ah (c == 2) (fU 152 #[am a,b] d fun a b c=>az (⟨#[35]⟩:ByteArray) fun d=>ah (!b) (Q (bn #[bh d,e]) c) (cB 137 #[bh a] c fun a b=>ah (bA ((d.size+a.size:Nat):Int) IntKind.i64.max) False (Q (bn #[bh (d++a),e]) b))) (aA 147 #[b] d fun c _ d=>ah (c == 1) (Q (bn #[bh (⟨#[110,105,108]⟩:ByteArray),e]) d) (ah (c == 3) (Q (bn #[bh (⟨#[116,114,117,101]⟩:ByteArray),e]) d) (ah (c == 2) (Q (bn #[bh (⟨#[102,97,108,115,101]⟩:ByteArray),e]) d) (ao a fun f=>aQ d f fun f=>aA 186 #[am f,b] d fun b _ d=>ah (b == 12) (cB 86 #[am a,ac c] d fun a b=>Q (bn #[bh a,e]) b) (Q (bn #[bh (⟨#[]⟩:ByteArray),bx false]) d))))))):ag PP 146 #[.pointer a,ac i] Q H :=
 okF Tryz.func146 rfl h
theorem yr (h:ce [ac 0] H fun a b c d e=>aQ d F fun f=>ao f fun f=>aO d (f.add 2) fun _ f _=>ah (aZ e (f:Int)) (aQ d F fun f=>aQ d F fun g=>ao g fun g=>aO d (g.add 2) fun g i _=>bm e i g fun g=>aM d (bl g e 1) fun g=>jq 149 #[am f,ac g] d fun f g i j k m=>True∧eP PP l #[ac (aI (e+1)),dO #[ac f,ac g,ax i j k]] (fun f g=>∃ i,f=bx i∧True∧ah (!i) (Q (bn #[]) g) (bt a b [ac (aI (e+1))] g c d)) m) (Q (bn #[]) d)):ag PP 148 #[.func (.yield l) #[] #[],.pointer (some F)] Q H :=
 okL Tryz.func148 rfl (fun | 1=>some [(3,3)] | _=>none) h
theorem wD (h:az (ax none 0 0) fun b=>az (ac 0) fun c=>az (ac i) fun d=>aA 45 #[d] (bg H #[c,c,b] 156) fun e _ f=>bi (bg f #[c,c,b] 156) (bf f.size) d fun g=>az (ci f.size 1) fun i=>bi g i c fun g=>az (ci f.size 2) fun j=>bi g j b fun b=>ao a fun g=>aQ b g fun g=>aA 186 #[am g,ac e] b fun b _ e=>bi e i (ac b) fun b=>ao a fun a=>aQ b a fun a=>dB 8 #[am a] b fun a b=>dB 13 #[am a] b fun a b=>cd 174 #[am a,d] b fun b _ _ e=>ce [c] e fun c e g k l=>ah (aZ l b) (aA 179 #[am a,d,ac l] k fun a _ b=>aO b j fun d f i=>bE (Builtin.append_ #[44,44] 44 #[ax d f i,ax (some (bf b.size)) 1 1]) (bg b #[ac a] 31) fun a b d f=>bi f j (ax a b d) fun a=>bt c e [ac (aI (l+1))] a g k) (aM k (bf f.size) fun a=>aM k i fun b=>aO k j fun c d e=>bi k (bf H.size) (ac a) fun a=>bi a (ci H.size 1) (ac b) fun a=>bi a (ci H.size 2) (ax c d e) fun a=>aM a (bf H.size) fun b=>aM a (ci H.size 1) fun c=>aO a (ci H.size 2) fun d e f=>Q (dO #[ac b,ac c,ax d e f]) a)):ag PP 149 #[.pointer a,ac i] Q H :=
 okL Tryz.func149 rfl (fun | 7=>some [(46,3)] | _=>none) h
theorem xK (h:aA 175 #[ac i] H fun b c d=>ah (c != 0) (Q (bn #[bh (⟨#[]⟩:ByteArray),bx false]) d) (ao a fun a=>aQ d a fun a=>dB 190 #[am a] d fun a c=>dV 176 #[am a,ac b] c fun a b c=>Q (bn #[bh a,bx (b == 0)]) c)):ag PP 152 #[.pointer a,ac i] Q H :=
 okF Tryz.func152 rfl h
theorem xO (h:az (ac i) fun b=>aH 51 #[b] H fun c d=>az (bx true) fun e=>ah (c == 1) (aA 159 #[b] d fun a _ b=>cB 85 #[ac a] b fun a b=>Q (bn #[bh a,e]) b) (ah (c == 2) (aA 191 #[b] d fun b _ c=>ao a fun a=>aQ c (a.add 1) fun a=>dV 182 #[am a,ac b] c fun a b c=>az (⟨#[35]⟩:ByteArray) fun d=>ah (b != 0) (Q (bn #[bh d,e]) c) (cB 156 #[bh a] c fun a b=>ah (bA ((d.size+a.size:Nat):Int) IntKind.i64.max) False (Q (bn #[bh (d++a),e]) b))) (aH 15 #[b] d fun c d=>ah (c == 1) (Q (bn #[bh (⟨#[110,105,108]⟩:ByteArray),e]) d) (ah (c == 3) (Q (bn #[bh (⟨#[116,114,117,101]⟩:ByteArray),e]) d) (ah (c == 2) (Q (bn #[bh (⟨#[102,97,108,115,101]⟩:ByteArray),e]) d) (aA 154 #[am a,b] d fun c _ d=>ah (c == 12) (aH 15 #[b] d fun b c=>cB 155 #[am a,ac b] c fun a b=>Q (bn #[bh a,e]) b) (Q (bn #[bh (⟨#[]⟩:ByteArray),bx false]) d))))))):ag PP 153 #[.pointer a,ac i] Q H :=
 okF Tryz.func153 rfl h
theorem vL (h:aH 160 #[am a,ac i,ac 0] H fun b c=>cB 192 #[am a,ac b] c fun a b=>Q (bh a) b):ag PP 155 #[.pointer a,ac i] Q H :=
 okF Tryz.func155 rfl h
theorem x7 (h:pm [bh (⟨#[]⟩:ByteArray),ac 0] H fun b c d e f g=>ao a fun j=>aQ e j fun j=>aH 161 #[am j,ac i] e fun j k=>ah (aZ g j) (ah (bA g 0) (az (⟨#[32]⟩:ByteArray) fun j=>ah (bA ((f.size+j.size:Nat):Int) IntKind.i64.max) False (ao a fun l=>aQ k l fun l=>aH 160 #[am l,ac i,ac g] k fun i k=>cB 88 #[am a,ac i] k fun a i=>ah (bA (((f++j).size+a.size:Nat):Int) IntKind.i64.max) False (bt b c [bh (f++j++a),ac (aI (g+1))] i d e))) (ao a fun j=>aQ k j fun j=>aH 160 #[am j,ac i,ac g] k fun i j=>cB 88 #[am a,ac i] j fun a i=>ah (bA ((f.size+a.size:Nat):Int) IntKind.i64.max) False (bt b c [bh (f++a),ac (aI (g+1))] i d e))) (Q (bh f) k)):ag PP 158 #[.pointer a,ac i] Q H :=
 okL Tryz.func158 rfl (fun | 3=>some [(5,9),(6,3)] | _=>none) h
theorem wg (h:ao a fun a=>aQ H a fun a=>ao a fun a=>aQ H a fun a=>aA 132 #[am a,ac i,ac j] H fun a _ b=>Q (ac a) b):ag PP 160 #[.pointer a,ac i,ac j] Q H :=
 okF Tryz.func160 rfl h
theorem xm (h:ao a fun a=>aQ H a fun a=>ao a fun a=>aQ H a fun a=>cd 131 #[am a,ac i] H fun a _ _ b=>Q (ac a) b):ag PP 161 #[.pointer a,ac i] Q H :=
 okF Tryz.func161 rfl h
theorem yq (h:aA 191 #[ac i] H fun b c d=>az (bh (⟨#[]⟩:ByteArray)) fun e=>ah (c != 0) (Q e d) (ao a fun a=>aQ d (a.add 1) fun a=>dV 182 #[am a,ac b] d fun a b c=>ah (b != 0) (Q e c) (Q (bh a) c))):ag PP 192 #[.pointer a,ac i] Q H :=
 okF Tryz.func192 rfl h
end
theorem ua {H H':ae}{X:aB} (h:Fr [] H H'):Up X H X H':=⟨h.of_nil,fun _ hb=>.inl hb⟩
def EK (H:ae) (b:Nat) (F:aB) (s:SP) (t:TB) (X:aB):Prop:=PK H b F s t∧eU H∧∀ x∈X,x∉F∧x≠aP∧x≠gP
theorem EK.up {H H':ae}{b:Nat}{F X X':aB}{s:SP}{t:TB} (h:EK H b F s t X) (u:Up X H X' H'):EK H' b F s t X':=by
 obtain ⟨hK,ht,hX⟩:=h;refine ⟨hK.fr u.1 (fun x hx hm=>(hX x hm).1 hx) (fun hm=>(hX _ hm).2.1 rfl),ht.fr u.1 (fun hm=>(hX _ hm).2.2 rfl),fun x hx=>?_⟩;rcases u.2 x hx with h1 | h1
 ·exact hX x h1
 ·have h2:=hK.kinds.lt;have h3:=ht.lt;exact ⟨fun hf=>by have:=hK.lt x hf;omega,by omega,by omega⟩
theorem EK.nil {H H':ae}{b:Nat}{F X:aB}{s:SP}{t:TB} (h:EK H b F s t X) (f:Fr [] H H'):EK H' b F s t X:=h.up (ua f)
section
variable {H:ae}{b:Nat}{F:aB}{s:SP}{t:TB}{v:KV}{Q:QT}
theorem vh (hK:PK H b F s t) (hv:KAllW s t v){lb:Nat} (hl:aj H ⟨lb,0,none⟩=some (Cv b)){o:Int} (ho:1<=o∧o<=65536){ws:List Int} (ha:eV s.h o ws)
  (h:∀ a l c G H',bZ 1 H' a l c (au ws) G->Fr [] H H'->(∀ x∈G,H.size<=x)->Q (.agg #[ac o,ac (ov s.h (4*o)).1,.slice a l c]) H'):ag PP 149 #[Cv lb,ac o] Q H:=by
 have hU:aY PP 44=some (1,8,some (ac 0)):=by kernel_rfl
 have Dr:lb<H.size:=by
  unfold aj at hl;cases hb:H[lb]? with
  | none=>rw [hb] at hl;cases hl
  | some _=>exact (Rt.1 hb).1
 have hwl:=ha.bnd hK.wfs.h;apply wD;dsimp only [bf,ci,dB,ah,cd,aA,aZ,aM,aO,aQ,dO,ac,ce,ax,bt,ao,am,bg,bE,az,bi,aI];have f0:=Fr.push [] H (.cells #[ac 0,ac 0,.slice none 0 0] 156);have b0:=bW.new H #[ac 0,ac 0,.slice none 0 0] 156;have s0:(H.push (.cells #[ac 0,ac 0,.slice none 0 0] 156)).size=H.size+1:=by simp
 generalize (H.push (.cells #[ac 0,ac 0,.slice none 0 0] 156))=H0 at f0 b0 s0 ⊢;refine sn ho ⟨_,_,rfl,?_⟩;refine Cp H0 _ _ _ _ _ _ ?_;rw [vq];have f1:=f0.trans (Fr.push [] H0 (.cells #[ac o,ac 0,.slice none 0 0] 156));have b1:=b0.push (.cells #[ac o,ac 0,.slice none 0 0] 156);have n1:=bW.new H0 #[ac o,ac 0,.slice none 0 0] 156;rw [s0] at n1 ⊢;generalize (H0.push (.cells #[ac o,ac 0,.slice none 0 0] 156))=H1 at f1 b1 n1 ⊢;have cl:∀ {Hz:ae},Fr [] H Hz->aj Hz ⟨lb,0,none⟩=some (Cv b):=fun {Hz} f=>by
  rw [←hl];unfold aj;rw [f.2 lb Dr (by simp)]
 refine ⟨_,rfl,_,cl f1,BI (hK.nil f1) hv ⟨_,_,rfl,?_⟩⟩;rw [ak,Rm];refine ⟨n1.wr (by simp),_,rfl,?_⟩;have n2:=n1.set 1 (ac (ov s.h (4*o)).1);have f2:Fr [] H (bc H1 ⟨H.size+1,1,none⟩ (ac (ov s.h (4*o)).1)):=Fr.late f1 (by show H.size<=H.size+1;omega);have b2:=b1.set_ne (a:=⟨H.size+1,1,none⟩) (by simp) (ac (ov s.h (4*o)).1);generalize (bc H1 ⟨H.size+1,1,none⟩ (ac (ov s.h (4*o)).1))=H2 at n2 f2 b2 ⊢;have n2:bW H2 (H.size+1) #[ac o,ac (ov s.h (4*o)).1,.slice none 0 0]:=n2;generalize ov s.h (4*o)=oc at n2 h ⊢;have It:=hK.nil f2;refine ⟨_,cl f2,iF It fun sb F1 hc hS b9 _ _=>⟨_,rfl,eh hS fun hb F2 hR q8 _=>⟨_,rfl,oy hR ⟨_,_,_,rfl,?_⟩⟩⟩⟩;rw [ha.size];have z2:=n2.lt;have s6:∀ x∈F2,x<H.size:=fun x hx=>hK.lt x (b9 x (q8 x hx));have frH:∀ {Hz:ae},Fr [H.size+1] H2 Hz->Fr [] H Hz:=fun {Hz} f=>⟨Rr f2.1 f.1,fun x hx _=>by rw [f.2 x (RC hx f2.1) (by simp;omega),f2.2 x hx (by simp)]⟩;refine ⟨fun w' H'=>∃(i:Nat) (a:Option Addr) (c:Nat) (G:aB),w'=[ac i]∧i<=ws.length∧bW H' (H.size+1) #[ac o,ac oc.1,.slice a i c]∧bZ 1 H' a i c (au (ws.take i)) G∧(∀ x∈G,H2.size<=x)∧Fr [H.size+1] H2 H',fun w' _=>match w' with
  | [.int _ i]=>((ws.length:Int)-i).toNat
  | _=>0,⟨0,none,0,[],rfl,RL _,n2,bZ.nil _ _,by simp,Fr.refl _ _⟩,?_⟩
 rintro w' H3 ⟨i,a,c,G,rfl,hi,n3,o3,g3,f3⟩ _;refine ⟨_,rfl,cM (fun an=>?_) fun DG=>?_⟩
 ·have p8:i<ws.length:=by omega
  have e1:IntKind.wrap .i64 ((i:Int)+1)=((i+1:Nat):Int):=by rw [ai (by omega) (by omega)];omega
  have JT:dd H3 hb F2 s.h:=hR.fr f3 (fun x hx hn=>by have:=s6 x hx;have:=Rg.1 hn;omega) (fun hn=>by have:=hK.kinds.lt;have:=Rg.1 hn;omega);refine tY JT ⟨_,_,rfl,_,_,_,(by rw [ak];exact n3.cell 2),?_⟩;rw [ha.at (by omega) (by omega)];refine bD hU rfl (by kernel_rfl) o3 rfl (by simp [dw]) (by omega) (by decide) (by decide) fun a5 c5 G5 H5 o5 u5 _=>⟨_,_,_,rfl,?_⟩;have z3:=f3.1;have nG:H.size+1∉G:=fun hm=>by have:=g3 _ hm;omega
  have nG5:H.size+1∉G5:=fun hm=>by
   rcases u5.2 _ hm with h1 | h1
   ·exact nG h1
   ·have:=n3.lt;omega
  have n5:=n3.fr u5.1 nG;rw [ak,Rm,e1];have f6:Fr [H.size+1] H5 (bc H5 ⟨H.size+1,2,none⟩ (.slice a5 (i+1) c5)):=Fr.set (by simp);refine ⟨n5.wr (by simp),⟨i+1,a5,c5,G5,rfl,by omega,n5.set 2 (.slice a5 (i+1) c5),?_,fun x hx=>?_,?_⟩,by simp;omega⟩
  ·have et:au (ws.take (i+1))=au (ws.take i)++[ac (ws[(i:Int).toNat]'(by omega))]:=by
    rw [RP,bJ];simp [au,p8]
   rw [et];exact o5.fr f6 fun x hx hm=>nG5 (by rw [←Rg.1 hm];exact hx)
  ·rcases u5.2 x hx with h1 | h1
   ·exact g3 x h1
   ·omega
  ·refine ⟨Rr f3.1 (Rr u5.1.1 f6.1),fun x hx hn=>?_⟩;rw [f6.2 x (by have:=u5.1.1;omega) hn,u5.1.2 x (by omega) (fun hm=>by have:=g3 x hm;omega),f3.2 x hx hn]
 ·have DO:i=ws.length:=by omega
  subst DO;rw [Sl] at o3;have b3:bW H3 H.size #[ac 0,ac 0,.slice none 0 0]:=b2.fr f3 (by simp);obtain ⟨⟨w0,w1,w2⟩,b4,f4⟩:=B8 (x:=ac o) (y:=ac oc.1) (z:=.slice a ws.length c) b3;have e2:(⟨H.size+1,0,none⟩:Addr).add 1=⟨H.size+1,1,none⟩:=rfl;have e3:(⟨H.size+1,0,none⟩:Addr).add 2=⟨H.size+1,2,none⟩:=rfl
  try rw [e2]
  try rw [e3]
  refine ⟨_,n3.cell 0,_,n3.cell 1,_,_,_,n3.cell 2,w0,w1,w2,?_⟩;generalize bc (bc (bc H3 (⟨H.size,0,none⟩:Addr) (ac o)) ((⟨H.size,0,none⟩:Addr).add 1) (ac oc.1)) ((⟨H.size,0,none⟩:Addr).add 2) (.slice a ws.length c)=H4 at b4 f4 ⊢;have e4:(⟨H.size,0,none⟩:Addr).add 1=⟨H.size,1,none⟩:=rfl;have e5:(⟨H.size,0,none⟩:Addr).add 2=⟨H.size,2,none⟩:=rfl;rw [e4,e5];have z3:=f3.1;refine ⟨_,b4.cell 0,_,b4.cell 1,_,_,_,b4.cell 2,h a ws.length c G H4 (o3.fr f4 fun x hx hm=>?_) ⟨Rr (frH f3).1 f4.1,fun x hx _=>?_⟩ fun x hx=>by have:=g3 x hx;omega⟩
  ·have:=g3 x hx;have:=Rg.1 hm;omega
  ·rw [f4.2 x (RC hx (frH f3).1) (by simp;omega),(frH f3).2 x hx (by simp)]
end
def ic (v:KV) (t:TB):ByteArray:=match v.cls[7]? with
 | some c=>tx t c.name
 | none=>⟨#[]⟩
theorem jk {s:SP}{t:TB}{v:KV} (hv:KAllW s t v):∃ h:7<v.cls.length,(v.cls[7]).oop=11∧ic v t=tx t (v.cls[7]).name∧(v.cls[7]).name<t.texts.length∧(ic v t).size<=96:=by
 have h0:=hv.ks.shape.many0;have h:7<v.cls.length:=by omega
 have e:ic v t=tx t (v.cls[7]).name:=by unfold ic;rw [RB h]
 have hn:=hv.names.name _ (RG h);refine ⟨h,by have:=hv.ks.shape.kern 7 h (by omega);omega,e,hn,?_⟩;rw [e];exact (rN hv.names.wf hn).2
theorem tz {es:List (Key × Value)}{k k':Key}{v:Value}:cT (es++[(k,v)]) k'=match cT es k' with
  | some x=>some x
  | none=>if k'=k then some v else none:=by
 induction es with
 | nil=>rfl
 | cons p es ih =>
  simp only [Sw,cT];by_cases h:k'=p.1
  ·rw [Rj h,Rj h]
  ·rw [Re h,Re h];exact ih
def m6 (l:List Int):List (Key × Value):=l.zipIdx.map fun p=>(Key.int p.1,ac ((p.2:Int)+1))
theorem m9 (l:List Int) (o:Int):m6 (l++[o])=m6 l++[(Key.int o,ac ((l.length:Int)+1))]:=by
 unfold m6;rw [List.zipIdx_append];simp
theorem pu (l:List Int) (o:Int):cT (m6 l) (Key.int o)=(mI l o).map fun (i:Nat)=>ac ((i:Int)+1):=by
 refine kY (p:=fun l=>cT (m6 l) (Key.int o)=(mI l o).map fun (i:Nat)=>ac ((i:Int)+1)) rfl (fun l x ih=>?_) l;rw [m9,tz,ih,ru];cases mI l o with
 | some i=>rfl
 | none =>
  simp only [S1];by_cases h:x=o
  ·subst h;simp
  ·have:¬ Key.int o=Key.int x:=fun e=>h (by injection e with e;exact e.symm);rw [Re this,Re h];rfl
theorem rV (l:List Int):∀ p∈m6 l,p.1.of (.int .i64):=by
 intro p hp;unfold m6 at hp;obtain ⟨q,_,rfl⟩:=RN.1 hp;trivial
def LK (H:ae) (lb b:Nat) (L:LW) (X:aB):Prop:=∃ mb a l c G1,X=lb :: mb :: G1∧lb≠mb∧lb∉G1∧mb∉G1∧bW H lb #[Cv b,.map (some mb),.slice a l c,.bool L.more]∧cR H mb (m6 L.order)∧bZ 1 H a l c (au L.order) G1
theorem LK.k {H:ae}{lb b:Nat}{L:LW}{X:aB} (h:LK H lb b L X):aj H ⟨lb,0,none⟩=some (Cv b):=by
 obtain ⟨mb,a,l,c,G1,rfl,h1,h2,h3,hB,hM,hO⟩:=h;exact hB.cell 0
theorem LK.fr {H H':ae}{lb b:Nat}{L:LW}{X Y:aB} (h:LK H lb b L X) (f:Fr Y H H') (hd:∀ x∈X,x∉Y):LK H' lb b L X:=by
 obtain ⟨mb,a,l,c,G1,rfl,h1,h2,h3,hB,hM,hO⟩:=h;exact ⟨mb,a,l,c,G1,rfl,h1,h2,h3,hB.fr f (hd _ (by simp)),hM.fr f (hd _ (by simp)),hO.fr f fun x hx=>hd x (by simp [hx])⟩
theorem LK.nil {H H':ae}{lb b:Nat}{L:LW}{X:aB} (h:LK H lb b L X) (f:Fr [] H H'):LK H' lb b L X:=h.fr f (by simp)
theorem LK.lt {H:ae}{lb b:Nat}{L:LW}{X:aB} (h:LK H lb b L X):∀ x∈X,x<H.size:=by
 obtain ⟨mb,a,l,c,G1,rfl,h1,h2,h3,hB,hM,hO⟩:=h;intro x hx;simp only [Rk] at hx;rcases hx with rfl | rfl | hx
 ·exact hB.lt
 ·exact hM.lt
 ·exact hO.lt x hx
theorem oI {s:SP}{o:Int}{l:List Int} (h1:4<=o) (h2:o<=65536) (h:ob s.h o=some (44,0,l)):ov s.h (4*o)=(11,0):=by
 obtain ⟨x,hx,hc,_⟩:=ft.1 h;have hk:bT (4*o)=3:=by have:=bN (4*o);omega
 unfold ov;rw [Re (by omega),Re (by omega),Rj hk];have e:4*o / 4=o:=by omega
 rw [e];unfold RH.clsAt;rw [hx];simp only [if_true,hc];rfl
section
variable {H:ae}{b lb:Nat}{F:aB}{s:SP}{t:TB}{v:KV}{Q:QT}{G:Int->Prop}
theorem tV (hK:PK H b F s t) (hl:aj H ⟨lb,0,none⟩=some (Cv b)){n:Nat} (hn:n<t.texts.length) (h:Q (.tuple #[.string (tx t n),.bool true]) H):ag PP 152 #[Cv lb,ac (cC n)] Q H:=by
 have h1:=hK.wft.m1;have h2:=hK.wft.len;have hk:bT (cC n)=2:=by unfold cC bT;rw [Re (by omega),Rj (by omega)]
 apply xK;dsimp only [bx,dB,ah,aA,dV,aQ,ac,ao,am,bh,bn];refine rY hK.kinds ?_;unfold qA;rw [Rj hk];refine ⟨_,_,rfl,?_⟩;simp only [show ((0:Int) != 0)=false from rfl,Rh];refine ⟨_,rfl,_,hl,qK hK fun tb F1 _ hT=>⟨_,rfl,qp hT ?_⟩⟩;rw [show cC n / 4=(n:Int) by unfold cC;omega];unfold kK;rw [dif_pos ⟨by omega,by omega⟩];refine ⟨_,_,rfl,?_⟩;have e:t.texts[(n:Int).toNat]'(by omega)=tx t n:=by
  unfold tx;rw [RQ,RB hn];rfl
 rw [e];exact h
theorem zj (hK:PK H b F s t) (hv:KAllW s t v) (hl:aj H ⟨lb,0,none⟩=some (Cv b)) (h:∀ H',Fr [] H H'->Q (.string (ic v t)) H'):ag PP 86 #[Cv lb,ac 11] Q H:=by
 obtain ⟨h7,e1,e2,hn,_⟩:=jk hv;have ha:=hv.ks.view.cls h7;rw [e1] at ha;have Dr:lb<H.size:=by
  unfold aj at hl;cases hb:H[lb]? with
  | none=>rw [hb] at hl;cases hl
  | some _=>exact (Rt.1 hb).1
 apply yO;dsimp only [bf,ci,ah,jq,fU,aM,aO,bl,ac,bm,ax,am,bg,bh,az,bi];refine vh hK hv hl (by decide) ha fun a l c G1 H1 o1 f1 g1=>⟨_,_,_,_,_,rfl,?_⟩;have b8:l=7:=by have:=o1.1;simpa [au,CV.slots] using this.symm
 refine Cp H1 _ _ _ _ _ _ ?_;rw [vq];have f2:=f1.trans (Fr.push [] H1 (.cells #[ac 11,ac (ov s.h (4*11)).1,.slice a l c] 156));have n2:=bW.new H1 #[ac 11,ac (ov s.h (4*11)).1,.slice a l c] 156;have o2:=o1.fr (Fr.push [] H1 (.cells #[ac 11,ac (ov s.h (4*11)).1,.slice a l c] 156)) (by simp);generalize (H1.push (.cells #[ac 11,ac (ov s.h (4*11)).1,.slice a l c] 156))=H2 at f2 n2 o2 ⊢;have e3:(⟨H1.size,0,none⟩:Addr).add 2=⟨H1.size,2,none⟩:=rfl;rw [e3];refine ⟨_,_,_,n2.cell 2,?_⟩;rw [b8] at o2 ⊢;refine cM (fun hx=>absurd hx (by decide)) fun _=>?_;obtain ⟨p,E1,Ed,_⟩:=o2.rd.int (i:=0) (by decide) (by decide);subst E1;refine ⟨_,_,_,by rw [n2.cell 2,b8];rfl,⟨by decide,by decide⟩,_,rfl,_,Ed,?_⟩;have hs:((v.cls[7]).slots 7).getD (Int.toNat 0) 0=cC (v.cls[7]).name:=rfl;rw [hs];have DI:aj H2 ⟨lb,0,none⟩=some (Cv b):=by rw [←hl];unfold aj;rw [f2.2 lb Dr (by simp)]
 refine tV (hK.nil f2) DI hn ⟨_,_,rfl,?_⟩;rw [←e2];exact h H2 f2
theorem vV (hK:PK H b F s t) (hT:TX s t v G) (hl:aj H ⟨lb,0,none⟩=some (Cv b)){w:Int} (hw:ph G w) (h:Q (if w=4 then .tuple #[.string xP,.bool true] else .tuple #[.string ⟨#[]⟩,.bool false]) H):ag PP 146 #[Cv lb,ac w] Q H:=by
 apply yo;dsimp only [bx,aH,cB,ah,aA,fU,bA,aQ,ac,ao,am,bh,az,bn];by_cases h4:w=4
 ·rw [Rj h4] at h;subst h4;refine iy hK.kinds ⟨_,rfl,?_⟩;simp only [show (bT 4 == 1)=false from by decide,show (bT 4 == 2)=false from by decide,Rh];refine kI hK.kinds ?_;unfold qA;rw [Rj (by decide)];refine ⟨_,_,rfl,?_⟩;simp only [show ((4 / 4:Int) == 1)=true from by decide,Rs];exact h
 ·rw [Re h4] at h;obtain ⟨o,rfl,ho⟩:=hw.resolve_left h4;obtain ⟨o1,o2,l,C0,_⟩:=hT.obj o ho;have hk:bT (4*o)=3:=by have:=bN (4*o);omega
  have e:4*o / 4=o:=by omega
  refine iy hK.kinds ⟨_,rfl,?_⟩;rw [hk];simp only [show ((3:Int) == 1)=false from by decide,show ((3:Int) == 2)=false from by decide,Rh];refine kI hK.kinds ?_;unfold qA;rw [Rj hk];refine ⟨_,_,rfl,?_⟩;dsimp only;rw [e,bq,bq,bq];refine cM (fun hx=>absurd hx (by omega)) fun _=>cM (fun hx=>absurd hx (by omega)) fun _=>cM (fun hx=>absurd hx (by omega)) fun _=>?_;refine ⟨_,rfl,_,hl,BI hK hT.hv ⟨_,_,rfl,?_⟩⟩;rw [oI o1 o2 C0];exact h
end
theorem cS {n:Nat} (h:n<=9000000000):¬ ((n:Int) > IntKind.i64.max):=by
 rw [show IntKind.i64.max=9223372036854775807 from rfl];omega
section
variable {H:ae}{b lb:Nat}{F:aB}{s:SP}{t:TB}{v:KV}{Q:QT}{G:Int->Prop}{L:LW}{X:aB}
theorem ur (hE:EK H b F s t X) (hT:TX s t v G) (hL:LK H lb b L X) (hO:L.Ok G){w:Int} (hw:ph G w)
  (h:∀ H' X',LK H' lb b (L.form w).2 X'->Up X H X' H'->Q (.string (L.form w).1) H'):ag PP 82 #[Cv lb,ac w] Q H:=by
 have b8:=hO.len;have hU:aY PP 109=some (1,8,some (ac 0)):=by kernel_rfl
 have hi:dL PP 138=some (.int .i64,some (ac 0)):=by kernel_rfl
 apply zl;dsimp only [bf,bx,cB,ah,aA,fU,bA,aO,gE,ac,ax,eS,ao,am,bg,bE,je,bh,az,bi,kT];refine vV hE.1 hT hL.k hw ?_;unfold LW.form at h;by_cases h4:w=4
 ·rw [Rj h4];simp only [Rj h4] at h;refine ⟨_,_,rfl,?_⟩;rw [Rs];exact h H X hL (Up.refl _ _)
 ·rw [Re h4];simp only [Re h4] at h;refine ⟨_,_,rfl,?_⟩;rw [Rh];obtain ⟨o,rfl,ho⟩:=hw.resolve_left h4;obtain ⟨o1,o2,_⟩:=hT.obj o ho;have hk:bT (4*o)=3:=by have:=bN (4*o);omega
  have e:4*o / 4=o:=by omega
  rw [e] at h;refine kI hE.1.kinds ?_;unfold qA;rw [Rj hk];dsimp only;rw [e];have GZ:=hL;obtain ⟨mb,a,l,c,G1,rfl,n1,n2,n3,hB,hM,EM⟩:=hL;refine ⟨_,_,rfl,_,rfl,_,hB.cell 1,gS (k:=.int o) (ok:=true) hi trivial (rV _) hM ?_⟩;have hl:l=L.order.length:=by have:=EM.1;simpa [au] using this.symm
  rw [pu];have an:=GZ.lt;cases hp:mI L.order o with
  | some i =>
   rw [hp] at h
   try simp only at h
   have GC:=uR hp;refine ⟨_,_,rfl,?_⟩;simp only [SM,Tk,Rq,Rh];have hz:=fw (n:=(i:Int)+1) (by omega) (by omega);refine kd hE.2.1 (by omega) (by omega) fun H' f=>⟨_,rfl,cj (cS ?_) (h H' _ (GZ.nil f) (ua f))⟩;show 1+_<=_;omega
  | none =>
   rw [hp] at h
   try simp only at h
   refine ⟨_,_,rfl,?_⟩;simp only [S1,SZ,Rp,Rs];refine ⟨_,rfl,_,_,_,hB.cell 2,cM (fun DG=>?_) fun DG=>?_⟩
   ·rw [Rj (by omega)] at h;have f1:Fr [lb] H (bc H ⟨lb,3,none⟩ (.bool true)):=Fr.set (by simp);refine ⟨_,rfl,hB.wr (o:=3) (by simp),h _ (lb :: mb :: G1) ⟨mb,a,l,c,G1,rfl,n1,n2,n3,hB.set 3 (.bool true),hM.fr f1 (by simp;omega),EM.fr f1 fun x hx hm=>n2 (by rw [←Rg.1 hm];exact hx)⟩ ⟨f1.mono (by simp),fun x hx=>.inl hx⟩⟩
   ·rw [Re (by omega)] at h;refine ⟨_,rfl,_,_,_,hB.cell 2,?_⟩;refine bD hU rfl (by kernel_rfl) EM rfl (by simp [dw]) (by omega) (by decide) (by decide) fun a5 c5 G5 H5 o5 u5 _=>⟨_,_,_,rfl,_,rfl,?_⟩;have lbl:=an lb (by simp);have mbl:=an mb (by simp);have m2:lb∉G5:=fun hm=>(u5.2 _ hm).elim n2 fun h1=>by omega
    have m3:mb∉G5:=fun hm=>(u5.2 _ hm).elim n3 fun h1=>by omega
    have B5:=hB.fr u5.1 n2;have f6:Fr [lb] H5 (bc H5 ⟨lb,2,none⟩ (.slice a5 (l+1) c5)):=Fr.set (by simp);refine ⟨B5.wr (o:=2) (by simp),?_⟩;have B6:=B5.set 2 (.slice a5 (l+1) c5);have M6:=(hM.fr u5.1 n3).fr f6 (by simp;omega);have o6:=o5.fr f6 fun x hx hm=>m2 (by rw [←Rg.1 hm];exact hx);have e6:(⟨lb,0,none⟩:Addr).add 2=⟨lb,2,none⟩:=rfl;rw [e6];generalize bc H5 ⟨lb,2,none⟩ (.slice a5 (l+1) c5)=H6 at f6 B6 M6 o6 ⊢;refine ⟨_,rfl,_,_,_,B6.cell 2,_,rfl,_,B6.cell 1,?_⟩;refine co (k:=.int o) hi trivial (rV _) M6 fun H7 M7 f7=>?_;have u7:Up (lb :: mb :: G1) H (lb :: mb :: G5) H7:=by
     refine ⟨((u5.1.mono fun x hx=>by simp [hx]).trans (f6.mono fun x hx=>by simp at hx;simp [hx])).trans (f7.mono fun x hx=>by simp at hx;simp [hx]),fun x hx=>?_⟩;simp only [Rk] at hx ⊢;rcases hx with rfl | rfl | hx
     ·exact .inl (.inl rfl)
     ·exact .inl (.inr (.inl rfl))
     ·exact (u5.2 x hx).imp (fun h1=>.inr (.inr h1)) id
    have MX:=hE.up u7;have em:iC (m6 L.order) (Key.int o) (ac ((l+1:Nat):Int))=m6 (L.order++[o]):=by
     rw [iK (eE.2 (by rw [pu,hp];rfl)),m9,hl];rfl
    rw [em] at M7;have hz:=fw (n:=(L.order.length:Int)+1) (by omega) (by omega);have el:((l+1:Nat):Int)=(L.order.length:Int)+1:=by omega
    rw [el];refine kd MX.2.1 (by omega) (by omega) fun H8 f8=>⟨_,rfl,cj (cS ?_) (h H8 (lb :: mb :: G5) (LK.nil ⟨mb,a5,l+1,c5,G5,rfl,n1,m2,m3,B6.fr f7 (by simp;omega),M7,?_⟩ f8) (u7.trans (ua f8)))⟩
    ·show 1+_<=_;omega
    ·have e7:au (L.order++[o])=au L.order++[ac o]:=by rw [bJ];rfl
     rw [e7];exact o6.fr f7 fun x hx hm=>m3 (by rw [←Rg.1 hm];exact hx)
end
theorem gd {d:TypeDesc}{k:Key}{v:Value} (hk:k.of d):∀ {es:List (Key × Value)},(∀ p∈es,p.1.of d)->∀ p∈iC es k v,p.1.of d
 | [],_,p,hp=>by simp only [iC,Rg] at hp;rw [hp];exact hk
 | e :: es,h,p,hp=>by
  unfold iC at hp;split at hp
  ·rcases Rk.1 hp with rfl | hp
   ·exact hk
   ·exact h p (by simp [hp])
  ·rcases Rk.1 hp with rfl | hp
   ·exact h _ (by simp)
   ·exact gd hk (fun q hq=>h q (by simp [hq])) p hp
section
variable {H:ae}{b lb:Nat}{F:aB}{s:SP}{t:TB}{v:KV}{Q:QT}{G:Int->Prop}{L:LW}{X:aB}
theorem yn (hE:EK H b F s t X) (hT:TX s t v G) (hL:LK H lb b L X) (hO:L.Ok G){ws:List Int}{a:Option Addr}{l c:Nat}{Y:aB} (hr:bZ 1 H a l c (au ws) Y) (hY:bL Y X) (sz:∀ w∈ws,ph G w) (b8:ws.length<=8192)
  (h:∀ H' X',LK H' lb b (L.forms ws).2 X'->Up X H X' H'->Q (.string (eJ (L.forms ws).1)) H'):ag PP 140 #[Cv lb,.slice a l c] Q H:=by
 have hU:aY PP 73=some (1,16,some (.string (⟨#[]⟩:ByteArray))):=by kernel_rfl
 have hl:l=ws.length:=by have:=hr.1;simpa [au] using this.symm
 have hF:∀ i,(L.forms (ws.take i)).2.Ok G∧(L.forms (ws.take i)).1.length=(ws.take i).length∧∀ x∈(L.forms (ws.take i)).1,x.size<=12:=fun i=>hO.forms _ fun w hw=>sz w (Sm hw);have hS:∀ i (hi:i<ws.length),L.forms (ws.take (i+1))=((L.forms (ws.take i)).1++[((L.forms (ws.take i)).2.form ws[i]).1],((L.forms (ws.take i)).2.form ws[i]).2):=fun i hi=>by
  rw [RP,RB hi];exact jh _ _ _
 apply x6;dsimp only [cB,ah,aZ,aM,bl,ac,bm,ce,ax,bt,am,bE,bh,bi,aI];refine ef hU rfl (by omega) (Sc _) (by omega) (by decide) fun e=>⟨_,_,_,rfl,?_⟩;rw [Ro];have f1:=Fr.push [] H (.cells (Array.replicate l (.string (⟨#[]⟩:ByteArray))) e);have q1:bZ 1 (H.push (.cells (Array.replicate l (.string (⟨#[]⟩:ByteArray))) e)) (some ⟨H.size,0,none⟩) l l (bF (L.forms (ws.take 0)).1++List.replicate (l-0) (.string (⟨#[]⟩:ByteArray))) [H.size]:=by
  refine ⟨by simp [bF,LW.forms],Rw _,.inr ⟨_,_,rfl,rfl,bW.new _ _ _,by simp,?_⟩⟩;simp [bF,LW.forms]
 generalize (H.push (.cells (Array.replicate l (.string (⟨#[]⟩:ByteArray))) e))=H1 at f1 q1 ⊢;refine ⟨fun w' H'=>∃(i:Nat) (X':aB),w'=[ac i]∧i<=l∧bZ 1 H' (some ⟨H.size,0,none⟩) l l (bF (L.forms (ws.take i)).1++List.replicate (l-i) (.string (⟨#[]⟩:ByteArray))) [H.size]∧LK H' lb b (L.forms (ws.take i)).2 X'∧H.size∉X'∧Up X H X' H',fun w' _=>match w' with
  | [.int _ i]=>((l:Int)-i).toNat
  | _=>0,⟨0,X,rfl,RL _,q1,hL.nil f1,fun hm=>by have:=hL.lt _ hm;omega,ua f1⟩,?_⟩
 rintro w' H2 ⟨i,X2,rfl,hi,q2,L2,nq,u2⟩ _;refine ⟨_,rfl,cM (fun an=>?_) fun DG=>?_⟩
 ·have p8:i<ws.length:=by omega
  have e1:IntKind.wrap .i64 ((i:Int)+1)=((i+1:Nat):Int):=by rw [ai (by omega) (by omega)];omega
  obtain ⟨p,E1,Ed,_⟩:=(hr.fr u2.1 hY).rd.int (i:=(i:Int)) (by omega) (by omega);have hg:ws.getD (i:Int).toNat 0=ws[i]:=by rw [Ro,RQ,RB p8];rfl
  rw [hg] at Ed;refine ⟨⟨by omega,an⟩,_,E1,_,by rw [Rn];exact Ed,?_⟩;refine ur (hE.up u2) hT L2 (hF i).1 (sz _ (RG p8)) fun H3 X3 L3 u3=>⟨_,rfl,⟨by omega,an⟩,_,rfl,?_⟩;have q3:=q2.fr u3.1 fun x hx hm=>nq (by rw [←Rg.1 hx];exact hm);have HL:i<l:=by omega
  obtain ⟨bb,MR,hw,hf,Ha⟩:=vc q3 HL (.string ((L.forms (ws.take i)).2.form ws[i]).1);cases MR;rw [ak,Rm,Rn,Ro,e1];have nq3:H.size∉X3:=fun hm=>(u3.2 _ hm).elim nq fun h1=>by have:=q2.lt H.size (by simp);omega
  refine ⟨hw,⟨i+1,X3,rfl,HL,?_,?_,nq3,?_⟩,by simp;omega⟩
  ·rw [hS i p8];have HZ:(bF (L.forms (ws.take i)).1).length=i:=by simp [bF,(hF i).2.1];omega
   have Hj:List.replicate (l-i) (Value.string (⟨#[]⟩:ByteArray))=.string ⟨#[]⟩ :: List.replicate (l-(i+1)) (.string ⟨#[]⟩):=by
    rw [show l-i=(l-(i+1))+1 by omega,Tg]
   rw [Hj,Tc _ _ (by omega),HZ,Nat.sub_self,R3] at Ha;have e9:bF ((L.forms (ws.take i)).1++[((L.forms (ws.take i)).2.form ws[i]).1])++List.replicate (l-(i+1)) (Value.string (⟨#[]⟩:ByteArray))=bF (L.forms (ws.take i)).1++.string ((L.forms (ws.take i)).2.form ws[i]).1 :: List.replicate (l-(i+1)) (Value.string (⟨#[]⟩:ByteArray)):=by
    rw [dY];simp [bF]
   rw [e9];exact Ha
  ·rw [hS i p8];exact L3.fr hf fun x hx hm=>nq3 (by rw [←Rg.1 hm];exact hx)
  ·have u4:=u2.trans u3;refine ⟨⟨Rr u4.1.1 hf.1,fun x hx hn=>?_⟩,u4.2⟩;rw [hf.2 x (RC hx u4.1.1) (by simp;omega),u4.1.2 x hx hn]
 ·have DO:i=ws.length:=by omega
  have e2:ws.take i=ws:=by rw [DO];exact Sl
  rw [e2] at q2 L2;have s4:=hF i;rw [e2] at s4;have e3:l-i=0:=by omega
  rw [e3,List.replicate_zero,SN] at q2;have hj:=eZ _ s4.2.2;exact zD q2 (by simp) (by omega) (by omega) fun H5 f5=>⟨_,rfl,h H5 X2 (L2.nil f5) (u2.trans (ua f5))⟩
theorem wd (h:∀ H' mb es,cR H' mb es->cT es (Key.int 11)=some (.func (.func 139) #[] #[])->(∀ p∈es,p.1.of (.int .i64))->Fr [] H H'->H.size<=mb->Q (.map (some mb)) H'):ag PP 80 #[] Q H:=by
 have hi:dL PP 141=some (.int .i64,some .nilFunc):=by kernel_rfl
 apply AU;dsimp only [ac,eS,je,az];have f0:=Fr.push [] H (.map #[] 0);have o0:∀ p∈([]:List (Key × Value)),p.1.of (.int .i64):=by simp
 refine co (k:=.int 10) hi trivial o0 (cR.new H) fun H1 M1 f1=>?_;have o1:=gd (v:=.func (.func 136) #[] #[]) (show (Key.int 10).of (.int .i64) from trivial) o0;refine co (k:=.int 11) hi trivial o1 M1 fun H2 M2 f2=>?_;have o2:=gd (v:=.func (.func 139) #[] #[]) (show (Key.int 11).of (.int .i64) from trivial) o1;refine co (k:=.int 14) hi trivial o2 M2 fun H3 M3 f3=>?_;have o3:=gd (v:=.func (.func 141) #[] #[]) (show (Key.int 14).of (.int .i64) from trivial) o2;refine co (k:=.int 13) hi trivial o3 M3 fun H4 M4 f4=>?_;have o4:=gd (v:=.func (.func 143) #[] #[]) (show (Key.int 13).of (.int .i64) from trivial) o3;refine co (k:=.int 15) hi trivial o4 M4 fun H5 M5 f5=>?_;have o5:=gd (v:=.func (.func 143) #[] #[]) (show (Key.int 15).of (.int .i64) from trivial) o4;refine co (k:=.int 16) hi trivial o5 M5 fun H6 M6 f6=>?_;have o6:=gd (v:=.func (.func 143) #[] #[]) (show (Key.int 16).of (.int .i64) from trivial) o5;refine co (k:=.int 17) hi trivial o6 M6 fun H7 M7 f7=>?_;have o7:=gd (v:=.func (.func 144) #[] #[]) (show (Key.int 17).of (.int .i64) from trivial) o6;have fa:Fr [H.size] (H.push (.map #[] 0)) H7:=((((((f1.trans f2).trans f3).trans f4).trans f5).trans f6).trans f7);refine h H7 H.size _ M7 ?_ o7 ⟨Rr f0.1 fa.1,fun x hx _=>?_⟩ (Rw _)
 ·rw [fk,Re (by decide),fk,Re (by decide),fk,Re (by decide),fk,Re (by decide),fk,Re (by decide),fk,Rj rfl]
 ·rw [fa.2 x (RC hx f0.1) (by simp;omega),f0.2 x hx (by simp)]
theorem t8 (hE:EK H b F s t X) (hT:TX s t v G) (hL:LK H lb b L X) (hO:L.Ok G){ws:List Int}{a:Option Addr}{l c:Nat}{Y:aB}{n m:Int} (hr:bZ 1 H a l c (au ws) Y) (hY:bL Y X) (sz:∀ w∈ws,ph G w) (b8:ws.length<=8192)
  (h:∀ H' X',LK H' lb b (L.forms ws).2 X'->Up X H X' H'->Q (.string (A9++eJ (L.forms ws).1++A8)) H'):ag PP 139 #[Cv lb,.agg #[ac n,ac m,.slice a l c]] Q H:=by
 apply wZ;dsimp only [ci,cB,ah,bA,aO,ac,ax,am,bg,bh,az];have f1:=Fr.push [] H (.cells #[ac n,ac m,.slice a l c] 156);have n1:=bW.new H #[ac n,ac m,.slice a l c] 156;generalize (H.push (.cells #[ac n,ac m,.slice a l c] 156))=H1 at f1 n1 ⊢;have hF:=hO.forms ws sz;have hj:=eZ _ hF.2.2;refine ⟨_,_,_,n1.cell 2,yn (hE.nil f1) hT (hL.nil f1) hO (hr.fr f1 (by simp)) hY sz b8 fun H2 X2 L2 u2=>⟨_,rfl,cj (cS ?_) (cj (cS ?_) (h H2 X2 L2 ((ua f1).trans u2)))⟩⟩
 ·show 2+_<=_;omega
 ·rw [Rv];show 2+_+1<=_;omega
end
section
variable {Q:QT}{H:ae}
variable {a b c d A B D P:Option Addr}{i j k m n x y z I J K M N:Int}{l o r s u v L O R S U V:Nat}{t w T W:ByteArray}{e E g:Bool}{q:Option Nat}{p X Y Z:Value}{F G:Addr}
theorem ze (h:ah (ch a) (Q (bk 0 2) H) (ao a fun b=>aQ H b fun b=>aA 34 #[am b,ac i,ac j,ac k] H fun b c d=>az (bk (aI (4*b)) c) fun b=>ah (c != 23) (Q b d) (ao a fun c=>pj d (c.add 3) fun c=>ah c (Q b d) (ao a fun b=>aQ d b fun c=>cG 47 #[am a] d fun d e f g=>((aj g b=some (am c)∧True)∧True)∧cd 46 #[am c,ax d e f] g fun _ _ _ b=>True∧ao a fun a=>aQ b a fun a=>aA 34 #[am a,ac i,ac j,ac k] b fun a b c=>Q (bk (aI (4*a)) b) c)))):ag PP 10 #[.pointer a,ac i,ac j,ac k] Q H :=
 okF Tryz.func10 rfl h
theorem zZ (h:ah (ch a) (Q (ac 2) H) (ce [ac 0] H fun c d e f g=>ah (aZ g (l:Int)) (bm g l b fun a=>aM f (bl a g 1) fun a=>aH 51 #[ac a] f fun a b=>ah (a == 0) (Q (ac 10) b) (bt c d [ac (aI (g+1))] b e f)) (ao a fun c=>aO f (c.add 2) fun _ c _=>ah (bA (aI ((c:Int)+(l:Int))) 65536) (Q (ac 22) f) (ao a fun c=>aO f (c.add 2) fun c d e=>bE (Builtin.append_ #[44,44] 44 #[ax c d e,ax b l o]) f fun b c d e=>ao a fun a=>bi e (a.add 2) (ax b c d) fun a=>Q (ac 0) a)))):ag PP 12 #[.pointer a,.slice b l o] Q H :=
 okL Tryz.func12 rfl (fun | 4=>some [(5,3)] | _=>none) h
theorem AZ (h:ah (ch a) (Q (ac 2) H) (aH 54 #[am a,ac i] H fun b c=>ah (aZ b 0) (Q (ac 20) c) (ah (aZ j 0) (Q (ac 21) c) (ao a fun d=>aO c (d.add 5) fun d e _=>bm b e d fun d=>aO c ((bl d b 6).add 5) fun _ d _=>ah (decide (j≥(d:Int))) (Q (ac 21) c) (ao a fun d=>aO c (d.add 5) fun d e _=>bm b e d fun d=>aM c ((bl d b 6).add 1) fun d=>bK 55 #[ac k,ac d] c fun c d=>ah (!c) (Q (ac 10) d) (ao a fun a=>aO d (a.add 5) fun a c _=>bm b c a fun a=>aO d ((bl a b 6).add 5) fun a b _=>bm j b a fun a=>bi d (bl a j 1) (ac k) fun a=>Q (ac 0) a)))))):ag PP 16 #[.pointer a,ac i,ac j,ac k] Q H :=
 okF Tryz.func16 rfl h
theorem zp (h:dU 99 #[ac i,ac j] H fun a b c=>ah (b != 0) (Q (bn #[am none,ac b]) c) (az (ac 0) fun b=>Q (bn #[am (some (bf c.size)),b]) (bg c #[am a,b,ax none 0 0,bx false,am none,b,b,b] 53))):ag PP 31 #[ac i,ac j] Q H :=
 okF Tryz.func31 rfl h
theorem zv (h:ah (ch a) (Q (bk 0 2) H) (az (ac i) fun b=>aH 51 #[b] H fun c d=>az (bk 0 1) fun e=>ah (c == 0) (Q e d) (ah (aZ k 0) (Q e d) (ah (bA k 1) (Q e d) (ah (aZ j 0) (Q e d) (ah (bA j 8192) (Q (bk 0 22) d) (ao a fun c=>aO d (c.add 5) fun _ c _=>ao a fun e=>aM d (e.add 1) fun e=>ah (decide ((c:Int)≥e)) (Q (bk 0 23) d) (ao a fun c=>aM d c fun e=>az (am a) fun f=>aH 100 #[f] d fun d g=>((aj g c=some (ac e)∧True)∧True)∧az (ac k) fun i=>aH 101 #[ac j,i] g fun g l=>((aj l c=some (ac e)∧True)∧True)∧ah (bA (aI (d+g)) e) (Q (bk 0 23) l) (ao a fun c=>aM l (c.add 2) fun c=>az (ac 0) fun d=>ah (c == 1) (ao a fun a=>bi l (a.add 2) d fun a=>Q (bk 0 24) a) (sx (fun b=>ao a fun c=>aM l (c.add 2) fun c=>ah (bA c 0) (ao a fun c=>aM l (c.add 2) fun c=>ao a fun a=>bi l (a.add 2) (ac (aI (c-1))) fun a=>b [] a) (b [] l)) fun c=>ao a fun e=>az (e.add 3) fun e=>aM c e fun g=>az (ac g) fun g=>az (some g) fun l=>az (ax none 0 0) fun m=>aH 102 #[f] c (fun c n=>((aj n e=l∧True)∧True)∧aH 100 #[f] n (fun f n=>((aj n e=l∧True)∧True)∧az (bg n #[d,d,d,d,d,m] 113) fun o=>((aj o e=l∧True)∧True)∧az (bf n.size) fun e=>bi o e (ac c) fun c=>bi c (ci n.size 1) i fun c=>bi c (ci n.size 2) (ac f) fun c=>bi c (ci n.size 3) g fun c=>bi c (ci n.size 4) b fun b=>az (ci n.size 5) fun c=>bi b c m fun b=>True∧ce [d] b fun b f g i l=>ah (aZ l j) (az (ax (some (bf i.size)) 1 1) fun a=>az (ac (aI (l+1))) fun e=>ah (k == 1) (aO i c fun j k l=>bE (Builtin.append_ #[44,44] 44 #[ax j k l,a]) (bg i #[d] 31) fun a d j k=>bi k c (ax a d j) fun a=>bt b f [e] a g i) (aO i c fun d j k=>bE (Builtin.append_ #[44,44] 44 #[ax d j k,a]) (bg i #[ac 4] 31) fun a d j k=>bi k c (ax a d j) fun a=>bt b f [e] a g i)) (ao a fun b=>aM i (b.add 3) fun b=>ao a fun d=>bi i (d.add 3) (ac (aI (b+1))) fun b=>ao a fun d=>aO b (d.add 5) fun f g i=>aM b e fun j=>aM b (ci n.size 1) fun k=>aM b (ci n.size 2) fun l=>aM b (ci n.size 3) fun m=>aM b (ci n.size 4) fun n=>aO b c fun c o p=>az (bg b #[ac j,ac k,ac l,ac m,ac n,ax c o p] 113) fun c=>((aj c (d.add 5)=some (ax f g i)∧True)∧True)∧bE (Builtin.append_ #[114,114] 114 #[ax f g i,ax (some (bf b.size)) 1 1]) c fun b c d f=>True∧ao a fun a=>bi f (a.add 5) (ax b c d) fun a=>True∧aM a e fun b=>Q (bk b 0) a))∧az (bg n #[d,d,d,d,d,m] 113) fun o=>((aj o e=l∧True)∧True)∧aH 100 #[f] o fun f o=>((aj o e=l∧True)∧True)∧az (bf n.size) fun e=>bi o e (ac c) fun c=>bi c (ci n.size 1) i fun c=>bi c (ci n.size 2) (ac f) fun c=>bi c (ci n.size 3) g fun c=>bi c (ci n.size 4) b fun b=>az (ci n.size 5) fun c=>bi b c m fun b=>True∧ce [d] b fun b f g i l=>ah (aZ l j) (az (ax (some (bf i.size)) 1 1) fun a=>az (ac (aI (l+1))) fun e=>ah (k == 1) (aO i c fun j k l=>bE (Builtin.append_ #[44,44] 44 #[ax j k l,a]) (bg i #[d] 31) fun a d j k=>bi k c (ax a d j) fun a=>bt b f [e] a g i) (aO i c fun d j k=>bE (Builtin.append_ #[44,44] 44 #[ax d j k,a]) (bg i #[ac 4] 31) fun a d j k=>bi k c (ax a d j) fun a=>bt b f [e] a g i)) (ao a fun b=>aM i (b.add 3) fun b=>ao a fun d=>bi i (d.add 3) (ac (aI (b+1))) fun b=>ao a fun d=>aO b (d.add 5) fun f g i=>aM b e fun j=>aM b (ci n.size 1) fun k=>aM b (ci n.size 2) fun l=>aM b (ci n.size 3) fun m=>aM b (ci n.size 4) fun n=>aO b c fun c o p=>az (bg b #[ac j,ac k,ac l,ac m,ac n,ax c o p] 113) fun c=>((aj c (d.add 5)=some (ax f g i)∧True)∧True)∧bE (Builtin.append_ #[114,114] 114 #[ax f g i,ax (some (bf b.size)) 1 1]) c fun b c d f=>True∧ao a fun a=>bi f (a.add 5) (ax b c d) fun a=>True∧aM a e fun b=>Q (bk b 0) a))∧az (bg c #[d,d,d,d,d,m] 113) fun n=>((aj n e=l∧True)∧True)∧aH 102 #[f] n fun n o=>((aj o e=l∧True)∧True)∧aH 100 #[f] o fun f o=>((aj o e=l∧True)∧True)∧az (bf c.size) fun e=>bi o e (ac n) fun l=>bi l (ci c.size 1) i fun i=>bi i (ci c.size 2) (ac f) fun f=>bi f (ci c.size 3) g fun f=>bi f (ci c.size 4) b fun b=>az (ci c.size 5) fun f=>bi b f m fun b=>True∧ce [d] b fun b g i l m=>ah (aZ m j) (az (ax (some (bf l.size)) 1 1) fun a=>az (ac (aI (m+1))) fun c=>ah (k == 1) (aO l f fun e j k=>bE (Builtin.append_ #[44,44] 44 #[ax e j k,a]) (bg l #[d] 31) fun a d e j=>bi j f (ax a d e) fun a=>bt b g [c] a i l) (aO l f fun d e j=>bE (Builtin.append_ #[44,44] 44 #[ax d e j,a]) (bg l #[ac 4] 31) fun a d e j=>bi j f (ax a d e) fun a=>bt b g [c] a i l)) (ao a fun b=>aM l (b.add 3) fun b=>ao a fun d=>bi l (d.add 3) (ac (aI (b+1))) fun b=>ao a fun d=>aO b (d.add 5) fun g i j=>aM b e fun k=>aM b (ci c.size 1) fun l=>aM b (ci c.size 2) fun m=>aM b (ci c.size 3) fun n=>aM b (ci c.size 4) fun c=>aO b f fun f o p=>az (bg b #[ac k,ac l,ac m,ac n,ac c,ax f o p] 113) fun c=>az (ax g i j) fun f=>((aj c (d.add 5)=some f∧True)∧True)∧bE (Builtin.append_ #[114,114] 114 #[f,ax (some (bf b.size)) 1 1]) c fun b c d f=>True∧ao a fun a=>bi f (a.add 5) (ax b c d) fun a=>True∧aM a e fun b=>Q (bk b 0) a))))))))))):ag PP 34 #[.pointer a,ac i,ac j,ac k] Q H :=
 okL Tryz.func34 rfl (fun | 1014=>some [] | 16=>some [(11,3)] | _=>none) h
theorem Ao (h:ah (ch a) (Q (ac 2) H) (ao a fun b=>aQ H b fun b=>aA 105 #[am b,ac i] H fun _ b c=>ah (b != 0) (Q (ac b) c) (ao a fun a=>bi c (a.add 1) (ac i) fun a=>Q (ac 0) a))):ag PP 40 #[.pointer a,ac i] Q H :=
 okF Tryz.func40 rfl h
theorem yR (h:iI 108 #[am a,ax b l o] H fun b c d e f=>ah (e != 0) (Q (bn #[ac 0,ac 0,ac e]) f) (cd 109 #[am a,ax b c d] f fun a b c d=>Q (bn #[ac a,ac b,ac c]) d)):ag PP 46 #[.pointer a,.slice b l o] Q H :=
 okF Tryz.func46 rfl h
theorem zK (h:ao a fun b=>aM H (b.add 1) fun b=>ao a fun a=>aO H (a.add 2) fun c d e=>az (bg H #[ac (aI (4*b))] 31) fun b=>((aj b (a.add 2)=some (ax c d e)∧True)∧True)∧bE (Builtin.append_ #[44,44] 44 #[ax (some (bf H.size)) 1 1,ax c d e]) b fun a b c d=>True∧Q (ax a b c) d):ag PP 47 #[.pointer a] Q H :=
 okF Tryz.func47 rfl h
theorem zN (h:ce [ac 0] H fun b c d e f=>ao a fun g=>aO e (g.add 5) fun _ g _=>ah (aZ f (g:Int)) (ao a fun a=>aO e (a.add 5) fun a g _=>bm f g a fun a=>aM e (bl a f 6) fun a=>ah (a == i) (Q (ac f) e) (bt b c [ac (aI (f+1))] e d e)) (Q (ac (-1)) e)):ag PP 54 #[.pointer a,ac i] Q H :=
 okL Tryz.func54 rfl (fun | 2=>some [(5,3)] | _=>none) h
theorem AF (h:ah (j == 1) (ah (decide (i≥0)) (Q (bx (decide (i<=255))) H) (Q (bx false) H)) (aH 51 #[ac i] H fun a b=>Q (bx (a != 0)) b)):ag PP 55 #[ac i,ac j] Q H :=
 okF Tryz.func55 rfl h
theorem y8 (h:ah (ch a) (Q (ac 2) H) (ao a fun b=>aQ H b fun b=>ao a fun a=>aM H (a.add 1) fun a=>aH 16 #[am b,ac a,ac i,ac j] H fun a b=>True∧Q (ac a) b)):ag PP 75 #[.pointer a,ac i,ac j] Q H :=
 okF Tryz.func75 rfl h
theorem zU (h:az (bn #[am none,ac 1]) fun a=>ah (aZ i 0) (Q a H) (ah (bA i 1048576) (Q a H) (ah (aZ j 0) (Q a H) (ah (bA j 65536) (Q a H) (Q (bn #[am (some (bf H.size)),ac 0]) (bg H #[ac i,ac j,ac 0,ac 0,ac 0,ax none 0 0] 116)))))):ag PP 99 #[ac i,ac j] Q H :=
 okF Tryz.func99 rfl h
theorem xk (h:ao a fun b=>aO H (b.add 5) fun _ b _=>az (ac 0) fun c=>ah ((b:Int) == 0) (Q c H) (ao a fun b=>aO H (b.add 5) fun d e f=>ao a fun a=>aO H (a.add 5) fun g i j=>az (aI ((i:Int)-1)) fun k=>bm k e d fun l=>az (bl l k 6) fun k=>aM H k fun l=>aM H (k.add 1) fun m=>aM H (k.add 2) fun n=>aM H (k.add 3) fun o=>aM H (k.add 4) fun p=>aO H (k.add 5) fun q r s=>az (bg H #[c,c,c,c,c,ax none 0 0] 113) fun c=>((aj c k=some (ac l)∧aj c (k.add 1)=some (ac m)∧aj c (k.add 2)=some (ac n)∧aj c (k.add 3)=some (ac o)∧aj c (k.add 4)=some (ac p)∧aj c (k.add 5)=some (ax q r s)∧True)∧(aj c (a.add 5)=some (ax g i j)∧True)∧(aj c (b.add 5)=some (ax d e f)∧True)∧True)∧bi c (bf H.size) (ac l) fun a=>bi a (ci H.size 1) (ac m) fun a=>az (ci H.size 2) fun b=>bi a b (ac n) fun a=>bi a (ci H.size 3) (ac o) fun a=>bi a (ci H.size 4) (ac p) fun a=>bi a (ci H.size 5) (ax q r s) fun a=>True∧aM a b fun c=>aO a (ci H.size 5) fun _ d _=>aM a (ci H.size 1) fun e=>aH 101 #[ac (d:Int),ac e] a fun a d=>((aj d b=some (ac c)∧True)∧True)∧Q (ac (aI (c+a))) d)):ag PP 100 #[.pointer a] Q H :=
 okF Tryz.func100 rfl h
theorem yi (h:ah (j == 1) (Q (ac (aI (2+aI (Int.tdiv (aI (i+3)) 4)))) H) (Q (ac (aI (2+i))) H)):ag PP 101 #[ac i,ac j] Q H :=
 okF Tryz.func101 rfl h
theorem wv (h:ce [ac 1] H fun b c d e f=>aH 54 #[am a,ac f] e fun a g=>ah (decide (a≥0)) (bt b c [ac (aI (f+1))] g d e) (Q (ac f) g)):ag PP 102 #[.pointer a] Q H :=
 okL Tryz.func102 rfl (fun | 2=>some [(3,3)] | _=>none) h
theorem wA (h:ah (ch a) (Q (bk 0 2) H) (aH 54 #[am a,ac i] H fun b c=>ah (aZ b 0) (Q (bk 0 20) c) (ao a fun a=>aO c (a.add 5) fun a d _=>bm b d a fun a=>aM c ((bl a b 6).add 4) fun a=>Q (bk a 0) c))):ag PP 105 #[.pointer a,ac i] Q H :=
 okF Tryz.func105 rfl h
theorem xF (h:az (ax none 0 0) fun c=>ah (ch a) (Q (bn #[c,ac 2]) H) (az (ac 0) fun d=>dq [c,d] H fun e f g i j k m n=>az (am a) fun a=>ah (aZ n (l:Int)) (bm n l b fun b=>aM i (bl b n 1) fun b=>aH 169 #[a,ac b] i fun a b=>cG 168 #[ax j k m,ac a] b fun a b c d=>bt e f [ax a b c,ac (aI (n+1))] d g i) (dq [ax j k m,d] i fun b e f g i j k l=>ah (aZ l (j:Int)) (bm l j i fun c=>aM g (bl c l 1) fun c=>aA 105 #[a,ac c] g fun c _ m=>aH 169 #[a,ac c] m fun c m=>cG 168 #[ax i j k,ac c] m fun c i j k=>bm l i c fun m=>aM k (bl m l 1) fun m=>cd 131 #[a,ac m] k fun k m _ n=>dq [ax c i j,d] n fun c d i j n o p q=>az (ax n o p) fun p=>az (ac (aI (l+1))) fun r=>ah (aZ q k) (ah (m == 0) (bm l o n fun b=>aM j (bl b l 1) fun b=>aA 132 #[a,ac b,ac q] j fun b _ e=>aH 169 #[a,ac b] e fun a b=>cG 168 #[p,ac a] b fun a b e f=>bt c d [ax a b e,ac (aI (q+1))] f i j) (bt b e [p,r] j f g)) (bt b e [p,r] j f g)) (cG 170 #[a] g fun a b _ e=>dq [c,d] e fun c e f g l m n o=>az (ax l m n) fun l=>ah (aZ o (b:Int)) (bm o b a fun d=>aM g (bl d o 1) fun d=>bK 171 #[ax i j k,ac d] g fun d i=>az (ac (aI (o+1))) fun j=>ah d (bm o b a fun a=>aM i (bl a o 1) fun a=>bE (Builtin.append_ #[109,109] 109 #[l,ax (some (bf i.size)) 1 1]) (bg i #[ac a] 3) fun a b d i=>bt c e [ax a b d,j] i f g) (bt c e [l,j] i f g)) (Q (bn #[l,d]) g))))):ag PP 108 #[.pointer a,.slice b l o] Q H :=
 okL Tryz.func108 rfl (fun | 5=>some [(6,109),(7,3)] | 9=>some [(6,109),(8,3)] | 15=>some [(6,109),(14,3)] | 22=>some [(17,109),(19,3)] | _=>none) h
theorem vz (h:az (ac 0) fun c=>ah (ch a) (Q (bn #[c,c,ac 2]) H) (ce [c] H fun d e f g i=>ah (aZ i (l:Int)) (bm i l b fun b=>aM g (bl b i 1) fun b=>aH 54 #[am a,ac b] g fun a b=>ah (aZ a 0) (Q (bn #[c,c,ac 20]) b) (bt d e [ac (aI (i+1))] b f g)) (ao a fun d=>aO g (d.add 5) fun _ d _=>aH 100 #[am a] g fun e f=>tT [c,ax none 0 0,c] f fun f g i j k m n p q=>ao a fun r=>aO j (r.add 5) fun _ r _=>az (ax m n p) fun m=>ah (aZ q (r:Int)) (ao a fun a=>aO j (a.add 5) fun a d _=>bm q d a fun a=>az (bl a q 6) fun a=>aM j a fun d=>aM j (a.add 1) fun e=>aM j (a.add 2) fun n=>aM j (a.add 3) fun p=>aM j (a.add 4) fun r=>aO j (a.add 5) fun a s t=>az (bf j.size) fun u=>bi (bg j #[c,c,c,c,c,ax none 0 0] 113) u (ac d) fun c=>az (ci j.size 1) fun d=>bi c d (ac e) fun c=>az (ci j.size 2) fun e=>bi c e (ac n) fun c=>bi c (ci j.size 3) (ac p) fun c=>bi c (ci j.size 4) (ac r) fun c=>az (ci j.size 5) fun n=>bi c n (ax a s t) fun a=>aM a u fun c=>bK 172 #[ax b l o,ac c] a fun a b=>az (ac (aI (q+1))) fun c=>ah a (bi b e (ac k) fun a=>aO a n fun _ b _=>aM a d fun l=>aH 101 #[ac (b:Int),ac l] a fun a b=>aM b u fun l=>aM b d fun d=>aM b e fun e=>aM b (ci j.size 3) fun o=>aM b (ci j.size 4) fun p=>aO b n fun n q r=>bE (Builtin.append_ #[114,114] 114 #[m,ax (some (bf b.size)) 1 1]) (bg b #[ac l,ac d,ac e,ac o,ac p,ax n q r] 113) fun b d e l=>bt f g [ac (aI (k+a)),ax b d e,c] l i j) (bt f g [ac k,m,c] b i j)) (ao a fun b=>bi j (b.add 5) m fun b=>ao a fun f=>aM b (f.add 4) fun f=>ao a fun a=>bi b (a.add 4) (ac (aI (f+1))) fun a=>Q (bn #[ac (aI ((d:Int)-(n:Int))),ac (aI (e-k)),c]) a)))):ag PP 109 #[.pointer a,.slice b l o] Q H :=
 okL Tryz.func109 rfl (fun | 4=>some [(7,3)] | 13=>some [(10,3),(11,114),(12,3)] | _=>none) h
theorem wI (h:ah (ch a) (Q (ac 0) H) (ao a fun a=>aM H (a.add 2) fun a=>Q (ac a) H)):ag PP 130 #[.pointer a] Q H :=
 okF Tryz.func130 rfl h
theorem wP (h:az (ac 0) fun b=>ah (ch a) (Q (bn #[b,b,ac 2]) H) (aH 54 #[am a,ac i] H fun c d=>ah (aZ c 0) (Q (bn #[b,b,ac 20]) d) (ao a fun e=>aO d (e.add 5) fun e f _=>bm c f e fun e=>aO d ((bl e c 6).add 5) fun _ e _=>ao a fun a=>aO d (a.add 5) fun a f _=>bm c f a fun a=>aM d ((bl a c 6).add 1) fun a=>Q (bn #[ac (e:Int),ac a,b]) d))):ag PP 131 #[.pointer a,ac i] Q H :=
 okF Tryz.func131 rfl h
theorem xV (h:ah (ch a) (Q (bk 0 2) H) (aH 54 #[am a,ac i] H fun b c=>ah (aZ b 0) (Q (bk 0 20) c) (ah (aZ j 0) (Q (bk 0 21) c) (ao a fun d=>aO c (d.add 5) fun d e _=>bm b e d fun d=>aO c ((bl d b 6).add 5) fun _ d _=>ah (decide (j≥(d:Int))) (Q (bk 0 21) c) (ao a fun a=>aO c (a.add 5) fun a d _=>bm b d a fun a=>aO c ((bl a b 6).add 5) fun a b _=>bm j b a fun a=>aM c (bl a j 1) fun a=>Q (bk a 0) c))))):ag PP 132 #[.pointer a,ac i,ac j] Q H :=
 okF Tryz.func132 rfl h
theorem vR (h:ah (ch a) (Q (ac 2) H) (ah (aZ i 0) (Q (ac 28) H) (ao a fun b=>aO H (b.add 2) fun _ b _=>ah (bA i (b:Int)) (Q (ac 28) H) (ao a fun b=>aO H (b.add 2) fun b _ c=>ao a fun d=>aO H (d.add 2) fun _ d _=>az (aI ((d:Int)-i)) fun d=>((0:Int)<=d∧d<=(c:Int))∧bE (Builtin.append_ #[44,44] 44 #[ax none 0 0,ax b (Int.toNat d) c]) H fun b c d e=>True∧ao a fun a=>bi e (a.add 2) (ax b c d) fun a=>True∧Q (ac 0) a)))):ag PP 133 #[.pointer a,ac i] Q H :=
 okF Tryz.func133 rfl h
theorem xa (h:ah (ch a) (Q (ac 2) H) (ah (aZ i 0) (Q (ac 1) H) (ah (bA i 1073741824) (Q (ac 1) H) (ao a fun a=>bi H (a.add 2) (ac i) fun a=>Q (ac 0) a)))):ag PP 135 #[.pointer a,ac i] Q H :=
 okF Tryz.func135 rfl h
theorem xe (h:az (ax a l o) fun a=>ah (i == 0) (Q a H) (bK 171 #[a,ac i] H fun b c=>ah b (Q a c) (bE (Builtin.append_ #[109,109] 109 #[a,ax (some (bf c.size)) 1 1]) (bg c #[ac i] 3) fun a b c d=>Q (ax a b c) d))):ag PP 168 #[.slice a l o,ac i] Q H :=
 okF Tryz.func168 rfl h
theorem yb (h:aA 201 #[ac i] H fun b c d=>ah (c != 0) (Q (ac 0) d) (aA 105 #[am a,ac b] d fun _ a c=>ah (a != 0) (Q (ac 0) c) (Q (ac b) c))):ag PP 169 #[.pointer a,ac i] Q H :=
 okF Tryz.func169 rfl h
theorem wt (h:ah (ch a) (Q (ax none 0 0) H) (dq [ax none 0 0,ac 1] H fun b c d e f g i j=>ao a fun k=>aO e (k.add 5) fun _ k _=>az (ax f g i) fun f=>ah (aZ (g:Int) (k:Int)) (aH 54 #[am a,ac j] e fun a g=>ah (decide (a≥0)) (bE (Builtin.append_ #[109,109] 109 #[f,ax (some (bf g.size)) 1 1]) (bg g #[ac j] 3) fun a f g i=>bt b c [ax a f g,ac (aI (j+1))] i d e) (bt b c [f,ac (aI (j+1))] g d e)) (Q f e))):ag PP 170 #[.pointer a] Q H :=
 okL Tryz.func170 rfl (fun | 5=>some [(3,109),(4,3)] | _=>none) h
theorem xu (h:ce [ac 0] H fun b c d e f=>ah (aZ f (l:Int)) (bm f l a fun a=>aM e (bl a f 1) fun a=>ah (a == i) (Q (bx true) e) (bt b c [ac (aI (f+1))] e d e)) (Q (bx false) e)):ag PP 171 #[.slice a l o,ac i] Q H :=
 okL Tryz.func171 rfl (fun | 2=>some [(5,3)] | _=>none) h
theorem xz (h:ce [ac 0] H fun b c d e f=>ah (aZ f (l:Int)) (bm f l a fun a=>aM e (bl a f 1) fun a=>ah (a == i) (Q (bx true) e) (bt b c [ac (aI (f+1))] e d e)) (Q (bx false) e)):ag PP 172 #[.slice a l o,ac i] Q H :=
 okL Tryz.func172 rfl (fun | 2=>some [(5,3)] | _=>none) h
end
def eB:sD RO:=fun H ys o F=>∃ a l c,ys=[ac o.oop,ac o.fmt,ac o.place,ac o.born,ac o.cls,.slice a l c]∧bZ 1 H a l c (au o.slots) F
theorem eB.frR:zB eB:=fun _ _ _ _ _ ⟨a,l,c,h1,h2⟩ he=>⟨a,l,c,h1,h2.keep he⟩
theorem eB.ltR:Ba eB:=fun _ _ _ _ ⟨_,_,_,_,h2⟩=>h2.lt
def de (H:ae) (b:Nat) (F:aB) (r:RH):Prop:=∃ a l c F',F=b :: F'∧b∉F'∧bW H b #[ac r.words,ac r.oops,ac r.mark,ac r.born,ac r.turn,.slice a l c]∧fH 6 eB H a l c r.objs F'∧WFH r
theorem de.wf {H:ae}{b:Nat}{F:aB}{r:RH} (h:de H b F r):WFH r:=by obtain ⟨_,_,_,_,_,_,_,_,h⟩:=h;exact h
theorem de.lt {H:ae}{b:Nat}{F:aB}{r:RH} (h:de H b F r):∀ x∈F,x<H.size:=by
 obtain ⟨a,l,c,F',rfl,_,hB,hL,_⟩:=h;intro x hx;rcases Rk.1 hx with rfl | hx
 ·exact hB.lt
 ·exact hL.lt eB.ltR x hx
theorem de.keep {H H':ae}{b:Nat}{F:aB}{r:RH} (h:de H b F r) (he:∀ x∈F,H'[x]?=H[x]?):de H' b F r:=by
 obtain ⟨a,l,c,F',rfl,hn,hB,hL,hw⟩:=h;exact ⟨a,l,c,F',rfl,hn,hB.of_eq (he b (by simp)),hL.keep eB.frR fun x hx=>he x (by simp [hx]),hw⟩
theorem de.fr {H H':ae}{b:Nat}{F G:aB}{r:RH} (h:de H b F r) (hf:Fr G H H') (hd:bL F G):de H' b F r :=
 h.keep fun x hx=>hf.2 x (h.lt x hx) (hd x hx)
section
variable {H:ae}{b:Nat}{F F':aB}{r:RH}{a:Option Addr}{l c:Nat}{Q:QT}
theorem iQ {objs:List RO} (hL:fH 6 eB H a l c objs F'){i:Nat} (hi:i<objs.length) :
  ∃ ob sa sl sc G,a=some ⟨ob,0,none⟩∧aj H ⟨ob,i*6,none⟩=some (ac objs[i].oop)∧aj H ⟨ob,i*6+1,none⟩=some (ac objs[i].fmt)∧aj H ⟨ob,i*6+2,none⟩=some (ac objs[i].place) ∧
   aj H ⟨ob,i*6+3,none⟩=some (ac objs[i].born)∧aj H ⟨ob,i*6+4,none⟩=some (ac objs[i].cls)∧aj H ⟨ob,i*6+5,none⟩=some (.slice sa sl sc)∧bZ 1 H sa sl sc (au objs[i].slots) G∧(∀ x∈G,x∈F')∧sl=objs[i].slots.length:=by
 obtain ⟨p,ys,G,e1,e2,e3,e4,e5,⟨sa,sl,sc,e6,e7⟩,e8⟩:=hL.get hi;obtain ⟨pb,po,ps⟩:=p;simp only at e2 e3;subst e2;subst e3;subst e6;refine ⟨pb,sa,sl,sc,G,e1,e4 0 (by decide),e4 1 (by decide),e4 2 (by decide),e4 3 (by decide),e4 4 (by decide),e4 5 (by decide),e7,e8,?_⟩
 have:=e7.len;simp only [au,RZ] at this;omega
theorem ko {n f:Int} (h0:0<=n) (h1:n<=1000000000) (h:Q (ac (lenOf n f)) H):ag PP 101 #[ac n,ac f] Q H:=by
 apply yi;dsimp only [ah,ac,aI];simp only [af,Rs,Rh,Rf,Ri,aK,aC,aU,aW,aL,aX,aR,aD,aT,aS,aJ,aV,Ru,Rx,Ry,ak,Rm,Rn,av,aq,aF,Rq,Rp,bq,bw];unfold lenOf at h;split
 ·rename_i hf;rw [Rj hf] at h;rw [ai (n:=n+3) (by omega) (by omega),iL,Rj (by omega),ai (n:=(n+3) / 4) (by omega) (by omega),ai (by omega) (by omega)];exact h
 ·rename_i hf;rw [Re hf] at h;rw [ai (by omega) (by omega)];exact h
theorem AG {w f:Int} (h:Q (.bool (decide (fF f w))) H):ag PP 55 #[ac w,ac f] Q H:=by
 apply AF;dsimp only [bx,aH,ah,ac];have fin:∀ b:Bool,b=decide (fF f w)->Q (.bool b) H:=fun b hb=>hb ▸ h;simp only [af,Rs,Rh,Rf,Ri,aK,aC,aU,aW,aL,aX,aR,aD,aT,aS,aJ,aV,Ru,Rx,Ry,ak,Rm,Rn,av,aq,aF,Rq,Rp,bq,bw];split
 ·rename_i hf;split
  ·exact fin _ (by simp [fF,hf];omega)
  ·exact fin _ (by simp [fF,hf];omega)
 ·rename_i hf;refine fg ?_;simp only [af,Rs,Rh,Rf,Ri,aK,aC,aU,aW,aL,aX,aR,aD,aT,aS,aJ,aV,Ru,Rx,Ry,ak,Rm,Rn,av,aq,aF,Rq,Rp,bq,bw];exact fin _ (by simp [fF,hf,d8])
theorem gU (hR:de H b F r){k:Int} (h1:aG r.objs k=none->Q (ac (-1)) H) (h2:∀ (n:Nat) (hn:n<r.objs.length),aG r.objs k=some r.objs[n]->Q (ac n) H):ag PP 54 #[Cv b,ac k] Q H:=by
 have p4:=hR;obtain ⟨a,l,c,F',rfl,hn,hB,hL,hw⟩:=hR;have Dr:=hL.len;apply zN;dsimp only [ah,aZ,aM,aO,bl,ac,bm,ce,bt,ao,aI];have CY:=hB.cell 5;have FG:=ee hw.objs;have GL:=bX hw.objs hw.w0;have CW:=hw.w1;refine ⟨fun w H'=>H'=H∧∃ n:Nat,w=[ac n]∧n<=r.objs.length∧∀ j (hj:j<r.objs.length),j<n->r.objs[j].oop≠k,fun w _=>match w with
  | [.int _ i]=>(r.objs.length-i).toNat
  | _=>0,⟨rfl,0,rfl,RL _,fun j hj h=>by omega⟩,?_⟩
 rintro w H1 ⟨rfl,n,rfl,E7,Dl⟩ _;refine ⟨n,rfl,?_⟩;simp only [af,Rs,Rh,Rf,Ri,aK,aC,aU,aW,aL,aX,aR,aD,aT,aS,aJ,aV,Ru,Rx,Ry,ak,Rm,Rn,av,aq,aF,Rq,Rp,bq,bw,CY,RR,R3,R7,RX,RF,RV,R2,RT,RU];split
 ·rename_i an;have cx:n<r.objs.length:=by omega
  obtain ⟨ob,sa,sl,sc,G,rfl,g0,g1,g2,g3,g4,g5,g6,g7,g8⟩:=iQ hL cx;simp only [af,Rs,Rh,Rf,Ri,aK,aC,aU,aW,aL,aX,aR,aD,aT,aS,aJ,aV,Ru,Rx,Ry,ak,Rm,Rn,av,aq,aF,Rq,Rp,bq,bw,Ro,g0];refine ⟨by omega,an,?_⟩;split
  ·rename_i he;refine h2 n cx ?_;rw [←he];exact cA hw.objs (RG cx)
  ·rename_i he;have e:IntKind.wrap .i64 ((n:Int)+1)=((n+1:Nat):Int):=by rw [ai (by omega) (by omega)];omega
   rw [e];refine ⟨⟨n+1,rfl,by omega,fun j hj C7=>?_⟩,by simp;omega⟩;by_cases Jd:j=n
   ·subst Jd;exact he
   ·exact Dl j hj (by omega)
 ·rename_i an;refine h1 (db.2 fun o ho=>?_);obtain ⟨j,hj,rfl⟩:=Sp ho;exact Dl j hj (by omega)
theorem jW (hR:de H b F r){k:Int} (h:Q (two (r.clsAt k)) H):ag PP 105 #[Cv b,ac k] Q H:=by
 have p4:=hR;obtain ⟨a,l,c,F',rfl,hn,hB,hL,hw⟩:=hR;have Dr:=hL.len;have CY:=hB.cell 5;apply wA;dsimp only [bk,aH,ah,aZ,aM,aO,bl,ac,bm,ao,ch,am];unfold RH.clsAt at h;simp only [af,Rs,Rh,Rf,Ri,aK,aC,aU,aW,aL,aX,aR,aD,aT,aS,aJ,aV,Ru,Rx,Ry,ak,Rm,Rn,av,aq,aF,Rq,Rp,bq,bw,CY,RR,R3,R7,RX,RF,RV,R2,RT,RU];refine gU p4 (fun yB=>?_) fun n an ho=>?_
 ·rw [yB] at h;exact ⟨_,rfl,by simpa using h⟩
 ·rw [ho] at h;obtain ⟨ob,sa,sl,sc,G,rfl,g0,g1,g2,g3,g4,g5,g6,g7,g8⟩:=iQ hL an;simp only [af,Rs,Rh,Rf,Ri,aK,aC,aU,aW,aL,aX,aR,aD,aT,aS,aJ,aV,Ru,Rx,Ry,ak,Rm,Rn,av,aq,aF,Rq,Rp,bq,bw,Ro,g4,CY,RR,R3,R7,RX,RF,RV,R2,RT,RU];rw [Re (by omega)];exact ⟨by omega,by omega,h⟩
theorem oS (hR:de H b F r){k:Int} (h:Q (jQ (r.size k)) H):ag PP 131 #[Cv b,ac k] Q H:=by
 have p4:=hR;obtain ⟨a,l,c,F',rfl,hn,hB,hL,hw⟩:=hR;have Dr:=hL.len;have CY:=hB.cell 5;apply wP;dsimp only [aH,ah,aZ,aM,aO,bl,ac,bm,ao,ch,am,az,bn];unfold RH.size at h;simp only [af,Rs,Rh,Rf,Ri,aK,aC,aU,aW,aL,aX,aR,aD,aT,aS,aJ,aV,Ru,Rx,Ry,ak,Rm,Rn,av,aq,aF,Rq,Rp,bq,bw];refine gU p4 (fun yB=>?_) fun n an ho=>?_
 ·rw [yB] at h;exact ⟨_,rfl,by simpa using h⟩
 ·rw [ho] at h;obtain ⟨ob,sa,sl,sc,G,rfl,g0,g1,g2,g3,g4,g5,g6,g7,g8⟩:=iQ hL an;simp only [af,Rs,Rh,Rf,Ri,aK,aC,aU,aW,aL,aX,aR,aD,aT,aS,aJ,aV,Ru,Rx,Ry,ak,Rm,Rn,av,aq,aF,Rq,Rp,bq,bw,Ro,g1,g5,CY,RR,R3,R7,RX,RF,RV,R2,RT,RU];rw [Re (by omega)];refine ⟨by omega,by omega,by omega,by omega,?_⟩;rw [g8];exact h
theorem t7 (hR:de H b F r){k i:Int} (h:Q (two (r.at k i)) H):ag PP 132 #[Cv b,ac k,ac i] Q H:=by
 have p4:=hR;obtain ⟨a,l,c,F',rfl,hn,hB,hL,hw⟩:=hR;have Dr:=hL.len;have CY:=hB.cell 5;apply xV;dsimp only [bk,aH,ah,aZ,aM,aO,bl,ac,bm,ao,ch,am];unfold RH.at at h;simp only [af,Rs,Rh,Rf,Ri,aK,aC,aU,aW,aL,aX,aR,aD,aT,aS,aJ,aV,Ru,Rx,Ry,ak,Rm,Rn,av,aq,aF,Rq,Rp,bq,bw];refine gU p4 (fun yB=>?_) fun n an ho=>?_
 ·rw [yB] at h;exact ⟨_,rfl,by simpa using h⟩
 ·rw [ho] at h;obtain ⟨ob,sa,sl,sc,G,rfl,g0,g1,g2,g3,g4,g5,g6,g7,g8⟩:=iQ hL an;simp only [af,Rs,Rh,Rf,Ri,aK,aC,aU,aW,aL,aX,aR,aD,aT,aS,aJ,aV,Ru,Rx,Ry,ak,Rm,Rn,av,aq,aF,Rq,Rp,bq,bw,Ro,g5,CY,RR,R3,R7,RX,RF,RV,R2,RT,RU];rw [Re (by omega)];simp only at h;split
  ·rename_i hi;rw [Rj (.inl hi)] at h;exact h
  ·rename_i hi;refine ⟨by omega,by omega,?_⟩;split
   ·rename_i DO;rw [Rj (by omega)] at h;exact h
   ·rename_i DO;rw [Re (by omega)] at h;obtain ⟨p,rfl,al,ap⟩:=g6.rd.int (i:=i) (by omega) (by omega);simp only [af,Rs,Rh,Rf,Ri,aK,aC,aU,aW,aL,aX,aR,aD,aT,aS,aJ,aV,Ru,Rx,Ry,ak,Rm,Rn,av,aq,aF,Rq,Rp,bq,bw,al];exact ⟨by omega,by omega,by omega,by omega,h⟩
theorem sS (hR:de H b F r) (h:Q (ac r.mark) H):ag PP 130 #[Cv b] Q H:=by
 obtain ⟨a,l,c,F',rfl,hn,hB,hL,hw⟩:=hR;have hc:=hB.cell 2;apply wI;dsimp only [ah,aM,ac,ao,ch];simp only [af,Rs,Rh,Rf,Ri,aK,aC,aU,aW,aL,aX,aR,aD,aT,aS,aJ,aV,Ru,Rx,Ry,ak,Rm,Rn,av,aq,aF,Rq,Rp,bq,bw,hc,RR,R3,R7,RX,RF,RV,R2,RT,RU];exact h
theorem uk (hR:de H b F r){k:Int} (h:∀ H',de H' b F (r.marks k).2->Fr F H H'->Q (ac (r.marks k).1) H'):ag PP 135 #[Cv b,ac k] Q H:=by
 have p4:=hR;obtain ⟨a,l,c,F',rfl,hn,hB,hL,hw⟩:=hR;apply xa;dsimp only [ah,bA,aZ,ac,ao,ch,bi];unfold RH.marks at h;simp only [af,Rs,Rh,Rf,Ri,aK,aC,aU,aW,aL,aX,aR,aD,aT,aS,aJ,aV,Ru,Rx,Ry,ak,Rm,Rn,av,aq,aF,Rq,Rp,bq,bw];split
 ·rw [Re (by omega)] at h;exact h H p4 (Fr.refl _ _)
 split
 ·rw [Re (by omega)] at h;exact h H p4 (Fr.refl _ _)
 ·rw [Rj (by omega)] at h;refine ⟨hB.wr (by simp),h _ ⟨a,l,c,F',rfl,hn,hB.set 2 (ac k),hL.keep eB.frR fun x hx=>cV (fun e=>hn (by simp only at e;subst e;exact hx)),{ hw with m0:=by simp;omega,m1:=by simp;omega }⟩ (Fr.set (by simp))⟩
theorem lT (hR:de H b F r) (h:∀ H',Fr [] H H'->Q (ac (bv r.objs)) H'):ag PP 100 #[Cv b] Q H:=by
 have p4:=hR;obtain ⟨a,l,c,F',rfl,hn,hB,hL,hw⟩:=hR;have Dr:=hL.len;have CY:=hB.cell 5;have FG:=ee hw.objs;have GL:=bX hw.objs hw.w0;have CW:=hw.w1;apply xk;dsimp only [bf,ci,aH,ah,aM,aO,bl,ac,bm,ax,ao,bg,az,bi,aI];simp only [af,Rs,Rh,Rf,Ri,aK,aC,aU,aW,aL,aX,aR,aD,aT,aS,aJ,aV,Ru,Rx,Ry,ak,Rm,Rn,av,aq,aF,Rq,Rp,bq,bw,CY,RR,R3,R7,RX,RF,RV,R2,RT,RU];split
 ·rename_i h0
  have:r.objs=[]:=RM (by omega);rw [this] at h;exact h H (Fr.refl _ _)
 ·rename_i h0;rcases Sg r.objs with he | ⟨m,x,he⟩
  ·rw [he] at Dr;simp at Dr;omega
  simp only [Sr] at he;have Oq:r.objs.length=m.length+1:=by rw [he];simp
  have hi:m.length<r.objs.length:=by omega
  obtain ⟨ob,sa,sl,sc,G,rfl,g0,g1,g2,g3,g4,g5,g6,g7,g8⟩:=iQ hL hi;have hx:r.objs[m.length]=x:=by simp [he]
  rw [hx] at g0 g1 g2 g3 g4 g6 g8;have e1:IntKind.wrap .i64 ((l:Int)-1)=(m.length:Int):=by rw [ai (by omega) (by omega)];omega
  have MY:x∈r.objs:=by rw [he];simp
  have hg:=hw.objs.good x MY;have DS:=hg.many;have GC:=hg.pl;have Df:=hg.fits;have MK:=x.len_pos;have C0:ob<H.size:=by
   have h3:=hL.lt eB.ltR;obtain ⟨xs,F1,F2,k1,k2,k3,k4,k5⟩:=hL;rcases k1.2.2 with ⟨ka,_⟩ | ⟨b',cs,ka,kb,kc,_⟩
   ·cases ka
   ·cases ka;exact kc.lt
  have P0:∀ o i,aj (H.push o) ⟨ob,i,none⟩=aj H ⟨ob,i,none⟩:=fun o i=>dc C0;have Lk:∀ o i,aj (H.push o) ⟨b,i,none⟩=aj H ⟨b,i,none⟩:=fun o i=>dc hB.lt;simp only [af,Rs,Rh,Rf,Ri,aK,aC,aU,aW,aL,aX,aR,aD,aT,aS,aJ,aV,Ru,Rx,Ry,ak,Rm,Rn,av,aq,aF,Rq,Rp,bq,bw,e1,Ro,P0,Lk,g0,g1,g2,g3,g4,g5,CY,RR,R3,R7,RX,RF,RV,R2,RT,RU];refine ⟨by omega,by omega,by decide,by decide,by decide,by decide,by decide,by decide,?_⟩;rw [g8];refine ko (by omega) (by omega) ?_;have e2:IntKind.wrap .i64 (x.place+lenOf (x.slots.length:Int) x.fmt)=x.place+x.len:=ai (by unfold RO.len at *;omega) (by unfold RO.len at *;omega);simp only [af,Rs,Rh,Rf,Ri,aK,aC,aU,aW,aL,aX,aR,aD,aT,aS,aJ,aV,Ru,Rx,Ry,ak,Rm,Rn,av,aq,aF,Rq,Rp,bq,bw,RR,R3,R7,RX,RF,RV,R2,RT,RU];rw [e2];have h':∀ H',Fr [] H H'->Q (ac (x.place+x.len)) H':=by rw [he,cW] at h;exact h
  exact h' _ (Fr.push _ _ _)
theorem sT (l:List Int) (i:Nat) (w:Int):(au l).set i (ac w)=au (l.set i w):=by simp [au,List.map_set]
theorem xn {a:Option Addr}{l c:Nat}{xs:List Int}{G:aB} (h:bZ 1 H a l c (au xs) G){i:Int} (h0:0<=i) (h1:i<xs.length) (w:Int) :
  ∃ sb,a=some ⟨sb,0,none⟩∧G=[sb]∧Wr H ⟨sb,i.toNat,none⟩∧bZ 1 (bc H ⟨sb,i.toNat,none⟩ (ac w)) a l c (au (xs.set i.toNat w)) G:=by
 have hl:=h.len;simp only [au,RZ] at hl;rcases h.2.2 with ⟨_,hc,_⟩ | ⟨sb,cs,rfl,rfl,hb,C1,lp⟩
 ·have:=h.2.1;omega
 ·have CI:=h.2.1;refine ⟨sb,rfl,rfl,hb.wr (by omega),⟨by simp [au,hl],CI,.inr ⟨sb,_,rfl,rfl,hb.set i.toNat (ac w),by simpa using C1,?_⟩⟩⟩;rw [Array.toList_setIfInBounds,List.take_set,lp,sT]
theorem lV (hR:de H b F r){k i w:Int} (h:∀ H',de H' b F (r.put k i w).2->Fr F H H'->Q (ac (r.put k i w).1) H'):ag PP 16 #[Cv b,ac k,ac i,ac w] Q H:=by
 have p4:=hR;obtain ⟨a,l,c,F',rfl,hn,hB,hL,hw⟩:=hR;have Dr:=hL.len;have CY:=hB.cell 5;have ll:=gI hw k i w;apply AZ;dsimp only [bK,aH,ah,aZ,aM,aO,bl,ac,bm,ao,ch,am,bi];unfold RH.put at h ll;simp only [af,Rs,Rh,Rf,Ri,aK,aC,aU,aW,aL,aX,aR,aD,aT,aS,aJ,aV,Ru,Rx,Ry,ak,Rm,Rn,av,aq,aF,Rq,Rp,bq,bw];refine gU p4 (fun yB=>?_) fun n an ho=>?_
 ·simp only [yB] at h;exact ⟨_,rfl,by simpa using h H p4 (Fr.refl _ _)⟩
 ·simp only [ho] at h ll;obtain ⟨ob,sa,sl,sc,G,rfl,g0,g1,g2,g3,g4,g5,g6,g7,g8⟩:=iQ hL an;simp only [af,Rs,Rh,Rf,Ri,aK,aC,aU,aW,aL,aX,aR,aD,aT,aS,aJ,aV,Ru,Rx,Ry,ak,Rm,Rn,av,aq,aF,Rq,Rp,bq,bw,Ro,g1,g5,CY,RR,R3,R7,RX,RF,RV,R2,RT,RU];rw [Re (by omega)];split
  ·rename_i hi;simp only [hi,true_or,if_true] at h;exact h H p4 (Fr.refl _ _)
  ·rename_i hi;refine ⟨by omega,by omega,?_⟩;split
   ·rename_i DO;have MZ:(r.objs[n].slots.length:Int)<=i:=by omega
    simp only [MZ,or_true,if_true] at h;exact h H p4 (Fr.refl _ _)
   ·rename_i DO;have MZ:¬ (i<0∨(r.objs[n].slots.length:Int)<=i):=by omega
    simp only [MZ,if_false] at h ll;refine ⟨by omega,by omega,AG ?_⟩;by_cases DK:fF r.objs[n].fmt w
    ·simp only [DK,not_true_eq_false,if_false] at h ll;simp only [af,Rs,Rh,Rf,Ri,aK,aC,aU,aW,aL,aX,aR,aD,aT,aS,aJ,aV,Ru,Rx,Ry,ak,Rm,Rn,av,aq,aF,Rq,Rp,bq,bw,DK,decide_true,g5,CY,RR,R3,R7,RX,RF,RV,R2,RT,RU];obtain ⟨p,ys,G',e1,e2,e3,e4,e5,⟨sa',sl',sc',e6,e7⟩,e8,e9⟩:=hL.updIn eB.frR eB.ltR an;obtain ⟨pb,po,ps⟩:=p;simp only at e2 e3;subst e2;subst e3;subst e6;cases e1;have Dd:=(e4 5 (by decide)).symm.trans g5;simp only [RT,RU,Option.some.injEq,Value.slice.injEq] at Dd;obtain ⟨rfl,rfl,rfl⟩:=Dd;obtain ⟨sb,rfl,rfl,J6,Dq⟩:=xn e7 (i:=i) (by omega) (by omega) w;simp only [af,Rs,Rh,Rf,Ri,aK,aC,aU,aW,aL,aX,aR,aD,aT,aS,aJ,aV,Ru,Rx,Ry,ak,Rm,Rn,av,aq,aF,Rq,Rp,bq,bw];refine ⟨by omega,by omega,by omega,by omega,J6,h _ ?_ (Fr.set (by simp only [Rk];exact .inr (e8 sb (by simp))))⟩;have Ho:b≠sb:=fun e=>hn (by rw [e];exact e8 sb (by simp));have Dk:k=r.objs[n].oop:=(aN ho).2.symm;refine ⟨some ⟨ob,0,none⟩,l,c,F',rfl,hn,hB.set_ne Ho _,?_,ll⟩;rw [Dk,pA hw.objs an];exact e9 _ _ ⟨_,_,_,rfl,Dq⟩ fun x hx EG=>cV (by simp only [Rg] at EG;exact EG)
    ·simp only [DK,not_false_eq_true,if_true] at h;simp only [af,Rs,Rh,Rf,Ri,aK,aC,aU,aW,aL,aX,aR,aD,aT,aS,aJ,aV,Ru,Rx,Ry,ak,Rm,Rn,av,aq,aF,Rq,Rp,bq,bw,DK,decide_false];exact h H p4 (Fr.refl _ _)
theorem nK (hR:de H b F r) (an:(r.objs.length:Int)<r.oops) (h:Q (ac (bR r.objs)) H):ag PP 102 #[Cv b] Q H:=by
 have hw:=hR.wf;have C3:=hw.o1;have DC:=dm hw.objs C3 an;apply wv;dsimp only [aH,ah,ac,ce,bt,am,aI];refine ⟨fun w H'=>H'=H∧∃ k:Int,w=[ac k]∧1<=k∧k<=bR r.objs,fun w _=>match w with
  | [.int _ k]=>(bR r.objs-k).toNat
  | _=>0,⟨rfl,1,rfl,Sc _,DC.1⟩,?_⟩
 rintro w H1 ⟨rfl,k,rfl,Dw,EF⟩ _;refine ⟨k,rfl,?_⟩;simp only [af,Rs,Rh,Rf,Ri,aK,aC,aU,aW,aL,aX,aR,aD,aT,aS,aJ,aV,Ru,Rx,Ry,ak,Rm,Rn,av,aq,aF,Rq,Rp,bq,bw];refine gU hR (fun yB=>⟨_,rfl,?_⟩) fun n hn ho=>⟨_,rfl,?_⟩
 ·rw [Re (by decide)]
  have:k=bR r.objs:=by
   refine RE fun hc=>?_;exact DC.2.2.2 k Dw (by omega) yB
  rw [this];exact h
 ·rw [Rj (by omega),ai (n:=k+1) (by omega) (by omega)]
  have:k≠bR r.objs:=by rintro rfl;rw [DC.2.2.1] at ho;cases ho
  exact ⟨rfl,⟨k+1,rfl,by omega,by omega⟩,by simp;omega⟩
theorem AX {words oops:Int} (l8:¬ (0<=words∧words<=1048576∧0<=oops∧oops<=65536)->Q (.tuple #[.pointer none,ac 1]) H)
  (h:(0<=words∧words<=1048576∧0<=oops∧oops<=65536)->∀ H',de H' H.size [H.size] ⟨words,oops,0,0,0,[]⟩->Fr [] H H'->Q (.tuple #[.pointer (some ⟨H.size,0,none⟩),ac 0]) H'):ag PP 99 #[ac words,ac oops] Q H:=by
 apply zU;dsimp only [bf,ah,bA,aZ,ac,ax,am,bg,az,bn];simp only [af,Rs,Rh,Rf,Ri,aK,aC,aU,aW,aL,aX,aR,aD,aT,aS,aJ,aV,Ru,Rx,Ry,ak,Rm,Rn,av,aq,aF,Rq,Rp,bq,bw];split
 ·exact l8 (by omega)
 split
 ·exact l8 (by omega)
 split
 ·exact l8 (by omega)
 split
 ·exact l8 (by omega)
 ·refine h (by omega) _ ⟨none,0,0,[],rfl,by simp,bW.new _ _ _,fH.nil,?_⟩ (Fr.push _ _ _);exact ⟨by simp;omega,by simp;omega,by simp;omega,by simp;omega,by simp,by simp,⟨by simp,by simp⟩⟩
theorem AI {a:Option Addr}{l c:Nat}{ks:List Int}{k:Int} (hk:Rd 1 H a l (au ks)) (hl:l<=1099511627776) (h:Q (.bool (decide (k∈ks))) H):ag PP 172 #[.slice a l c,ac k] Q H:=by
 have Dr:l=ks.length:=by have:=hk.1;simpa [au] using this.symm
 apply xz;dsimp only [bx,ah,aZ,aM,bl,ac,bm,ce,bt,aI];refine ⟨fun w H'=>H'=H∧∃ n:Nat,w=[ac n]∧n<=l∧k∉ks.take n,fun w _=>match w with
  | [.int _ i]=>(l-i).toNat
  | _=>0,⟨rfl,0,rfl,RL _,by simp⟩,?_⟩
 rintro w H1 ⟨rfl,n,rfl,E7,Dl⟩ _;refine ⟨n,rfl,?_⟩;simp only [af,Rs,Rh,Rf,Ri,aK,aC,aU,aW,aL,aX,aR,aD,aT,aS,aJ,aV,Ru,Rx,Ry,ak,Rm,Rn,av,aq,aF,Rq,Rp,bq,bw];split
 ·rename_i an;obtain ⟨p,rfl,al,ap⟩:=hk.int (i:=(n:Int)) (by omega) an;rw [Ro] at al ap;simp only [af,Rs,Rh,Rf,Ri,aK,aC,aU,aW,aL,aX,aR,aD,aT,aS,aJ,aV,Ru,Rx,Ry,ak,Rm,Rn,av,aq,aF,Rq,Rp,bq,bw,Ro,al];refine ⟨by omega,an,?_⟩;have lp:ks.take (n+1)=ks.take n++[ks.getD n 0]:=by rw [RP];simp [ap]
  split
  ·rename_i he
   have:k∈ks:=by
    have hm:ks.getD n 0∈ks:=by
     have:ks.getD n 0=ks[n]:=by simp [ap]
     rw [this];exact RG ap
    rw [he] at hm;exact hm
   simpa [this] using h
  ·rename_i he;have e:IntKind.wrap .i64 ((n:Int)+1)=((n+1:Nat):Int):=by rw [ai (by omega) (by omega)];omega
   rw [e];refine ⟨⟨n+1,rfl,by omega,?_⟩,by simp;omega⟩;rw [lp];simp only [Rl,Rg,Ta];exact ⟨Dl,fun e=>he e.symm⟩
 ·rename_i an
  have:ks.take n=ks:=RJ (by omega);rw [this] at Dl;simpa [Dl] using h
end
theorem bH {p:Prop} [Decidable p] {X Y:Prop} (h1:p->X) (h2:¬ p->Y):if p then X else Y:=by
 split
 ·exact h1 ‹_›
 ·exact h2 ‹_›
section
variable {H:ae}{b:Nat}{F F':aB}{r:RH}{a:Option Addr}{l c:Nat}{Q:QT}
theorem pq {G:ae}{xb:Nat}{r1:RH}{lw en bo n2 n3 n4:Int} (hx:bW G xb #[ac lw,ac n4,ac en,ac bo,ac n2,.slice none 0 0]) (hR:de G b F r1) (EG:xb∉F) (Fo:0<=n3) (E7:n3<=8192)
  (hw:WFH { r1 with born:=IntKind.wrap .i64 (r1.born+1),objs:=r1.objs++[⟨lw,n4,en,bo,n2,List.replicate n3.toNat (if n4=1 then 0 else 4)⟩] })
  (h:∀ H' F',de H' b F' { r1 with born:=IntKind.wrap .i64 (r1.born+1),objs:=r1.objs++[⟨lw,n4,en,bo,n2,List.replicate n3.toNat (if n4=1 then 0 else 4)⟩] }->Fr (xb :: F) G H'->(∀ x∈F',x∈F∨G.size<=x)->Q (.tuple #[ac lw,ac 0]) H') :
  ∃(I33:List Value->ae->Prop) (μ33:List Value->ae->Nat),I33 [ac 0] G∧∀ w34 H7,I33 w34 H7->∀ _g:Nat->Value,∃ n35:Int,w34=[ac n35]∧cond (decide (n35<n3)) (cond (n4 == 1) (∃ a36:Option Addr,∃ l36:Nat,∃ c36:Nat,aj H7 ((⟨xb,0,none⟩:Addr).add 5)=some (.slice a36 l36 c36)∧cc PP (Builtin.append_ #[44,44] 44 #[.slice a36 l36 c36,.slice (some (⟨H7.size,0,none⟩:Addr)) 1 1]) (fun v37 H8=>∃ a38:Option Addr,∃ l38:Nat,∃ c38:Nat,v37=.slice a38 l38 c38∧Wr H8 ((⟨xb,0,none⟩:Addr).add 5)∧I33 [ac (IntKind.wrap .i64 (n35+1))] (bc H8 ((⟨xb,0,none⟩:Addr).add 5) (.slice a38 l38 c38))∧μ33 [ac (IntKind.wrap .i64 (n35+1))] (bc H8 ((⟨xb,0,none⟩:Addr).add 5) (.slice a38 l38 c38))<μ33 w34 H7) (H7.push (.cells #[ac 0] 31))) (∃ a39:Option Addr,∃ l39:Nat,∃ c39:Nat,aj H7 ((⟨xb,0,none⟩:Addr).add 5)=some (.slice a39 l39 c39)∧cc PP (Builtin.append_ #[44,44] 44 #[.slice a39 l39 c39,.slice (some (⟨H7.size,0,none⟩:Addr)) 1 1]) (fun v40 H9=>∃ a41:Option Addr,∃ l41:Nat,∃ c41:Nat,v40=.slice a41 l41 c41∧Wr H9 ((⟨xb,0,none⟩:Addr).add 5)∧I33 [ac (IntKind.wrap .i64 (n35+1))] (bc H9 ((⟨xb,0,none⟩:Addr).add 5) (.slice a41 l41 c41))∧μ33 [ac (IntKind.wrap .i64 (n35+1))] (bc H9 ((⟨xb,0,none⟩:Addr).add 5) (.slice a41 l41 c41))<μ33 w34 H7) (H7.push (.cells #[ac 4] 31)))) (∃ q42,(some (⟨b,0,none⟩:Addr))=some q42∧∃ n43:Int,aj H7 (q42.add 3)=some (ac n43)∧∃ q44,(some (⟨b,0,none⟩:Addr))=some q44∧Wr H7 (q44.add 3)∧∃ q45,(some (⟨b,0,none⟩:Addr))=some q45∧∃ a46:Option Addr,∃ l46:Nat,∃ c46:Nat,aj (bc H7 (q44.add 3) (ac (IntKind.wrap .i64 (n43+1)))) (q45.add 5)=some (.slice a46 l46 c46)∧∃ n47:Int,aj (bc H7 (q44.add 3) (ac (IntKind.wrap .i64 (n43+1)))) (⟨xb,0,none⟩:Addr)=some (ac n47)∧∃ n48:Int,aj (bc H7 (q44.add 3) (ac (IntKind.wrap .i64 (n43+1)))) ((⟨xb,0,none⟩:Addr).add 1)=some (ac n48)∧∃ n49:Int,aj (bc H7 (q44.add 3) (ac (IntKind.wrap .i64 (n43+1)))) ((⟨xb,0,none⟩:Addr).add 2)=some (ac n49)∧∃ n50:Int,aj (bc H7 (q44.add 3) (ac (IntKind.wrap .i64 (n43+1)))) ((⟨xb,0,none⟩:Addr).add 3)=some (ac n50)∧∃ n51:Int,aj (bc H7 (q44.add 3) (ac (IntKind.wrap .i64 (n43+1)))) ((⟨xb,0,none⟩:Addr).add 4)=some (ac n51)∧∃ a52:Option Addr,∃ l52:Nat,∃ c52:Nat,aj (bc H7 (q44.add 3) (ac (IntKind.wrap .i64 (n43+1)))) ((⟨xb,0,none⟩:Addr).add 5)=some (.slice a52 l52 c52)∧((aj ((bc H7 (q44.add 3) (ac (IntKind.wrap .i64 (n43+1)))).push (.cells #[ac n47,ac n48,ac n49,ac n50,ac n51,.slice a52 l52 c52] 113)) (q45.add 5)=some (.slice a46 l46 c46)∧True)∧True)∧cc PP (Builtin.append_ #[114,114] 114 #[.slice a46 l46 c46,.slice (some (⟨(bc H7 (q44.add 3) (ac (IntKind.wrap .i64 (n43+1)))).size,0,none⟩:Addr)) 1 1]) (fun v53 H10=>∃ a54:Option Addr,∃ l54:Nat,∃ c54:Nat,v53=.slice a54 l54 c54∧True∧∃ q55,(some (⟨b,0,none⟩:Addr))=some q55∧Wr H10 (q55.add 5)∧True∧∃ n56:Int,aj (bc H10 (q55.add 5) (.slice a54 l54 c54)) (⟨xb,0,none⟩:Addr)=some (ac n56)∧Q (.tuple #[ac n56,ac 0]) (bc H10 (q55.add 5) (.slice a54 l54 c54))) ((bc H7 (q44.add 3) (ac (IntKind.wrap .i64 (n43+1)))).push (.cells #[ac n47,ac n48,ac n49,ac n50,ac n51,.slice a52 l52 c52] 113))):=by
 have Jb:=hx.lt;have OA:=hR.lt;have hU:aY PP 44=some (1,8,some (ac 0)):=by kernel_rfl
 have M0:aY PP 114=some (6,64,some (.agg #[ac 0,ac 0,ac 0,ac 0,ac 0,.slice none 0 0])):=by kernel_rfl
 refine ⟨fun w H'=>∃ i:Int,w=[ac i]∧0<=i∧i<=n3∧∃ sa sl sc Gs,bW H' xb #[ac lw,ac n4,ac en,ac bo,ac n2,.slice sa sl sc]∧bZ 1 H' sa sl sc (au (List.replicate i.toNat (if n4=1 then 0 else 4))) Gs∧(∀ x∈Gs,G.size<=x)∧Fr [xb] G H',fun w _=>match w with
  | [.int _ i]=>(n3-i).toNat
  | _=>0,⟨0,rfl,Sc _,Fo,_,_,_,_,hx,bZ.nil 1 G,by simp,Fr.refl _ _⟩,?_⟩
 rintro w H1 ⟨i,rfl,Fa,IJ,sa,sl,sc,Gs,D6,M8,Iu,cp⟩ _;refine ⟨i,rfl,?_⟩;have CY:aj H1 ⟨xb,5,none⟩=some (.slice sa sl sc):=D6.cell 5;have M9:=M8.len;simp only [au,RZ,SF,Rn] at M9;simp only [af,bq];refine bH (fun hi=>?_) fun hi=>?_
 ·have HT:∀ v:Int,List.replicate (i+1).toNat v=List.replicate i.toNat v++[v]:=fun v=>by
   rw [show (i+1).toNat=i.toNat+1 by omega,Tv]
  have go:∀ (v:Int) (K:Value->ae->Prop),v=(if n4=1 then 0 else 4)->(∀ (a':Option Addr) (c':Nat) (H3:ae),Wr H3 ⟨xb,5,none⟩->(∃ j:Int,[Value.int .i64 (i+1)]=[ac j]∧0<=j∧j<=n3∧∃ ta tl tc Gt,bW (bc H3 ⟨xb,5,none⟩ (.slice a' (sl+1) c')) xb #[ac lw,ac n4,ac en,ac bo,ac n2,.slice ta tl tc]∧bZ 1 (bc H3 ⟨xb,5,none⟩ (.slice a' (sl+1) c')) ta tl tc (au (List.replicate j.toNat (if n4=1 then 0 else 4))) Gt∧(∀ x∈Gt,G.size<=x)∧Fr [xb] G (bc H3 ⟨xb,5,none⟩ (.slice a' (sl+1) c')))->K (.slice a' (sl+1) c') H3) ->
    cc PP (Builtin.append_ #[44,44] 44 #[.slice sa sl sc,.slice (some ⟨H1.size,0,none⟩) 1 1]) K (H1.push (.cells #[ac v] 31)):=by
   intro v K hv hK;refine bD hU rfl (by kernel_rfl) M8 rfl (by simp [dw]) (by omega) (by decide) (by decide) fun a' c' G' H3 h1 h2 h3=>?_;have OB:xb∉Gs:=fun hm=>absurd (Iu _ hm) (by omega);have GS:bW H3 xb #[ac lw,ac n4,ac en,ac bo,ac n2,.slice sa sl sc]:=D6.of_eq (h2.1.2 _ D6.lt OB);have Na:xb∉G':=fun hm=>by
    rcases h2.2 _ hm with h4 | h4
    ·exact OB h4
    ·have:=D6.lt;omega
   have J7:Fr [xb] G H3:=by
    refine ⟨Rr cp.1 h2.1.1,fun x De hn=>?_⟩;rw [h2.1.2 x (RC De cp.1) fun hm=>absurd (Iu _ hm) (by omega),cp.2 x De hn]
   refine hK a' c' H3 (GS.wr (by simp)) ⟨i+1,rfl,by omega,by omega,a',sl+1,c',G',GS.set 5 (.slice a' (sl+1) c'),?_,fun x De=>?_,J7.step (by simp)⟩
   ·have h5:bZ 1 (bc H3 ⟨xb,5,none⟩ (.slice a' (sl+1) c')) a' (sl+1) c' (au (List.replicate i.toNat (if n4=1 then 0 else 4))++[ac v]) G':=h1.keep fun x De=>cV (fun e=>Na (by have e':x=xb:=e;rw [←e'];exact De));rw [HT,←hv];rw [←hv] at h5;simpa [au] using h5
   ·rcases h2.2 x De with h4 | h4
    ·exact Iu x h4
    ·exact Rr cp.1 h4
  have e1:IntKind.wrap .i64 (i+1)=i+1:=ai (by omega) (by omega);rw [e1];refine bH (fun hf=>?_) fun hf=>?_
  ·refine ⟨_,_,_,CY,go 0 _ (by rw [Rj hf]) fun a' c' H3 J6 hI=>⟨_,_,_,rfl,J6,hI,by simp;omega⟩⟩
  ·refine ⟨_,_,_,CY,go 4 _ (by rw [Re hf]) fun a' c' H3 J6 hI=>⟨_,_,_,rfl,J6,hI,by simp;omega⟩⟩
 ·have Fv:i=n3:=by omega
  subst Fv;have q7:=hR.fr cp (fun x De hn=>EG (by simp only [Rg] at hn;rw [←hn];exact De));obtain ⟨a,l,c,F',rfl,DD,hB,hL,CW⟩:=q7;have EJ:aj H1 ⟨b,3,none⟩=some (ac r1.born):=hB.cell 3;refine ⟨_,rfl,_,EJ,_,rfl,hB.wr (by simp),?_⟩;have An:=hB.set 3 (ac (IntKind.wrap .i64 (r1.born+1)));have JS:xb≠b:=fun e=>EG (by simp [e]);have s7:=D6.set_ne (a:=⟨b,3,none⟩) JS (ac (IntKind.wrap .i64 (r1.born+1)));have w7:Fr [b] H1 (bc H1 ⟨b,3,none⟩ (ac (IntKind.wrap .i64 (r1.born+1)))):=Fr.set (by simp);simp only [ak,Rm];generalize OC:bc H1 ⟨b,3,none⟩ (ac (IntKind.wrap .i64 (r1.born+1)))=H2 at *;have Nb:∀ x∈F',x<G.size:=fun x De=>OA x (by simp [De]);have JQ:b<G.size:=OA b (by simp);have Nc:=hL.fr eB.frR eB.ltR w7 (fun x De hn=>DD (by simp only [Rg] at hn;rw [←hn];exact De));have Nd:=M8.fr w7 (fun x De hn=>absurd (Iu x De) (by simp only [Rg] at hn;omega));have hc5b:aj H2 ⟨b,5,none⟩=some (.slice a l c):=An.cell 5;have Nf:∀ o,aj (H2.push o) ⟨b,5,none⟩=some (.slice a l c):=fun o=>(dc An.lt).trans hc5b;refine ⟨_,rfl,_,_,_,hc5b,_,s7.cell 0,_,s7.cell 1,_,s7.cell 2,_,s7.cell 3,_,s7.cell 4,_,_,_,s7.cell 5,⟨⟨Nf _,trivial⟩,trivial⟩,?_⟩;have Dr:=Nc.len;have Ml:l<274877906944:=by
   have h1:=ee CW.objs;have h2:=bX CW.objs CW.w0;have h3:=CW.w1;omega
  refine fH.snoc (x:=⟨lw,n4,en,bo,n2,List.replicate i.toNat (if n4=1 then 0 else 4)⟩) (G:=Gs) eB.frR eB.ltR M0 rfl (by kernel_rfl) Nc ⟨_,_,_,rfl,Nd⟩ rfl (fun x De hg=>absurd (Nb x De) (by have:=Iu x hg;omega)) (by simp [dw]) Ml (by decide) (by decide) fun a' c' F3 H3 h1 h2 h3=>?_;have Ea:=An.of_eq (h2.2 b An.lt DD);have GS:=s7.of_eq (h2.2 xb s7.lt fun hm=>EG (by simp [hm]));have J8:b∉F3:=fun hm=>by
   rcases h3 b hm with h4 | h4 | h4
   ·exact DD h4
   ·have:=Iu b h4;omega
   ·have:=An.lt;omega
  have Ng:aj (bc H3 ⟨b,5,none⟩ (.slice a' (l+1) c')) ⟨xb,0,none⟩=some (ac lw):=(GS.set_ne (a:=⟨b,5,none⟩) JS (.slice a' (l+1) c')).cell 0;refine ⟨_,_,_,rfl,trivial,_,rfl,Ea.wr (by simp),trivial,_,Ng,h _ (b :: F3) ⟨a',l+1,c',F3,rfl,J8,Ea.set 5 (.slice a' (l+1) c'),h1.keep eB.frR fun x De=>cV (fun e=>J8 (by have e':x=b:=e;rw [←e'];exact De)),hw⟩ ?_ fun x De=>?_⟩
  ·refine Fr.step ?_ (by simp);exact (cp.mono (by simp)).trans ((w7.mono (by simp)).trans (h2.mono fun x De=>by simp [De]))
  ·rcases Rk.1 De with rfl | De
   ·exact .inl (by simp)
   ·rcases h3 x De with h4 | h4 | h4
    ·exact .inl (by simp [h4])
    ·exact .inr (Iu x h4)
    ·exact .inr (Rr (Rr cp.1 w7.1) h4)
theorem jo {G:ae}{xb:Nat}{r1:RH}{lw en bo n2 n3 n4:Int} (hx:bW G xb #[ac 0,ac 0,ac 0,ac 0,ac 0,.slice none 0 0]) (hR:de G b F r1) (EG:xb∉F) (Fo:0<=n3) (E7:n3<=8192)
  (hw:WFH { r1 with born:=IntKind.wrap .i64 (r1.born+1),objs:=r1.objs++[⟨lw,n4,en,bo,n2,List.replicate n3.toNat (if n4=1 then 0 else 4)⟩] })
  (h:∀ H' F',de H' b F' { r1 with born:=IntKind.wrap .i64 (r1.born+1),objs:=r1.objs++[⟨lw,n4,en,bo,n2,List.replicate n3.toNat (if n4=1 then 0 else 4)⟩] }->Fr (xb :: F) G H'->(∀ x∈F',x∈F∨G.size<=x)->Q (.tuple #[ac lw,ac 0]) H') :
  Wr G (⟨xb,0,none⟩:Addr)∧Wr (bc G (⟨xb,0,none⟩:Addr) (ac lw)) ((⟨xb,0,none⟩:Addr).add 1)∧Wr (bc (bc G (⟨xb,0,none⟩:Addr) (ac lw)) ((⟨xb,0,none⟩:Addr).add 1) (ac n4)) ((⟨xb,0,none⟩:Addr).add 2)∧Wr (bc (bc (bc G (⟨xb,0,none⟩:Addr) (ac lw)) ((⟨xb,0,none⟩:Addr).add 1) (ac n4)) ((⟨xb,0,none⟩:Addr).add 2) (ac en)) ((⟨xb,0,none⟩:Addr).add 3)∧Wr (bc (bc (bc (bc G (⟨xb,0,none⟩:Addr) (ac lw)) ((⟨xb,0,none⟩:Addr).add 1) (ac n4)) ((⟨xb,0,none⟩:Addr).add 2) (ac en)) ((⟨xb,0,none⟩:Addr).add 3) (ac bo)) ((⟨xb,0,none⟩:Addr).add 4)∧Wr (bc (bc (bc (bc (bc G (⟨xb,0,none⟩:Addr) (ac lw)) ((⟨xb,0,none⟩:Addr).add 1) (ac n4)) ((⟨xb,0,none⟩:Addr).add 2) (ac en)) ((⟨xb,0,none⟩:Addr).add 3) (ac bo)) ((⟨xb,0,none⟩:Addr).add 4) (ac n2)) ((⟨xb,0,none⟩:Addr).add 5)∧True∧∃(I33:List Value->ae->Prop) (μ33:List Value->ae->Nat),I33 [ac 0] (bc (bc (bc (bc (bc (bc G (⟨xb,0,none⟩:Addr) (ac lw)) ((⟨xb,0,none⟩:Addr).add 1) (ac n4)) ((⟨xb,0,none⟩:Addr).add 2) (ac en)) ((⟨xb,0,none⟩:Addr).add 3) (ac bo)) ((⟨xb,0,none⟩:Addr).add 4) (ac n2)) ((⟨xb,0,none⟩:Addr).add 5) (.slice none 0 0))∧∀ w34 H7,I33 w34 H7->∀ _g:Nat->Value,∃ n35:Int,w34=[ac n35]∧cond (decide (n35<n3)) (cond (n4 == 1) (∃ a36:Option Addr,∃ l36:Nat,∃ c36:Nat,aj H7 ((⟨xb,0,none⟩:Addr).add 5)=some (.slice a36 l36 c36)∧cc PP (Builtin.append_ #[44,44] 44 #[.slice a36 l36 c36,.slice (some (⟨H7.size,0,none⟩:Addr)) 1 1]) (fun v37 H8=>∃ a38:Option Addr,∃ l38:Nat,∃ c38:Nat,v37=.slice a38 l38 c38∧Wr H8 ((⟨xb,0,none⟩:Addr).add 5)∧I33 [ac (IntKind.wrap .i64 (n35+1))] (bc H8 ((⟨xb,0,none⟩:Addr).add 5) (.slice a38 l38 c38))∧μ33 [ac (IntKind.wrap .i64 (n35+1))] (bc H8 ((⟨xb,0,none⟩:Addr).add 5) (.slice a38 l38 c38))<μ33 w34 H7) (H7.push (.cells #[ac 0] 31))) (∃ a39:Option Addr,∃ l39:Nat,∃ c39:Nat,aj H7 ((⟨xb,0,none⟩:Addr).add 5)=some (.slice a39 l39 c39)∧cc PP (Builtin.append_ #[44,44] 44 #[.slice a39 l39 c39,.slice (some (⟨H7.size,0,none⟩:Addr)) 1 1]) (fun v40 H9=>∃ a41:Option Addr,∃ l41:Nat,∃ c41:Nat,v40=.slice a41 l41 c41∧Wr H9 ((⟨xb,0,none⟩:Addr).add 5)∧I33 [ac (IntKind.wrap .i64 (n35+1))] (bc H9 ((⟨xb,0,none⟩:Addr).add 5) (.slice a41 l41 c41))∧μ33 [ac (IntKind.wrap .i64 (n35+1))] (bc H9 ((⟨xb,0,none⟩:Addr).add 5) (.slice a41 l41 c41))<μ33 w34 H7) (H7.push (.cells #[ac 4] 31)))) (∃ q42,(some (⟨b,0,none⟩:Addr))=some q42∧∃ n43:Int,aj H7 (q42.add 3)=some (ac n43)∧∃ q44,(some (⟨b,0,none⟩:Addr))=some q44∧Wr H7 (q44.add 3)∧∃ q45,(some (⟨b,0,none⟩:Addr))=some q45∧∃ a46:Option Addr,∃ l46:Nat,∃ c46:Nat,aj (bc H7 (q44.add 3) (ac (IntKind.wrap .i64 (n43+1)))) (q45.add 5)=some (.slice a46 l46 c46)∧∃ n47:Int,aj (bc H7 (q44.add 3) (ac (IntKind.wrap .i64 (n43+1)))) (⟨xb,0,none⟩:Addr)=some (ac n47)∧∃ n48:Int,aj (bc H7 (q44.add 3) (ac (IntKind.wrap .i64 (n43+1)))) ((⟨xb,0,none⟩:Addr).add 1)=some (ac n48)∧∃ n49:Int,aj (bc H7 (q44.add 3) (ac (IntKind.wrap .i64 (n43+1)))) ((⟨xb,0,none⟩:Addr).add 2)=some (ac n49)∧∃ n50:Int,aj (bc H7 (q44.add 3) (ac (IntKind.wrap .i64 (n43+1)))) ((⟨xb,0,none⟩:Addr).add 3)=some (ac n50)∧∃ n51:Int,aj (bc H7 (q44.add 3) (ac (IntKind.wrap .i64 (n43+1)))) ((⟨xb,0,none⟩:Addr).add 4)=some (ac n51)∧∃ a52:Option Addr,∃ l52:Nat,∃ c52:Nat,aj (bc H7 (q44.add 3) (ac (IntKind.wrap .i64 (n43+1)))) ((⟨xb,0,none⟩:Addr).add 5)=some (.slice a52 l52 c52)∧((aj ((bc H7 (q44.add 3) (ac (IntKind.wrap .i64 (n43+1)))).push (.cells #[ac n47,ac n48,ac n49,ac n50,ac n51,.slice a52 l52 c52] 113)) (q45.add 5)=some (.slice a46 l46 c46)∧True)∧True)∧cc PP (Builtin.append_ #[114,114] 114 #[.slice a46 l46 c46,.slice (some (⟨(bc H7 (q44.add 3) (ac (IntKind.wrap .i64 (n43+1)))).size,0,none⟩:Addr)) 1 1]) (fun v53 H10=>∃ a54:Option Addr,∃ l54:Nat,∃ c54:Nat,v53=.slice a54 l54 c54∧True∧∃ q55,(some (⟨b,0,none⟩:Addr))=some q55∧Wr H10 (q55.add 5)∧True∧∃ n56:Int,aj (bc H10 (q55.add 5) (.slice a54 l54 c54)) (⟨xb,0,none⟩:Addr)=some (ac n56)∧Q (.tuple #[ac n56,ac 0]) (bc H10 (q55.add 5) (.slice a54 l54 c54))) ((bc H7 (q44.add 3) (ac (IntKind.wrap .i64 (n43+1)))).push (.cells #[ac n47,ac n48,ac n49,ac n50,ac n51,.slice a52 l52 c52] 113))):=by
 have D6:=hx.set 0 (ac lw);have s7:=D6.set 1 (ac n4);have GS:=s7.set 2 (ac en);have OD:=GS.set 3 (ac bo);have OE:=OD.set 4 (ac n2);have P1:=OE.set 5 (.slice none 0 0);have J9:Fr [xb] G (bc (bc (bc (bc (bc (bc G ⟨xb,0,none⟩ (ac lw)) ⟨xb,1,none⟩ (ac n4)) ⟨xb,2,none⟩ (ac en)) ⟨xb,3,none⟩ (ac bo)) ⟨xb,4,none⟩ (ac n2)) ⟨xb,5,none⟩ (.slice none 0 0)) :=
  ((((((Fr.refl _ _).step (by simp)).step (by simp)).step (by simp)).step (by simp)).step (by simp)).step (by simp)
 simp only [ak,Rm];refine ⟨hx.wr (by simp),D6.wr (by simp),s7.wr (by simp),GS.wr (by simp),OD.wr (by simp),OE.wr (by simp),trivial,?_⟩;have ht:=pq (Q:=Q) P1 (hR.fr J9 (fun x hx hn=>EG (by simp only [Rg] at hn;rw [←hn];exact hx))) EG Fo E7 hw (fun H' F' h1 h2 h3=>h H' F' h1 ((J9.mono (by simp)).trans h2) fun x hx=>(h3 x hx).imp id fun h4=>by simpa only [d6] using h4);simp only [ak,Rm] at ht;exact ht
theorem lD (hR:de H b F r){cls n f:Int} (h:∀ H' F',de H' b F' (r.alloc cls n f).2->Up F H F' H'->Q (two (r.alloc cls n f).1) H'):ag PP 34 #[Cv b,ac cls,ac n,ac f] Q H:=by
 have p4:=hR;obtain ⟨a,l,c,F',rfl,IX,hB,hL,hw⟩:=hR;have Dr:=hL.len;have CO:aj H ⟨b,0,none⟩=some (ac r.words):=hB.cell 0;have l9:aj H ⟨b,1,none⟩=some (ac r.oops):=hB.cell 1;have CY:aj H ⟨b,5,none⟩=some (.slice a l c):=hB.cell 5;have GL:=bX hw.objs hw.w0;have CW:=hw.w1;have IN:=hw.o0;have C3:=hw.o1;have LY:=hw.m0;have DA:=hw.m1;apply zv;dsimp only [bf,ci,bk,aH,ah,bA,aZ,aM,aO,ac,sx,ce,ax,bt,ao,ch,am,bg,bE,az,bi,aI];simp only [af,bq,bw,Rf,Rh];refine fg ⟨_,rfl,?_⟩;unfold RH.alloc at h;have h0:=h;by_cases r0:d8 cls
 ·have P2:¬ bT cls=0:=r0;rw [Re P2];refine bH (fun g1=>?_) fun g1=>?_
  ·simp only [r0,not_true_eq_false,false_or] at h;rw [Rj (by omega)] at h;exact h H _ p4 (Up.refl _ _)
  refine bH (fun g2=>?_) fun g2=>?_
  ·simp only [r0,not_true_eq_false,false_or] at h;rw [Rj (by omega)] at h;exact h H _ p4 (Up.refl _ _)
  refine bH (fun g3=>?_) fun g3=>?_
  ·simp only [r0,not_true_eq_false,false_or] at h;rw [Rj (by omega)] at h;exact h H _ p4 (Up.refl _ _)
  have n1:¬ (¬ d8 cls∨f<0∨1<f∨n<0):=fun hh=>hh.elim (fun hh=>hh r0) (by omega);rw [Re n1] at h;refine bH (fun g4=>?_) fun g4=>?_
  ·rw [Rj (by omega)] at h;exact h H _ p4 (Up.refl _ _)
  rw [Re (by omega)] at h;have hl:=jE (n:=n) (fmt:=f) (by omega);have DI:=gu (n:=n) (fmt:=f) (by omega);refine ⟨_,rfl,_,_,_,CY,_,rfl,_,l9,?_⟩;refine bH (fun g5=>?_) fun g5=>?_
  ·rw [Rj (.inl (by omega))] at h;exact h H _ p4 (Up.refl _ _)
  refine ⟨_,rfl,_,CO,?_⟩;refine lT p4 fun H1 cp=>?_;have q7:=p4.fr cp (bL.nil_right _);have tw:=hB.fr cp (by simp);have Ka:aj H1 ⟨b,0,none⟩=some (ac r.words):=tw.cell 0;have Iv:aj H1 ⟨b,2,none⟩=some (ac r.mark):=tw.cell 2;refine ⟨_,rfl,⟨⟨Ka,trivial⟩,trivial⟩,?_⟩;have Eo:Up (b :: F') H (b :: F') H1:=⟨cp.of_nil,fun _ hb=>.inl hb⟩;refine ko (by omega) (by omega) ?_;refine ⟨_,rfl,⟨⟨Ka,trivial⟩,trivial⟩,?_⟩;have e1:IntKind.wrap .i64 (bv r.objs+lenOf n f)=bv r.objs+lenOf n f:=ai (by omega) (by omega);rw [e1];refine bH (fun g6=>?_) fun g6=>?_
  ·rw [Rj (.inr (by omega))] at h;exact h H1 _ q7 Eo
  rw [Re (by omega)] at h;refine ⟨_,rfl,_,Iv,?_⟩;refine bH (fun hm=>?_) fun hm=>?_
  ·rw [Rj hm] at h;refine ⟨_,rfl,tw.wr (by simp),h _ _ ⟨a,l,c,F',rfl,IX,tw.set 2 (ac 0),(hL.fr eB.frR eB.ltR cp (bL.nil_right _)).keep eB.frR fun x hx=>cV (fun e=>IX (by have e':x=b:=e;rw [←e'];exact hx)),{ hw with m0:=by simp,m1:=by simp }⟩ (Eo.trans ⟨Fr.set (by simp),fun _ hb=>.inl hb⟩)⟩
  rw [Re hm] at h;refine ⟨fun w H'=>w=[]∧de H' b (b :: F') { r with mark:=if 0<r.mark then r.mark-1 else r.mark }∧Up (b :: F') H (b :: F') H',?_,?_⟩
  ·refine ⟨_,rfl,_,Iv,?_⟩;refine bH (fun Gi=>?_) fun Gi=>?_
   ·refine ⟨_,rfl,_,Iv,_,rfl,?_⟩;rw [ai (n:=r.mark-1) (by omega) (by omega)];refine ⟨tw.wr (by simp),rfl,⟨a,l,c,F',rfl,IX,?_,(hL.fr eB.frR eB.ltR cp (bL.nil_right _)).keep eB.frR fun x hx=>cV (fun e=>IX (by have e':x=b:=e;rw [←e'];exact hx)),?_⟩,Eo.trans ⟨Fr.set (by simp),fun _ hb=>.inl hb⟩⟩
    ·rw [Rj Gi];exact tw.set 2 (ac (r.mark-1))
    ·rw [Rj Gi];exact { hw with m0:=by simp;omega,m1:=by simp;omega }
   ·refine ⟨rfl,?_,Eo⟩;rw [Re Gi];exact q7
  ·rintro w H2 ⟨rfl,Dg,FH⟩ _;have an:(r.objs.length:Int)<r.oops:=by omega
   have Hb:aj H2 ⟨b,3,none⟩=some (ac r.born):=by
    obtain ⟨a',l',c',F'',_,_,FJ,_⟩:=Dg;exact FJ.cell 3
   have En:r.alloc cls n f=((bR r.objs,0),{ r with mark:=if 0<r.mark then r.mark-1 else r.mark,born:=IntKind.wrap .i64 (r.born+1),objs:=r.objs++[cY r cls n f] }):=by
    unfold RH.alloc;rw [Re n1,Re (by omega),Re (by omega),Re hm]
   have ll:=gD hw cls n f;rw [En] at ll;have OC:∀ x∈b :: F',x<H2.size:=Dg.lt;have fin:∀ (G H':ae) (xb:Nat) (F3:aB),Fr [] H2 G->H2.size<=xb->Fr (xb :: b :: F') G H'->de H' b F3 { r with mark:=if 0<r.mark then r.mark-1 else r.mark,born:=IntKind.wrap .i64 (r.born+1),objs:=r.objs++[cY r cls n f] }->(∀ x∈F3,x∈b :: F'∨G.size<=x)->Q (.tuple #[ac (bR r.objs),ac 0]) H':=by
    intro G H' xb F3 k1 k2 k3 k4 k5;refine h H' F3 k4 (FH.trans ⟨⟨Rr k1.1 k3.1,fun x hx hn=>?_⟩,fun x hx=>?_⟩)
    ·rw [k3.2 x (RC hx k1.1) (by simp only [Rk,Ta] at hn ⊢;exact ⟨by omega,hn⟩),k1.2 x hx (by simp)]
    ·exact (k5 x hx).imp id fun k6=>Rr k1.1 k6
   have Iw:∀ (G:ae) o,Fr [] H2 G->aj (G.push o) ⟨b,3,none⟩=some (ac r.born):=fun G o hf=>by
    obtain ⟨a',l',c',F'',P3,_,FJ,_⟩:=Dg.fr (hf.more) (bL.nil_right _);exact FJ.cell 3
   have E2:∀ (G:ae),Fr [] H2 G->aj G ⟨b,3,none⟩=some (ac r.born):=fun G hf=>by
    obtain ⟨a',l',c',F'',P3,_,FJ,_⟩:=Dg.fr hf (bL.nil_right _);exact FJ.cell 3
   have Ix:∀ xb,H2.size<=xb->xb∉b :: F':=fun xb h1 h2=>absurd (OC xb h2) (by omega);refine ⟨rfl,_,rfl,_,Hb,?_,?_⟩
   ·refine nK Dg an ⟨_,rfl,⟨⟨Hb,trivial⟩,trivial⟩,?_,?_⟩
    ·refine lT Dg fun H3 ly=>⟨_,rfl,⟨⟨E2 _ ly,trivial⟩,trivial⟩,⟨⟨Iw _ _ ly,trivial⟩,trivial⟩,?_⟩;have t:=jo (Q:=Q) (bW.new H3 _ 113) (Dg.fr ly.more (bL.nil_right _)) (Ix _ ly.1) (by omega) (by omega) ll fun H' F3 k1 k2 k3=>fin _ H' _ F3 ly.more ly.1 k2 k1 k3;simp only [af,bq,bw,Rf,Rh] at t;exact t
    ·have ly:Fr [] H2 (H2.push (.cells #[ac 0,ac 0,ac 0,ac 0,ac 0,.slice none 0 0] 113)):=Fr.push _ _ _;refine ⟨⟨⟨E2 _ ly,trivial⟩,trivial⟩,lT (Dg.fr ly (bL.nil_right _)) fun H4 p3=>⟨_,rfl,⟨⟨E2 _ (ly.trans p3),trivial⟩,trivial⟩,?_⟩⟩;have t:=jo (Q:=Q) ((bW.new H2 _ 113).fr p3 (by simp)) (Dg.fr (ly.trans p3) (bL.nil_right _)) (Ix _ (Rw _)) (by omega) (by omega) ll fun H' F3 k1 k2 k3=>fin _ H' _ F3 (ly.trans p3) (Rw _) k2 k1 k3;simp only [af,bq,bw,Rf,Rh] at t;exact t
   ·have ly:Fr [] H2 (H2.push (.cells #[ac 0,ac 0,ac 0,ac 0,ac 0,.slice none 0 0] 113)):=Fr.push _ _ _;refine ⟨⟨⟨E2 _ ly,trivial⟩,trivial⟩,nK (Dg.fr ly (bL.nil_right _)) an ⟨_,rfl,⟨⟨E2 _ ly,trivial⟩,trivial⟩,?_⟩⟩;refine lT (Dg.fr ly (bL.nil_right _)) fun H4 p3=>⟨_,rfl,⟨⟨E2 _ (ly.trans p3),trivial⟩,trivial⟩,?_⟩;have t:=jo (Q:=Q) ((bW.new H2 _ 113).fr p3 (by simp)) (Dg.fr (ly.trans p3) (bL.nil_right _)) (Ix _ (Rw _)) (by omega) (by omega) ll fun H' F3 k1 k2 k3=>fin _ H' _ F3 (ly.trans p3) (Rw _) k2 k1 k3;simp only [af,bq,bw,Rf,Rh] at t;exact t
 ·rw [Rj (by unfold d8 at r0;omega)];rw [Rj (.inl r0)] at h;exact h H _ p4 (Up.refl _ _)
theorem yU (hR:de H b F r) (h:∀ a l c G H',bZ 1 H' a l c (au r.all) G->Fr [] H H'->(∀ x∈G,H.size<=x)->Q (.slice a l c) H'):ag PP 170 #[Cv b] Q H:=by
 have hw:=hR.wf;have IN:=hw.o0;have C3:=hw.o1;have b8:=RH.all_len hw;have w9:aY PP 109=some (1,8,some (ac 0)):=by kernel_rfl
 have h0:r.upto 1=[]:=by
  rw [show (1:Nat)=0+1 by rfl,RH.upto_succ]
  have:aG r.objs ((0:Nat):Int)=none:=db.2 fun o ho=>by have:=(hw.objs.good o ho).oop1;omega
  rw [this];rfl
 apply wt;dsimp only [bf,aH,ah,aZ,aO,ac,dq,ax,bt,ao,ch,am,bg,bE,az,aI];simp only [af,Rs,Rh,Rf,Ri,aK,aC,aU,aW,aL,aX,aR,aD,aT,aS,aJ,aV,Ru,Rx,Ry,ak,Rm,Rn,av,aq,aF,Rq,Rp,bq,bw];refine ⟨fun w H'=>∃ k:Int,∃ a l c G,w=[.slice a l c,ac k]∧1<=k∧k<=r.oops+1∧bZ 1 H' a l c (au (r.upto k.toNat)) G∧Fr [] H H'∧(∀ x∈G,H.size<=x),fun w _=>match w with
  | [_,.int _ k]=>(r.oops+1-k).toNat
  | _=>0,⟨1,_,_,_,_,rfl,by omega,by omega,by rw [show (1:Int).toNat=1 by rfl,h0];exact bZ.nil 1 H,Fr.refl _ _,by simp⟩,?_⟩
 rintro w H1 ⟨k,a,l,c,G,rfl,Dw,EF,ho,hf,hG⟩ _;refine ⟨_,_,_,_,rfl,?_⟩;have q7:=hR.fr hf (bL.nil_right _);have If:=q7;obtain ⟨a',l',c',F',rfl,DD,hB,hL,_⟩:=If;have Dr:=hL.len;have CY:aj H1 ⟨b,5,none⟩=some (.slice a' l' c'):=hB.cell 5;have M9:=ho.len;simp only [au,RZ,Rn] at M9;have Mj:=r.upto_len k.toNat;simp only [af,Rs,Rh,Rf,Ri,aK,aC,aU,aW,aL,aX,aR,aD,aT,aS,aJ,aV,Ru,Rx,Ry,ak,Rm,Rn,av,aq,aF,Rq,Rp,bq,bw,CY];refine bH (fun an=>?_) fun an=>?_
 ·have Dk:k<=r.oops:=by
   refine RE fun hc=>?_;have GN:k.toNat=(r.oops+1).toNat:=by omega
   have:(r.upto k.toNat).length=r.objs.length:=by rw [GN];exact b8
   omega
  have e1:IntKind.wrap .i64 (k+1)=k+1:=ai (by omega) (by omega);have GM:=r.upto_succ k.toNat;have ek:(k.toNat:Int)=k:=So (by omega);have ek1:(k+1).toNat=k.toNat+1:=by omega
  rw [ek] at GM;refine gU q7 (fun yB=>⟨_,rfl,?_⟩) fun n hn FQ=>⟨_,rfl,?_⟩
  ·rw [Re (by decide),e1];refine ⟨⟨k+1,_,_,_,G,rfl,by omega,by omega,?_,hf,hG⟩,by simp;omega⟩;rw [ek1,GM,yB];simpa using ho
  ·rw [Rj (by omega),e1];refine bD w9 rfl (by kernel_rfl) ho rfl (by simp [dw]) (by omega) (by decide) (by decide) fun a2 c2 G2 H2 h1 h2 h3=>⟨_,_,_,rfl,?_⟩;have p5:=Up.fresh hf h2 hG;refine ⟨⟨k+1,_,_,_,G2,rfl,by omega,by omega,?_,p5.1,p5.2⟩,by simp;omega⟩;rw [ek1,GM,FQ,bJ];exact h1
 ·obtain ⟨t,ht⟩:=r.upto_prefix k.toNat (r.oops+1).toNat (by omega);have P4:t=[]:=by
   have h1:r.all=r.upto k.toNat++t:=ht;have h2:=congrArg List.length h1;rw [Rz,b8] at h2;exact RM (by omega)
  have:r.upto k.toNat=r.all:=by
   have h1:r.all=r.upto k.toNat++t:=ht;rw [h1,P4,SN]
  rw [this] at ho;exact h _ _ _ _ H1 ho hf hG
end
section
variable {H:ae}{b:Nat}{F F':aB}{r:RH}{a:Option Addr}{l c:Nat}{Q:QT}
theorem uK (hw:WFH r) (kf:RO->Bool) (j:Nat):0<=bz 0 ((r.objs.take j).filter kf)∧bz 0 ((r.objs.take j).filter kf)<=1048576:=by
 have CW:=hw.w1;have D7:WFO r.words r.oops ((r.objs.take j).filter kf):=WFO.filter ⟨fun o ho=>hw.objs.good o (Sm ho),hw.objs.pw.sublist (TL j r.objs)⟩ kf;have hs:=jN _ 0 D7 (Sc _) fun o ho=>(D7.good o ho).pl;have hb:=bX hs.1 hw.w0;rw [fL] at hb;omega
theorem wW (hR:de H b F r){a2:Option Addr}{l2 c2:Nat}{ks:List Int} (hk:Rd 1 H a2 l2 (au ks)) (C5:l2<=1099511627776)
  (h:∀ H' F',de H' b F' (r.keep ks).2->Up F H F' H'->Q (jQ (r.keep ks).1) H'):ag PP 109 #[Cv b,.slice a2 l2 c2] Q H:=by
 have p4:=hR;obtain ⟨a,l,c,F',rfl,IX,hB,hL,hw⟩:=hR;have Dr:=hL.len;have s8:=p4.lt;have DI:l2=ks.length:=by have:=hk.1;simpa [au] using this.symm
 have FG:=ee hw.objs;have GL:=bX hw.objs hw.w0;have CW:=hw.w1;have M0:aY PP 114=some (6,64,some (.agg #[ac 0,ac 0,ac 0,ac 0,ac 0,.slice none 0 0])):=by kernel_rfl
 apply vz;dsimp only [bf,ci,bK,aH,ah,aZ,aM,aO,bl,ac,bm,ce,tT,ax,bt,ao,ch,am,bg,bE,az,bi,bn,aI];simp only [af,bq,bw,Rf,Rh];refine ⟨fun w H'=>H'=H∧∃ i:Nat,w=[ac i]∧i<=l2∧∀ k∈ks.take i,aG r.objs k≠none,fun w _=>match w with
  | [.int _ i]=>(l2-i).toNat
  | _=>0,⟨rfl,0,rfl,RL _,by simp⟩,?_⟩
 rintro w H1 ⟨rfl,i,rfl,hi,be⟩ _;refine ⟨_,rfl,bH (fun an=>?_) fun an=>?_⟩
 ·obtain ⟨p,rfl,al,ap⟩:=hk.int (i:=(i:Int)) (by omega) an;rw [Ro] at al ap;have lp:ks.take (i+1)=ks.take i++[ks.getD i 0]:=by rw [RP];simp [ap]
  have e:IntKind.wrap .i64 ((i:Int)+1)=((i+1:Nat):Int):=by rw [ai (by omega) (by omega)];omega
  refine ⟨⟨by omega,an⟩,_,rfl,_,by rw [Ro,Rn];exact al,?_⟩;refine gU p4 (fun yB=>⟨_,rfl,bH (fun _=>?_) fun hc=>absurd (by decide) hc⟩) fun n hn ho=>⟨_,rfl,bH (fun hc=>absurd hc (by omega)) fun _=>?_⟩
  ·have hmem:ks.getD i 0∈ks:=by
    have:ks.getD i 0=ks[i]:=by simp [ap]
    rw [this];exact RG ap
   have GN:r.keep ks=((0,0,20),r):=by unfold RH.keep;rw [Rj ⟨_,hmem,yB⟩]
   rw [GN] at h;exact h H1 _ p4 (Up.refl _ _)
  ·rw [e];refine ⟨⟨rfl,i+1,rfl,by omega,?_⟩,by simp;omega⟩;rw [lp];intro k Er;rcases Rl.1 Er with Er | Er
   ·exact be k Er
   ·simp only [Rg] at Er;rw [Er,ho];simp
 ·have Dp:ks.take i=ks:=RJ (by omega);rw [Dp] at be;obtain ⟨kf,Ic⟩:∃ kf:RO->Bool,kf=fun o=>decide (o.oop∈ks):=⟨_,rfl⟩;have Dk:r.keepO ks=bS 0 (r.objs.filter kf):=by rw [Ic];rfl
  have GN:r.keep ks=(((r.objs.length:Int)-((r.keepO ks).length:Int),bv r.objs-bv (r.keepO ks),0),{ r with objs:=r.keepO ks,turn:=IntKind.wrap .i64 (r.turn+1) }):=by
   unfold RH.keep;rw [Re];rintro ⟨k,Dw,EF⟩;exact be k Dw EF
  have DP:=eu hw ks;rw [GN] at h DP;have CY:aj H1 ⟨b,5,none⟩=some (.slice a l c):=hB.cell 5;refine ⟨_,rfl,_,_,_,CY,?_⟩;refine lT p4 fun H2 g9=>⟨_,rfl,?_⟩;have GZ:=hL;obtain ⟨xs,Fl,Fs,Dq,EP,hdj,rfl,_⟩:=hL;refine ⟨fun w H'=>∃(j:Nat) (a1:Option Addr) (l1 c1:Nat) (ys:List Value) (F1 F2:aB) (xs1 xs2:List Value) (Fd Fr_:aB),w=[ac (bz 0 ((r.objs.take j).filter kf)),.slice a1 l1 c1,ac j]∧j<=r.objs.length∧Fr [] H1 H' ∧
    bZ 6 H' a1 l1 c1 ys F1∧SRep 6 eB H' ys (bS 0 ((r.objs.take j).filter kf)) F2∧(∀ x∈F1,H1.size<=x)∧l1=(bS 0 ((r.objs.take j).filter kf)).length ∧
    xs=xs1++xs2∧SRep 6 eB H1 xs1 (r.objs.take j) Fd∧SRep 6 eB H1 xs2 (r.objs.drop j) Fr_∧bL Fd Fr_∧(∀ x∈F2,x∈Fd)∧(∀ x∈Fd,x∈Fs)∧(∀ x∈Fr_,x∈Fs),fun w _=>match w with
   | [_,_,.int _ i]=>(r.objs.length-i).toNat
   | _=>0,⟨0,none,0,0,[],[],[],[],xs,[],Fs,by simp [bz],RL _,g9,bZ.nil 6 H2,by simpa [bS] using SRep.nil,by simp,by simp [bS],rfl,by simpa using SRep.nil,by simpa using EP,bL.nil_left _,by simp,by simp,fun x hx=>hx⟩,?_⟩
  rintro w H3 ⟨j,a1,l1,c1,ys,F1,F2,xs1,xs2,Fd,Fr_,rfl,hj,ly,C3,hU,DM,Ek,HS,Ff,Iy,IU,s4,Hy,Nh⟩ _;have Ea:=hB.fr ly (by simp);have Kb:aj H3 ⟨b,5,none⟩=some (.slice a l c):=Ea.cell 5;refine ⟨_,_,_,_,_,rfl,_,rfl,_,_,_,Kb,bH (fun an=>?_) fun an=>?_⟩
  ·have Dx:j<r.objs.length:=by omega
   have lp:r.objs.take (j+1)=r.objs.take j++[r.objs[j]]:=by rw [RP];simp [Dx]
   have Gf:r.objs.drop j=r.objs[j] :: r.objs.drop (j+1):=Sj Dx;have Fx:r.objs[j]∈r.objs:=RG Dx;rw [Gf] at Iy;generalize r.objs[j]=o at *;have Ni:=Ff.length;have hg:=hw.objs.good o Fx;have DS:=hg.many;have hopos:=o.len_pos;rcases Dq.2.2 with ⟨_,CO,_⟩ | ⟨ob,cs,rfl,rfl,Jz,C1,htc⟩
   ·have:=Dq.2.1;omega
   generalize OF:o :: r.objs.drop (j+1)=zs at Iy;cases Iy with
   | nil=>cases OF
   | @cons us xs3 o' l' G1 G2 El LH Kc Kd =>
    cases OF;obtain ⟨sa,sl,sc,rfl,Kf⟩:=El;have Gn:sl=o.slots.length:=by have:=Kf.len;simpa [au] using this.symm
    have Nj:=(Dq.fr ly (by simp)).rd;have HE:xs1.length=j*6:=by rw [Ni,R5,Nat.min_eq_left (by omega)]
    have al:∀ t,t<6->aj H3 ⟨ob,j*6+t,none⟩=[Value.int .i64 o.oop,ac o.fmt,ac o.place,ac o.born,ac o.cls,.slice sa sl sc][t]?:=by
     intro t ht
     have:=Nj.2.2 _ rfl (j*6+t) (by omega);rw [ak,Rm] at this;rw [this,HS,Te (by omega),HE,show j*6+t-j*6=t by omega,Si (by simpa using ht)]
    have CO:=al 0 (by decide);have l9:=al 1 (by decide);have p9:=al 2 (by decide);have EJ:=al 3 (by decide);have EY:=al 4 (by decide);have Kg:=al 5 (by decide);simp only [TN,RU,RT] at CO l9 p9 EJ EY Kg;simp only [ak,Rm,Ro];refine ⟨_,rfl,_,_,_,Kb,⟨by omega,an⟩,_,rfl,?_⟩;simp only [ak,Rm];refine ⟨_,CO,_,l9,_,p9,_,EJ,_,EY,_,_,_,Kg,?_⟩;simp only [av,aq,aF,ak,Rm,RR,R3,R7,RX,RF,RV,R2,RT,RU];refine ⟨by decide,by decide,by decide,by decide,by decide,by decide,_,rfl,?_⟩;have ej:IntKind.wrap .i64 ((j:Int)+1)=((j+1:Nat):Int):=by rw [ai (by omega) (by omega)];omega
    have J9:Fr [] H1 (H3.push (.cells #[ac o.oop,ac o.fmt,ac o.place,ac o.born,ac o.cls,.slice sa sl sc] 113)):=ly.more;have Ds:∀ x∈G1,x∈Fs:=fun x hx=>Nh x (by simp [hx]);have Ez:∀ x∈Fs,x<H1.size:=fun x hx=>s8 x (by simp [hx]);have GP:SRep 6 eB H1 (xs1++[ac o.oop,ac o.fmt,ac o.place,ac o.born,ac o.cls,.slice sa sl sc]) (r.objs.take (j+1)) (Fd++G1):=by
     rw [lp];exact Ff.append (SRep.one ⟨sa,sl,sc,rfl,Kf⟩ rfl) (IU.mono (fun _ h=>h) fun x hx=>by simp [hx])
    refine AI (hk.fr' J9 (by simp)) C5 ⟨_,rfl,?_⟩;by_cases hm:o.oop∈ks
    ·have l0:kf o=true:=by rw [Ic];simpa using hm
     have D9:(r.objs.take (j+1)).filter kf=(r.objs.take j).filter kf++[o]:=by rw [lp,SR];simp [l0]
     simp only [hm,decide_true,Rs,av,aq,aF,ak,Rm,RR,R3,R7,RX,RF,RV,R2,RT,RU];refine ⟨by decide,_,_,_,rfl,_,rfl,?_⟩;refine ko (by omega) (by omega) ⟨_,rfl,?_⟩;simp only [aq,ak,Rm,RR,R3,R7,RX,RF,RV,R2,RT,RU];refine ⟨_,rfl,_,rfl,_,rfl,_,rfl,_,rfl,_,_,_,rfl,?_⟩;have Lf:bz 0 ((r.objs.take j).filter kf)<=1048576∧0<=bz 0 ((r.objs.take j).filter kf):=by
      have lc:=uK hw kf j;omega
     have FQ:o.len=lenOf o.slots.length o.fmt:=rfl;have Df:=hg.fits;have GC:=hg.pl;have e2:IntKind.wrap .i64 (bz 0 ((r.objs.take j).filter kf)+lenOf ((sl:Nat):Int) o.fmt)=bz 0 ((r.objs.take (j+1)).filter kf):=by
      rw [D9,eO,FQ,Gn];exact ai (by omega) (by omega)
     rw [e2,ej];have OG:Fr [] H1 (H3.push (.cells #[ac o.oop,ac o.fmt,ac (bz 0 ((r.objs.take j).filter kf)),ac o.born,ac o.cls,.slice sa sl sc] 113)):=ly.more;have hfz:Fr [] H3 (H3.push (.cells #[ac o.oop,ac o.fmt,ac (bz 0 ((r.objs.take j).filter kf)),ac o.born,ac o.cls,.slice sa sl sc] 113)):=Fr.push _ _ _;have Fz:(bS 0 ((r.objs.take j).filter kf)).length<=r.objs.length:=by
      rw [iM];have h1:=Ss kf (r.objs.take j);rw [R5] at h1;omega
     refine bD M0 rfl (by kernel_rfl) (C3.fr hfz (by simp)) rfl (by simp [dw]) (by omega) (by decide) (by decide) fun a3 c3 F3 H4 h1 h2 h3=>⟨_,_,_,rfl,?_⟩;have p5:=Up.fresh OG h2 DM;refine ⟨⟨j+1,a3,l1+1,c3,_,F3,F2++G1,_,xs3,Fd++G1,G2,rfl,by omega,p5.1,h1,?_,p5.2,?_,?_,GP,Kc,?_,?_,?_,?_⟩,by simp;omega⟩
     ·rw [D9,dl];have Ej:∀ x,x<H1.size->x∉F1->H4[x]?=H3[x]?:=fun x hx hn=>by
       rw [h2.1.2 x (RC hx OG.1) hn,hfz.2 x (RC hx ly.1) (by simp)]
      have OH:∀ x∈Fs,x∉F1:=fun x hx hn=>absurd (DM x hn) (by have:=Ez x hx;omega);have C6:SRep 6 eB H4 [ac o.oop,ac o.fmt,ac (bz 0 ((r.objs.take j).filter kf)),ac o.born,ac o.cls,.slice sa sl sc] [{ o with place:=bz 0 ((r.objs.take j).filter kf) }] G1 :=
       SRep.one ⟨sa,sl,sc,rfl,Kf.keep fun x hx=>by rw [Ej x (Ez x (Ds x hx)) (OH x (Ds x hx)),ly.2 x (Ez x (Ds x hx)) (by simp)]⟩ rfl
      refine (hU.keep eB.frR fun x hx=>Ej x (Ez x (Hy x (s4 x hx))) (OH x (Hy x (s4 x hx)))).append C6 ?_
      ·exact fun x hx Gy=>IU x (s4 x hx) (by simp [Gy])
     ·rw [D9,dl,Rz,←Ek];rfl
     ·rw [HS];simp
     ·exact fun x hx Gy=>by
       rcases Rl.1 hx with h4 | h4
       ·exact IU x h4 (by simp [Gy])
       ·exact Kd x h4 Gy
     ·exact fun x hx=>by
       rcases Rl.1 hx with h4 | h4
       ·simp [s4 x h4]
       ·simp [h4]
     ·exact fun x hx=>by
       rcases Rl.1 hx with h4 | h4
       ·exact Hy x h4
       ·exact Ds x h4
     ·exact fun x hx=>Nh x (by simp [hx])
    ·have l0:kf o=false:=by rw [Ic];simpa using hm
     have D9:(r.objs.take (j+1)).filter kf=(r.objs.take j).filter kf:=by rw [lp,SR];simp [l0]
     simp only [hm,decide_false,Rh];rw [ej];have hfz:Fr [] H3 (H3.push (.cells #[ac o.oop,ac o.fmt,ac o.place,ac o.born,ac o.cls,.slice sa sl sc] 113)):=Fr.push _ _ _;refine ⟨⟨j+1,a1,l1,c1,ys,F1,F2,_,xs3,Fd++G1,G2,by rw [D9],by omega,J9,C3.fr hfz (by simp),?_,DM,by rw [D9];exact Ek,?_,GP,Kc,?_,?_,?_,?_⟩,by simp;omega⟩
     ·rw [D9];exact hU.keep eB.frR fun x hx=>hfz.2 x (RC (Ez x (Hy x (s4 x hx))) ly.1) (by simp)
     ·rw [HS];simp
     ·exact fun x hx Gy=>by
       rcases Rl.1 hx with h4 | h4
       ·exact IU x h4 (by simp [Gy])
       ·exact Kd x h4 Gy
     ·exact fun x hx=>by simp [s4 x hx]
     ·exact fun x hx=>by
       rcases Rl.1 hx with h4 | h4
       ·exact Hy x h4
       ·exact Ds x h4
     ·exact fun x hx=>Nh x (by simp [hx])
  ·have Jv:j=r.objs.length:=by omega
   subst Jv;have IQ:r.objs.take r.objs.length=r.objs:=Sl;rw [IQ] at hU Ek;rw [IQ];rw [←Dk] at hU Ek;have Mq:bz 0 (r.objs.filter kf)=bv (r.keepO ks):=by rw [Dk,fL]
   rw [Mq];have Pt:=bX (ls hw ks) hw.w0;have OI:aj (bc H3 ⟨b,5,none⟩ (.slice a1 l1 c1)) ⟨b,4,none⟩=some (ac r.turn):=(Ea.set 5 (.slice a1 l1 c1)).cell 4;refine ⟨_,rfl,Ea.wr (by simp),_,rfl,_,OI,_,rfl,(Ea.set 5 (.slice a1 l1 c1)).wr (by simp),?_⟩;simp only [ak,Rm];have DN:((r.keepO ks).length:Int)<=r.objs.length:=by
    rw [Dk,iM]
    have:=Ss kf r.objs;omega
   have e7:IntKind.wrap .i64 ((l:Int)-(l1:Int))=(r.objs.length:Int)-((r.keepO ks).length:Int):=by rw [ai (by omega) (by omega)];omega
   have e8:IntKind.wrap .i64 (bv r.objs-bv (r.keepO ks))=bv r.objs-bv (r.keepO ks):=ai (by omega) (by omega);rw [e7,e8];have s6:b<H1.size:=hB.lt;have Ez:∀ x∈Fs,x<H1.size:=fun x hx=>s8 x (by simp [hx]);have GY:b∉F1:=fun hm=>by have:=DM b hm;omega
   have Kh:b∉F2:=fun hm=>IX (by simp [Hy b (s4 b hm)]);have Dh:∀ x,x≠b->(bc (bc H3 ⟨b,5,none⟩ (.slice a1 l1 c1)) ⟨b,4,none⟩ (ac (IntKind.wrap .i64 (r.turn+1))))[x]?=H3[x]?:=fun x hx=>by rw [cV hx,cV hx]
   have P5:=(Ea.set 5 (.slice a1 l1 c1)).set 4 (ac (IntKind.wrap .i64 (r.turn+1)));refine h _ (b :: (F1++F2)) ⟨a1,l1,c1,F1++F2,rfl,by simp [GY,Kh],P5,⟨ys,F1,F2,C3.keep fun x hx=>Dh x (fun e=>GY (e ▸ hx)),hU.keep eB.frR fun x hx=>Dh x (fun e=>Kh (e ▸ hx)),fun x hx hg=>by have:=DM x hx;have:=Ez x (Hy x (s4 x hg));omega,rfl,Ek⟩,DP⟩ ⟨?_,fun x hx=>?_⟩
   ·exact (ly.of_nil.step (by simp)).step (by simp)
   ·rcases Rk.1 hx with rfl | hx
    ·exact .inl (by simp)
    ·rcases Rl.1 hx with h4 | h4
     ·exact .inr (DM x h4)
     ·exact .inl (by simp [Hy x (s4 x h4)])
end
section
variable {H:ae}{b:Nat}{F F':aB}{r:RH}{Q:QT}
theorem uD {a:Option Addr}{l c:Nat}{ks:List Int}{k:Int} (hk:Rd 1 H a l (au ks)) (hl:l<=1099511627776) (h:Q (.bool (decide (k∈ks))) H):ag PP 171 #[.slice a l c,ac k] Q H:=by
 have Dr:l=ks.length:=by have:=hk.1;simpa [au] using this.symm
 apply xu;dsimp only [bx,ah,aZ,aM,bl,ac,bm,ce,bt,aI];refine ⟨fun w H'=>H'=H∧∃ n:Nat,w=[ac n]∧n<=l∧k∉ks.take n,fun w _=>match w with
  | [.int _ i]=>(l-i).toNat
  | _=>0,⟨rfl,0,rfl,RL _,by simp⟩,?_⟩
 rintro w H1 ⟨rfl,n,rfl,E7,Dl⟩ _;refine ⟨n,rfl,?_⟩;simp only [af,Rs,Rh,Rf,Ri,aK,aC,aU,aW,aL,aX,aR,aD,aT,aS,aJ,aV,Ru,Rx,Ry,ak,Rm,Rn,av,aq,aF,Rq,Rp,bq,bw];split
 ·rename_i an;obtain ⟨p,rfl,al,ap⟩:=hk.int (i:=(n:Int)) (by omega) an;rw [Ro] at al ap;simp only [af,Rs,Rh,Rf,Ri,aK,aC,aU,aW,aL,aX,aR,aD,aT,aS,aJ,aV,Ru,Rx,Ry,ak,Rm,Rn,av,aq,aF,Rq,Rp,bq,bw,Ro,al];refine ⟨by omega,an,?_⟩;have lp:ks.take (n+1)=ks.take n++[ks.getD n 0]:=by rw [RP];simp [ap]
  split
  ·rename_i he
   have:k∈ks:=by
    have hm:ks.getD n 0∈ks:=by
     have:ks.getD n 0=ks[n]:=by simp [ap]
     rw [this];exact RG ap
    rw [he] at hm;exact hm
   simpa [this] using h
  ·rename_i he;have e:IntKind.wrap .i64 ((n:Int)+1)=((n+1:Nat):Int):=by rw [ai (by omega) (by omega)];omega
   rw [e];refine ⟨⟨n+1,rfl,by omega,?_⟩,by simp;omega⟩;rw [lp];simp only [Rl,Rg,Ta];exact ⟨Dl,fun e=>he e.symm⟩
 ·rename_i an
  have:ks.take n=ks:=RJ (by omega);rw [this] at Dl;simpa [Dl] using h
theorem mj (hR:de H b F r){w:Int} (h:Q (ac (bd r w)) H):ag PP 169 #[Cv b,ac w] Q H:=by
 apply yb;dsimp only [ah,aA,ac,am];unfold bd at h;refine uJ ?_;unfold qA;by_cases hk:bT w=3
 ·rw [Rj hk];refine ⟨_,_,rfl,?_⟩;simp only [af,Rs,Rh,Rf,Ri,aK,aC,aU,aW,aL,aX,aR,aD,aT,aS,aJ,aV,Ru,Rx,Ry,ak,Rm,Rn,av,aq,aF,Rq,Rp,bq,bw,ne_eq,not_true_eq_false,if_false];refine jW hR ?_;unfold RH.clsAt;cases ho:aG r.objs (w / 4) with
  | none =>
   rw [ho] at h;exact ⟨_,_,rfl,by simpa using h⟩
  | some o =>
   rw [ho] at h;refine ⟨_,_,rfl,?_⟩;simp only [hk,Rx,Tk,if_true] at h;simpa using h
 ·rw [Re hk];refine ⟨_,_,rfl,?_⟩;rw [Re (fun hc=>hk hc.1)] at h;simpa using h
theorem lZ {a:Option Addr}{l c:Nat}{ks:List Int}{G:aB}{n:Int} (ho:bZ 1 H a l c (au ks) G) (hl:l<1000000000) (h:∀ a' l' c' G' H',bZ 1 H' a' l' c' (au (fe ks n)) G'->Up G H G' H'->Q (.slice a' l' c') H') :
  ag PP 168 #[.slice a l c,ac n] Q H:=by
 have w9:aY PP 109=some (1,8,some (ac 0)):=by kernel_rfl
 apply xe;dsimp only [bf,bK,ah,ac,ax,bg,bE,az];unfold fe at h;simp only [af,Rs,Rh,Rf,Ri,aK,aC,aU,aW,aL,aX,aR,aD,aT,aS,aJ,aV,Ru,Rx,Ry,ak,Rm,Rn,av,aq,aF,Rq,Rp,bq,bw];split
 ·rename_i h0;rw [Rj (.inl h0)] at h;exact h _ _ _ _ H ho (Up.refl _ _)
 ·rename_i h0;refine uD ho.rd (by omega) ⟨_,rfl,?_⟩;rw [af];split
  ·rename_i hm;rw [Rj (.inr hm)] at h;exact h _ _ _ _ H ho (Up.refl _ _)
  ·rename_i hm;rw [Re (by simp [h0,hm])] at h;refine bD w9 rfl (by kernel_rfl) ho rfl (by simp [dw]) (by omega) (by decide) (by decide) fun a' c' G' H' h1 h2 h3=>⟨_,_,_,rfl,h _ _ _ _ H' ?_ h2⟩;rw [bJ];exact h1
theorem vi (hR:de H b F r){a2:Option Addr}{l2 c2:Nat}{ws:List Int} (hk:Rd 1 H a2 l2 (au ws)) (C5:l2<=1000000) (h:∀ a l c G H',bZ 1 H' a l c (au (r.reach ws)) G->Fr [] H H'->(∀ x∈G,H.size<=x)->Q (.tuple #[.slice a l c,ac 0]) H') :
  ag PP 108 #[Cv b,.slice a2 l2 c2] Q H:=by
 have hw:=hR.wf;have En:=RH.all_len hw;have FG:=ee hw.objs;have GL:=bX hw.objs hw.w0;have CW:=hw.w1;have DI:l2=ws.length:=by have:=hk.1;simpa [au] using this.symm
 have Dj:∀ l:List Int,l.Nodup->(∀ k∈l,Reaches r ws k)->l.length<=r.objs.length:=fun l h1 h2=>by
  rw [←En];exact lP h1 fun k hk=>(RH.mem_all hw).2 (h2 k hk).there
 apply xF;dsimp only [bf,bK,aH,cG,ah,cd,aA,aZ,aM,bl,ac,bm,dq,ax,bt,ch,am,bg,bE,az,bn,aI];simp only [af,bq,bw,Rf,Rh];refine ⟨fun w H'=>∃(i:Nat) (a:Option Addr) (l c:Nat) (G:aB) (fl:List Int),w=[.slice a l c,ac i]∧i<=l2∧bZ 1 H' a l c (au fl) G∧Fr [] H H'∧(∀ x∈G,H.size<=x)∧fl.Nodup∧(∀ k∈fl,Reaches r ws k)∧∀ w∈ws.take i,bd r w≠0->bd r w∈fl,fun w _=>match w with
  | [_,.int _ i]=>(l2-i).toNat
  | _=>0,⟨0,none,0,0,[],[],rfl,RL _,bZ.nil 1 H,Fr.refl _ _,by simp,by simp,by simp,by simp⟩,?_⟩
 rintro w H1 ⟨i,a,l,c,G,fl,rfl,hi,ho,hf,hG,hnd,Ff,Ec⟩ _;have D9:l=fl.length:=by have:=ho.len;simpa [au] using this.symm
 have EH:=Dj fl hnd Ff;refine ⟨_,_,_,_,rfl,bH (fun an=>?_) fun an=>?_⟩
 ·have Dw:=hk.fr' hf (by simp);obtain ⟨p,rfl,al,ap⟩:=Dw.int (i:=(i:Int)) (by omega) an;rw [Ro] at al ap;have lp:ws.take (i+1)=ws.take i++[ws.getD i 0]:=by rw [RP];simp [ap]
  have hmem:ws.getD i 0∈ws:=by
   have:ws.getD i 0=ws[i]:=by simp [ap]
   rw [this];exact RG ap
  have e:IntKind.wrap .i64 ((i:Int)+1)=((i+1:Nat):Int):=by rw [ai (by omega) (by omega)];omega
  refine ⟨⟨by omega,an⟩,_,rfl,_,by rw [Ro,Rn];exact al,?_⟩;refine mj (hR.fr hf (bL.nil_right _)) ⟨_,rfl,?_⟩;refine lZ ho (by omega) fun a' l' c' G' H2 h1 h2=>⟨_,_,_,rfl,?_⟩;have p5:=Up.fresh hf h2 hG;rw [e];refine ⟨⟨i+1,a',l',c',G',fe fl (bd r (ws.getD i 0)),rfl,by omega,h1,p5.1,p5.2,gY hnd _,fun k Er=>?_,fun w CW Gk=>?_⟩,by simp;omega⟩
  ·rcases ff.1 Er with h3 | ⟨rfl,h3⟩
   ·exact Ff k h3
   ·exact .root hmem h3
  ·rw [lp] at CW;rw [ff];rcases Rl.1 CW with h3 | h3
   ·exact .inl (Ec w h3 Gk)
   ·simp only [Rg] at h3;subst h3;exact .inr ⟨rfl,Gk⟩
 ·have Dp:ws.take i=ws:=RJ (by omega);rw [Dp] at Ec;refine ⟨fun w H'=>∃(i:Nat) (a:Option Addr) (l c:Nat) (G:aB) (fl:List Int),w=[.slice a l c,ac i]∧i<=fl.length∧bZ 1 H' a l c (au fl) G∧Fr [] H H'∧(∀ x∈G,H.size<=x)∧fl.Nodup∧(∀ k∈fl,Reaches r ws k)∧(∀ w∈ws,bd r w≠0->bd r w∈fl) ∧
    ∀ o∈r.objs,o.oop∈fl.take i->(bd r o.cls≠0->bd r o.cls∈fl)∧(o.fmt=0->∀ w∈o.slots,bd r w≠0->bd r w∈fl),fun w _=>match w with
   | [_,.int _ i]=>(r.objs.length-i).toNat
   | _=>0,⟨0,a,l,c,G,fl,rfl,RL _,ho,hf,hG,hnd,Ff,Ec,by simp⟩,?_⟩
  clear D9 EH ho hf hG hnd Ff Ec an;rintro w H2 ⟨j,a,l,c,G,fl,rfl,hj,ho,hf,hG,hnd,Ff,Ec,r0⟩ _;have D9:l=fl.length:=by have:=ho.len;simpa [au] using this.symm
  have EH:=Dj fl hnd Ff;refine ⟨_,_,_,_,rfl,bH (fun an=>?_) fun an=>?_⟩
  ·obtain ⟨p,rfl,al,ap⟩:=ho.rd.int (i:=(j:Int)) (by omega) an;rw [Ro] at al ap;refine ⟨⟨by omega,an⟩,_,rfl,_,by rw [Ro,Rn];exact al,?_⟩;have hx:fl.getD j 0=fl[j]:=by simp [ap]
   have MY:fl[j]∈fl:=RG ap;have lp:fl.take (j+1)=fl.take j++[fl[j]]:=by rw [RP];simp [ap]
   rw [hx];have OJ:=Ff _ MY;obtain ⟨o,C8⟩:∃ o,aG r.objs fl[j]=some o:=by
    cases h1:aG r.objs fl[j] with
    | none=>exact absurd h1 OJ.there
    | some o=>exact ⟨o,rfl⟩
   have Fx:=(aN C8).1;have L8:=(aN C8).2;have OK:Reaches r ws o.oop:=by rw [L8];exact OJ
   have DS:=(hw.objs.good o Fx).many;refine jW (hR.fr hf (bL.nil_right _)) ?_;have Em:r.clsAt fl[j]=(o.cls,0):=by unfold RH.clsAt;rw [C8]
   rw [Em];refine ⟨_,_,rfl,?_⟩;refine mj (hR.fr hf (bL.nil_right _)) ⟨_,rfl,?_⟩;refine lZ ho (by omega) fun a1 l1 c1 G1 H3 C3 Eo=>⟨_,_,_,rfl,?_⟩;have Es:=Up.fresh hf Eo hG;dsimp only at C3;obtain ⟨t1,IY⟩:=jd fl (bd r o.cls);have Il:=gY hnd (bd r o.cls);have Nk:∀ k∈fe fl (bd r o.cls),Reaches r ws k:=fun k hk=>by
    rcases ff.1 hk with h4 | ⟨rfl,h4⟩
    ·exact Ff k h4
    ·exact .cls OK Fx h4
   have l9:bd r o.cls≠0->bd r o.cls∈fe fl (bd r o.cls):=fun h4=>ff.2 (.inr ⟨rfl,h4⟩);generalize fe fl (bd r o.cls)=fl1 at *;have hfl1:l1=fl1.length:=by have:=C3.len;simpa [au] using this.symm
   have HE:fl.length<=fl1.length:=by rw [IY];simp
   obtain ⟨p1,rfl,EA,_⟩:=C3.rd.int (i:=(j:Int)) (by omega) (by omega);rw [Ro] at EA;have D6:fl1.getD j 0=fl[j]:=by rw [IY];simp [Si ap,ap]
   rw [D6] at EA;refine ⟨⟨by omega,by omega⟩,_,rfl,_,by rw [Ro,Rn];exact EA,?_⟩;refine oS (hR.fr Es.1 (bL.nil_right _)) ?_;have s5:r.size fl[j]=((o.slots.length:Int),o.fmt,0):=by unfold RH.size;rw [C8]
   rw [s5];refine ⟨_,_,_,rfl,?_⟩;have fin:∀ (a:Option Addr) (l c:Nat) (G:aB) (fl2:List Int) (t:List Int) (H4:ae),bZ 1 H4 a l c (au fl2) G->Fr [] H H4->(∀ x∈G,H.size<=x)->fl2.Nodup->(∀ k∈fl2,Reaches r ws k)->fl2=fl1++t->(o.fmt=0->∀ w∈o.slots,bd r w≠0->bd r w∈fl2) ->
     (∃(i:Nat) (a':Option Addr) (l' c':Nat) (G':aB) (fl':List Int),[Value.slice a l c,ac (IntKind.wrap .i64 ((j:Int)+1))]=[.slice a' l' c',ac i]∧i<=fl'.length∧bZ 1 H4 a' l' c' (au fl') G'∧Fr [] H H4∧(∀ x∈G',H.size<=x)∧fl'.Nodup∧(∀ k∈fl',Reaches r ws k)∧(∀ w∈ws,bd r w≠0->bd r w∈fl') ∧
      ∀ o∈r.objs,o.oop∈fl'.take i->(bd r o.cls≠0->bd r o.cls∈fl')∧(o.fmt=0->∀ w∈o.slots,bd r w≠0->bd r w∈fl')):=by
    intro a l c G fl2 t H4 k1 k2 k3 k4 k5 k6 k7;have e:IntKind.wrap .i64 ((j:Int)+1)=((j+1:Nat):Int):=by rw [ai (by omega) (by omega)];omega
    have b9:∀ k∈fl,k∈fl2:=fun k hk=>by rw [k6,IY];simp [hk]
    have Nl:fl2.take (j+1)=fl.take (j+1):=by
     rw [k6,IY,R9,Sn (by omega)]
    refine ⟨j+1,a,l,c,G,fl2,by rw [e],by rw [k6,IY];simp;omega,k1,k2,k3,k4,k5,fun w h1 h2=>b9 _ (Ec w h1 h2),fun o' C2 hm=>?_⟩;rw [Nl,lp] at hm;rcases Rl.1 hm with h4 | h4
    ·have:=r0 o' C2 h4;exact ⟨fun h5=>b9 _ (this.1 h5),fun h5 w h6 h7=>b9 _ (this.2 h5 w h6 h7)⟩
    ·simp only [Rg] at h4
     have:o'=o:=by
      have h5:=cA hw.objs C2;rw [h4,C8] at h5;exact (Option.some.inj h5).symm
     subst this;exact ⟨fun h5=>by rw [k6];simp [l9 h5],k7⟩
   refine ⟨fun w H'=>∃(i:Nat) (a:Option Addr) (l c:Nat) (G:aB) (fl2 t:List Int),w=[.slice a l c,ac i]∧i<=o.slots.length∧bZ 1 H' a l c (au fl2) G∧Fr [] H H'∧(∀ x∈G,H.size<=x)∧fl2.Nodup∧(∀ k∈fl2,Reaches r ws k)∧fl2=fl1++t∧(o.fmt=0->∀ w∈o.slots.take i,bd r w≠0->bd r w∈fl2),fun w _=>match w with
    | [_,.int _ i]=>(o.slots.length-i).toNat
    | _=>0,⟨0,_,l1,c1,G1,fl1,[],rfl,RL _,C3,Es.1,Es.2,Il,Nk,by simp,by simp⟩,?_⟩
   rintro w H4 ⟨q,a2',l2',c2',G2,fl2,t2,rfl,hq,Gl,g9,IS,Hc,Hd,DJ,Gn⟩ _;have hfl2:l2'=fl2.length:=by have:=Gl.len;simpa [au] using this.symm
   have Hh:=Dj fl2 Hc Hd;have Hm:fl1.length<=fl2.length:=by rw [DJ];simp
   refine ⟨_,_,_,_,rfl,bH (fun Ge=>bH (fun EO=>?_) fun EO=>?_) fun Ge=>?_⟩
   ·obtain ⟨p2,rfl,EB,_⟩:=Gl.rd.int (i:=(j:Int)) (by omega) (by omega);rw [Ro] at EB;have s7:fl2.getD j 0=fl[j]:=by rw [DJ,IY,R9];simp [Si ap,ap]
    rw [s7] at EB;refine ⟨⟨by omega,by omega⟩,_,rfl,_,by rw [Ro,Rn];exact EB,?_⟩;refine t7 (hR.fr g9 (bL.nil_right _)) ?_;have Nm:q<o.slots.length:=by omega
    have Lf:r.at fl[j] (q:Int)=(o.slots[q],0):=by
     unfold RH.at;rw [C8];simp only;rw [Re (by omega)];simp [Nm]
    rw [Lf];refine ⟨_,_,rfl,mj (hR.fr g9 (bL.nil_right _)) ⟨_,rfl,?_⟩⟩;refine lZ Gl (by omega) fun a5 l5 c5 G5 H5 OL DY=>⟨_,_,_,rfl,?_⟩;have Ki:=Up.fresh g9 DY IS;dsimp only at OL;have eq1:IntKind.wrap .i64 ((q:Int)+1)=((q+1:Nat):Int):=by rw [ai (by omega) (by omega)];omega
    obtain ⟨t5,P6⟩:=jd fl2 (bd r o.slots[q]);rw [eq1];refine ⟨⟨q+1,a5,l5,c5,G5,fe fl2 (bd r o.slots[q]),t2++t5,rfl,by omega,OL,Ki.1,Ki.2,gY Hc _,fun k hk=>?_,by rw [P6,DJ,R9],fun h6 w CW Gk=>?_⟩,by simp;omega⟩
    ·rcases ff.1 hk with h6 | ⟨rfl,h6⟩
     ·exact Hd k h6
     ·exact .slot OK Fx EO (RG Nm) h6
    ·rw [RP] at CW;rw [ff];rcases Rl.1 CW with h7 | h7
     ·exact .inl (Gn h6 w h7 Gk)
     ·simp [Nm] at h7;subst h7;exact .inr ⟨rfl,Gk⟩
   ·exact ⟨fin _ _ _ _ _ _ _ Gl g9 IS Hc Hd DJ fun h6=>absurd h6 EO,by simp;rw [ai (by omega) (by omega)];omega⟩
   ·refine ⟨fin _ _ _ _ _ _ _ Gl g9 IS Hc Hd DJ fun h6 w CW Gk=>Gn h6 w ?_ Gk,by simp;rw [ai (by omega) (by omega)];omega⟩;rw [RJ (by omega)];exact CW
  ·have hclosed:Closed3 r ws fl:=by
    have Jv:j=fl.length:=by omega
    subst Jv;rw [Sl] at r0;exact ⟨Ff,Ec,fun o ho hm=>(r0 o ho hm).1,fun o ho hm=>(r0 o ho hm).2⟩
   have w9:aY PP 109=some (1,8,some (ac 0)):=by kernel_rfl
   refine yU (hR.fr hf (bL.nil_right _)) fun aa la ca Ga H3 Jn J7 hGa=>⟨_,_,_,rfl,?_⟩;have IK:la=r.all.length:=by have:=Jn.len;simpa [au] using this.symm
   refine ⟨fun w H'=>∃(i:Nat) (a:Option Addr) (l c:Nat) (G:aB),w=[.slice a l c,ac i]∧i<=la∧bZ 1 H' a l c (au ((r.all.take i).filter fun k=>decide (k∈fl))) G∧Fr [] H3 H'∧(∀ x∈G,H3.size<=x),fun w _=>match w with
    | [_,.int _ i]=>(la-i).toNat
    | _=>0,⟨0,none,0,0,[],rfl,RL _,by simpa [au] using bZ.nil 1 H3,Fr.refl _ _,by simp⟩,?_⟩
   rintro w H4 ⟨q,a4,l4,c4,G4,rfl,hq,Kj,p3,Nn⟩ _;have hl4:l4=((r.all.take q).filter fun k=>decide (k∈fl)).length:=by have:=Kj.len;simpa [au] using this.symm
   have hl4b:l4<=la:=by
    have h1:=Ss (fun k=>decide (k∈fl)) (r.all.take q);rw [R5] at h1;omega
   refine ⟨_,_,_,_,rfl,bH (fun an=>?_) fun an=>?_⟩
   ·have Np:=Jn.fr p3 (by simp);have Nq:=(ho.fr J7 (by simp)).fr p3 (by simp);obtain ⟨p,rfl,al,ap⟩:=Np.rd.int (i:=(q:Int)) (by omega) an;rw [Ro] at al ap;have hx:r.all.getD q 0=r.all[q]:=by simp [ap]
    have lp:r.all.take (q+1)=r.all.take q++[r.all[q]]:=by rw [RP];simp [ap]
    have e:IntKind.wrap .i64 ((q:Int)+1)=((q+1:Nat):Int):=by rw [ai (by omega) (by omega)];omega
    rw [hx] at al;have FU:aj H4 (p.add (Int.toNat (q:Int)*1))=some (ac r.all[q]):=by rw [Ro,Rn];exact al
    refine ⟨⟨by omega,an⟩,_,rfl,_,FU,uD Nq.rd (by omega) ⟨_,rfl,?_⟩⟩;rw [af,e];refine bH (fun hm=>?_) fun hm=>?_
    ·refine ⟨⟨by omega,an⟩,_,rfl,_,FU,?_⟩;refine bD w9 rfl (by kernel_rfl) Kj rfl (by simp [dw]) (by omega) (by decide) (by decide) fun a5 c5 G5 H5 h1 h2 h3=>⟨_,_,_,rfl,?_⟩;have p5:=Up.fresh p3 h2 Nn;refine ⟨⟨q+1,a5,l4+1,c5,G5,rfl,by omega,?_,p5.1,p5.2⟩,by simp;omega⟩;rw [lp,SR,bJ];simpa [hm,au] using h1
    ·refine ⟨⟨q+1,a4,l4,c4,G4,rfl,by omega,?_,p3,Nn⟩,by simp;omega⟩;rw [lp,SR];simpa [hm] using Kj
   ·rw [RJ (by omega),hclosed.filter] at Kj;exact h _ _ _ _ H4 Kj (hf.trans (J7.trans p3)) fun x hx=>Rr (hf.trans J7).1 (Nn x hx)
theorem As (hR:de H b F r){a2:Option Addr}{l2 c2:Nat}{ws:List Int} (hk:Rd 1 H a2 l2 (au ws)) (C5:l2<=1000000) (h:∀ H' F',de H' b F' (r.keep (r.reach ws)).2->Up F H F' H'->Q (jQ (r.keep (r.reach ws)).1) H') :
  ag PP 46 #[Cv b,.slice a2 l2 c2] Q H:=by
 have hw:=hR.wf;have En:=RH.all_len hw;have FG:=ee hw.objs;have GL:=bX hw.objs hw.w0;have CW:=hw.w1;apply yR;dsimp only [ah,cd,iI,ac,ax,am,bn];refine vi hR hk C5 fun a l c G H1 ho hf hG=>⟨_,_,_,_,rfl,?_⟩;simp only [bw,af];rw [Re (by decide)];have hl:l=(r.reach ws).length:=by have:=ho.len;simpa [au] using this.symm
 have Ml:(r.reach ws).length<=r.all.length:=Ss _ _;refine wW (hR.fr hf (bL.nil_right _)) ho.rd (by omega) fun H2 F2 h1 h2=>⟨_,_,_,rfl,h H2 F2 h1 (Up.trans ⟨hf.of_nil,fun _ hb=>.inl hb⟩ h2)⟩
end
def kO (H:ae) (b:Nat) (F:aB) (s:SP):Prop:=∃ hb a l c F1 F2 po b5 b6 b7,F=b :: (F1++F2)∧b∉F1∧b∉F2∧bL F1 F2 ∧
 bW H b #[Cv hb,ac s.king,.slice a l c,.bool s.op,.pointer po,ac b5,ac b6,ac b7]∧de H hb F1 s.h∧bZ 1 H a l c (au s.stack) F2∧WFS s ∧
 (s.op=true->po=some ⟨hb,0,none⟩∧b5=s.born∧b6=s.turn∧b7=s.mark)
theorem kO.wf {H:ae}{b:Nat}{F:aB}{s:SP} (h:kO H b F s):WFS s:=by
 obtain ⟨_,_,_,_,_,_,_,_,_,_,_,_,_,_,_,_,_,h,_⟩:=h;exact h
theorem kO.lt {H:ae}{b:Nat}{F:aB}{s:SP} (h:kO H b F s):∀ x∈F,x<H.size:=by
 obtain ⟨hb,a,l,c,F1,F2,po,b5,b6,b7,rfl,h1,h2,h3,hB,hR,hO,_⟩:=h;intro x hx;rcases Rk.1 hx with rfl | hx
 ·exact hB.lt
 ·rcases Rl.1 hx with hx | hx
  ·exact hR.lt x hx
  ·exact hO.lt x hx
theorem kO.fr {H H':ae}{b:Nat}{F G:aB}{s:SP} (h:kO H b F s) (hf:Fr G H H') (hd:bL F G):kO H' b F s:=by
 obtain ⟨hb,a,l,c,F1,F2,po,b5,b6,b7,rfl,h1,h2,h3,hB,hR,hO,hw,ho⟩:=h;exact ⟨hb,a,l,c,F1,F2,po,b5,b6,b7,rfl,h1,h2,h3,hB.fr hf (hd b (by simp)),hR.fr hf (hd.mono (fun x hx=>by simp [hx]) fun _ h=>h),hO.fr hf (hd.mono (fun x hx=>by simp [hx]) fun _ h=>h),hw,ho⟩
section
variable {H:ae}{b:Nat}{F F':aB}{s:SP}{Q:QT}
theorem wm {words oops:Int} (l8:¬ (0<=words∧words<=1048576∧0<=oops∧oops<=65536)->Q (.tuple #[.pointer none,ac 1]) H)
  (h:(0<=words∧words<=1048576∧0<=oops∧oops<=65536)->∀ b F H',kO H' b F ⟨⟨words,oops,0,0,0,[]⟩,0,[],false,0,0,0⟩->Fr [] H H'->(∀ x∈F,H.size<=x)->Q (.tuple #[Cv b,ac 0]) H'):ag PP 31 #[ac words,ac oops] Q H:=by
 apply zp;dsimp only [bf,bx,ah,dU,ac,ax,am,bg,az,bn];simp only [bw,af];refine AX (fun hb=>⟨_,_,rfl,?_⟩) fun hg H1 hR hf=>⟨_,_,rfl,?_⟩
 ·rw [Rj (by decide)];exact l8 hb
 ·rw [Re (by decide)];have an:=hR.lt;have hs:=an H.size (by simp);refine h hg H1.size (H1.size :: ([H.size]++[])) _ ⟨H.size,none,0,0,[H.size],[],none,0,0,0,rfl,by simp;omega,by simp,bL.nil_right _,bW.new _ _ _,hR.fr (Fr.push [] _ _) (bL.nil_right _),bZ.nil 1 _,?_,by simp⟩ hf.more (by simp;have:=hf.1;omega);exact ⟨hR.wf,by simp,by simp,by simp,by simp⟩
theorem sZ (hS:kO H b F s){k:Int} (h:∀ H',kO H' b F (s.crown k).2->Fr F H H'->Q (ac (s.crown k).1) H'):ag PP 40 #[Cv b,ac k] Q H:=by
 have Dm:=hS;obtain ⟨hb,a,l,c,F1,F2,po,b5,b6,b7,rfl,h1,h2,h3,hB,hR,hO,hw,ho⟩:=hS;have CO:aj H ⟨b,0,none⟩=some (Cv hb):=hB.cell 0;apply Ao;dsimp only [ah,aA,aQ,ac,ao,ch,am,bi];simp only [af,Rs,Rh,Rf,Ri,aK,aC,aU,aW,aL,aX,aR,aD,aT,aS,aJ,aV,Ru,Rx,Ry,ak,Rm,Rn,av,aq,aF,Rq,Rp,bq,bw,CO];refine jW hR ⟨_,_,rfl,?_⟩;unfold SP.crown at h;by_cases he:(s.h.clsAt k).2=0
 ·rw [Re (by simpa using he)];simp only [he,ne_eq,not_true_eq_false,if_false] at h;refine ⟨hB.wr (by simp),h _ ⟨hb,a,l,c,F1,F2,po,b5,b6,b7,rfl,h1,h2,h3,hB.set 1 (ac k),hR.fr (Fr.set (F:=[b]) (by simp)) (fun x hx hn=>h1 (by simp only [Rg] at hn;rw [←hn];exact hx)),hO.fr (Fr.set (F:=[b]) (by simp)) (fun x hx hn=>h2 (by simp only [Rg] at hn;rw [←hn];exact hx)),?_,ho⟩ (Fr.set (by simp))⟩
  have:∃ o,aG s.h.objs k=some o:=by
   unfold RH.clsAt at he;cases ho:aG s.h.objs k with
   | none=>rw [ho] at he;simp at he
   | some o=>exact ⟨o,rfl⟩
  obtain ⟨o,C8⟩:=this;have hg:=hw.h.objs.good o (aN C8).1;have g1:=hg.oop1;have g2:=hg.oop2;have g3:=hw.h.o1;rw [(aN C8).2] at g1 g2;exact { hw with king0:=by simp;omega,king1:=by simp;omega }
 ·rw [Rj (by simpa using he)];simp only [he,ne_eq,not_false_eq_true,if_true] at h;exact h H Dm (Fr.refl _ _)
theorem pP (hS:kO H b F s){i w:Int} (h:∀ H',kO H' b F (s.setRoot i w).2->Fr F H H'->Q (ac (s.setRoot i w).1) H'):ag PP 75 #[Cv b,ac i,ac w] Q H:=by
 obtain ⟨hb,a,l,c,F1,F2,po,b5,b6,b7,rfl,h1,h2,h3,hB,hR,hO,hw,ho⟩:=hS;have CO:aj H ⟨b,0,none⟩=some (Cv hb):=hB.cell 0;have l9:aj H ⟨b,1,none⟩=some (ac s.king):=hB.cell 1;apply y8;dsimp only [aH,ah,aM,aQ,ac,ao,ch,am];simp only [af,Rs,Rh,Rf,Ri,aK,aC,aU,aW,aL,aX,aR,aD,aT,aS,aJ,aV,Ru,Rx,Ry,ak,Rm,Rn,av,aq,aF,Rq,Rp,bq,bw,CO,l9];refine lV hR fun H1 q7 cp=>?_;simp only [af,Rs,Rh,Rf,Ri,aK,aC,aU,aW,aL,aX,aR,aD,aT,aS,aJ,aV,Ru,Rx,Ry,ak,Rm,Rn,av,aq,aF,Rq,Rp,bq,bw];exact h H1 ⟨hb,a,l,c,F1,F2,po,b5,b6,b7,rfl,h1,h2,h3,hB.fr cp h1,q7,hO.fr cp h3.symm,{ hw with h:=gI hw.h _ _ _ },ho⟩ (cp.mono fun x hx=>by simp [hx])
theorem tr (hS:kO H b F s) (h:∀ a l c G H',bZ 1 H' a l c (au s.roots) G->Fr [] H H'->(∀ x∈G,H.size<=x)->Q (.slice a l c) H'):ag PP 47 #[Cv b] Q H:=by
 obtain ⟨hb,a,l,c,F1,F2,po,b5,b6,b7,rfl,h1,h2,h3,hB,hR,hO,hw,ho⟩:=hS;have l9:aj H ⟨b,1,none⟩=some (ac s.king):=hB.cell 1;have p9:aj H ⟨b,2,none⟩=some (.slice a l c):=hB.cell 2;have Ed:∀ o,aj (H.push o) ⟨b,2,none⟩=some (.slice a l c):=fun o=>(dc hB.lt).trans p9;have PN:=hw.king0;have Dw:=hw.king1;have hl:l=s.stack.length:=by have:=hO.len;simpa [au] using this.symm
 have hU:aY PP 44=some (1,8,some (ac 0)):=by kernel_rfl
 apply zK;dsimp only [bf,aM,aO,ac,ax,ao,bg,bE,az,aI];have e1:IntKind.wrap .i64 (4*s.king)=4*s.king:=ai (by omega) (by omega);simp only [af,Rs,Rh,Rf,Ri,aK,aC,aU,aW,aL,aX,aR,aD,aT,aS,aJ,aV,Ru,Rx,Ry,ak,Rm,Rn,av,aq,aF,Rq,Rp,bq,bw,l9,p9,Ed,e1];have Dq:bZ 1 (H.push (.cells #[ac (4*s.king)] 31)) (some ⟨H.size,0,none⟩) 1 1 (au [4*s.king]) [H.size]:=⟨by simp [au],Rw _,.inr ⟨H.size,_,rfl,rfl,bW.new _ _ _,by simp,by simp [au]⟩⟩;have hm:=hw.many;refine dp hU rfl (by kernel_rfl) Dq (hO.fr (Fr.push [] _ _) (by simp)).rd eF (by omega) (by decide) (by decide) fun a' c' F' H' g1 g2 g3=>⟨_,_,_,rfl,?_⟩;have p5:=Up.fresh (H:=H) (Fr.push [] H _) g2 (by simp);refine h _ _ _ F' H' ?_ p5.1 p5.2;have e2:au s.roots=au [4*s.king]++au s.stack:=by simp [au,SP.roots]
 rw [e2];exact g1
theorem kO.upd (hS:kO H b F s):∃ hb F1,de H hb F1 s.h∧aj H ⟨b,0,none⟩=some (Cv hb)∧aj H ⟨b,3,none⟩=some (.bool s.op)∧(∀ x∈F1,x∈F)∧b∉F1 ∧
  ∀ H' F1' r',de H' hb F1' r'->Up F1 H F1' H'->∃ F',kO H' b F' { s with h:=r' }∧Up F H F' H':=by
 have an:=hS.lt;obtain ⟨hb,a,l,c,F1,F2,po,b5,b6,b7,rfl,h1,h2,h3,hB,hR,hO,hw,ho⟩:=hS;refine ⟨hb,F1,hR,hB.cell 0,hB.cell 3,fun x hx=>by simp [hx],h1,fun H' F1' r' EW hu=>?_⟩;refine ⟨b :: (F1'++F2),⟨hb,a,l,c,F1',F2,po,b5,b6,b7,rfl,fun hx=>?_,h2,fun x hx s7=>?_,hB.fr hu.1 h1,EW,hO.fr hu.1 h3.symm,{ hw with h:=EW.wf },ho⟩,hu.1.mono fun x hx=>by simp [hx],fun x hx=>?_⟩
 ·rcases hu.2 b hx with h4 | h4
  ·exact h1 h4
  ·have:=an b (by simp);omega
 ·rcases hu.2 x hx with h4 | h4
  ·exact h3 x h4 s7
  ·have:=an x (by simp [s7]);omega
 ·rcases Rk.1 hx with rfl | hx
  ·exact .inl (by simp)
  ·rcases Rl.1 hx with hx | hx
   ·exact (hu.2 x hx).imp (fun h4=>by simp [h4]) id
   ·exact .inl (by simp [hx])
theorem ig {r:RH} (hw:WFH r) (cls n f:Int):0<=(r.alloc cls n f).1.1∧(r.alloc cls n f).1.1<=65537:=by
 have h1:=hw.o1;unfold RH.alloc;split
 ·simp
 split
 ·simp
 split
 ·simp
 rename_i h4;have hl:=dm hw.objs hw.o1 (by omega);split
 ·simp
 ·simp;omega
theorem nW (hS:kO H b F s){cls n f:Int} (h:∀ H' F',kO H' b F' (s.alloc cls n f).2->Up F H F' H'->Q (two (s.alloc cls n f).1) H'):ag PP 10 #[Cv b,ac cls,ac n,ac f] Q H:=by
 obtain ⟨hb,F1,hR,CO,EJ,b9,DD,pp⟩:=hS.upd;have ll:=hS.wf.h;have hbd:=ig ll cls n f;apply ze;dsimp only [bk,cG,ah,cd,aA,pj,aQ,ac,ax,ao,ch,am,az,aI];simp only [bw,af,Rf,Rh];refine ⟨_,rfl,_,CO,?_⟩;refine lD hR fun H1 F1' q7 Eo=>⟨_,_,rfl,?_⟩;obtain ⟨F',CX,Nr⟩:=pp H1 F1' _ q7 Eo;unfold SP.alloc at h;have e1:IntKind.wrap .i64 (4*(s.h.alloc cls n f).1.1)=4*(s.h.alloc cls n f).1.1:=ai (by omega) (by omega);rw [e1];refine bH (fun c9=>?_) fun c9=>?_
 ·rw [Rj (.inl c9)] at h;exact h H1 F' CX Nr
 ·have heq:(s.h.alloc cls n f).1.2=23:=RE fun hc=>c9 hc;have EI:=lF heq;have Et:kO H1 b F' s:=by
   have:({ s with h:=(s.h.alloc cls n f).2 }:SP)=s:=by rw [EI]
   rw [this] at CX;exact CX
  obtain ⟨er,F2,Dg,Kk,Hb,q8,Kl,Dt⟩:=Et.upd;refine ⟨_,rfl,_,Hb,?_⟩;cases Db:s.op with
  | true =>
   rw [Rj (.inr Db)] at h;simp only [Rs];exact h H1 F' CX Nr
  | false =>
   rw [Re (by simp [heq,Db])] at h;simp only [Rh];refine ⟨_,rfl,_,Kk,?_⟩;have hlt1:=Et.lt;refine tr Et fun ar lr cr G H2 OM hf hG=>?_;have Ns:aj H2 ⟨b,0,none⟩=some (Cv er):=by
    have s6:b<H1.size:=by
     obtain ⟨_,_,_,_,_,_,_,_,_,_,_,_,_,_,hB,_⟩:=Et;exact hB.lt
    unfold aj at *;rw [hf.2 b s6 (by simp)];exact Kk
   refine ⟨_,_,_,rfl,⟨⟨Ns,trivial⟩,trivial⟩,?_⟩;have HY:lr=s.stack.length+1:=by have:=OM.len;simpa [au,SP.roots] using this.symm
   have hm:=Et.wf.many;refine As (Dg.fr hf (bL.nil_right _)) OM.rd (by omega) fun H3 F3 JT He=>⟨_,_,_,rfl,trivial,?_⟩;obtain ⟨F4,Gp,P7⟩:=Dt H3 F3 _ JT (Up.trans ⟨hf.of_nil,fun _ hb=>.inl hb⟩ He);obtain ⟨hb5,F5,J4,Nt,hc35,Du,hnb5,Ev⟩:=Gp.upd;refine ⟨_,rfl,_,Nt,?_⟩;refine lD J4 fun H6 F6 Ht Km=>⟨_,_,rfl,?_⟩;obtain ⟨F7,J1,P8⟩:=Ev H6 F6 _ Ht Km;have hbd2:=ig (eu ll s.reach) cls n f;have e2:IntKind.wrap .i64 (4*((s.h.keep s.reach).2.alloc cls n f).1.1)=4*((s.h.keep s.reach).2.alloc cls n f).1.1:=ai (by omega) (by omega)
   have:=h H6 F7 J1 (Nr.trans (P7.trans P8));unfold two at this;rw [←e2] at this;exact this
theorem qr (hS:kO H b F s){a2:Option Addr}{l2 c2:Nat}{ws:List Int} (hk:Rd 1 H a2 l2 (au ws)) (C5:l2<=1000000000) (h:∀ H' F',kO H' b F' (s.keepW ws).2->Up F H F' H'->Q (ac (s.keepW ws).1) H'):ag PP 12 #[Cv b,.slice a2 l2 c2] Q H:=by
 have Dm:=hS;have s8:=hS.lt;obtain ⟨hb,a,l,c,F1,F2,po,b5,b6,b7,rfl,h1,h2,h3,hB,hR,hO,hw,ho⟩:=hS;have p9:aj H ⟨b,2,none⟩=some (.slice a l c):=hB.cell 2;have hl:l=s.stack.length:=by have:=hO.len;simpa [au] using this.symm
 have DI:l2=ws.length:=by have:=hk.1;simpa [au] using this.symm
 have hm:=hw.many;have hU:aY PP 44=some (1,8,some (ac 0)):=by kernel_rfl
 apply zZ;dsimp only [aH,ah,bA,aZ,aM,aO,bl,ac,bm,ce,ax,bt,ao,ch,bE,bi,aI];unfold SP.keepW at h;simp only [bq,af,Rf,Rh];refine ⟨fun w H'=>H'=H∧∃ i:Nat,w=[ac i]∧i<=l2∧∀ w∈ws.take i,d8 w,fun w _=>match w with
  | [.int _ i]=>(l2-i).toNat
  | _=>0,⟨rfl,0,rfl,RL _,by simp⟩,?_⟩
 rintro w H1 ⟨rfl,i,rfl,hi,be⟩ _;refine ⟨_,rfl,bH (fun an=>?_) fun an=>?_⟩
 ·obtain ⟨p,rfl,al,ap⟩:=hk.int (i:=(i:Int)) (by omega) an;rw [Ro] at al ap;have hx:ws.getD i 0=ws[i]:=by simp [ap]
  have lp:ws.take (i+1)=ws.take i++[ws[i]]:=by rw [RP];simp [ap]
  have e:IntKind.wrap .i64 ((i:Int)+1)=((i+1:Nat):Int):=by rw [ai (by omega) (by omega)];omega
  rw [hx] at al;refine ⟨⟨by omega,an⟩,_,rfl,_,by rw [Ro,Rn];exact al,fg ⟨_,rfl,bH (fun h0=>?_) fun h0=>?_⟩⟩
  ·rw [Rj ⟨ws[i],RG ap,fun hc=>hc h0⟩] at h;exact h H1 _ Dm (Up.refl _ _)
  ·rw [e];refine ⟨⟨rfl,i+1,rfl,by omega,?_⟩,by simp;omega⟩;rw [lp];intro w hw;rcases Rl.1 hw with h4 | h4
   ·exact be w h4
   ·simp only [Rg] at h4;rw [h4];exact h0
 ·have Dp:ws.take i=ws:=RJ (by omega);rw [Dp] at be;rw [Re (by rintro ⟨w,h4,h5⟩;exact h5 (be w h4))] at h;have e:IntKind.wrap .i64 ((l:Int)+(l2:Int))=(l:Int)+l2:=ai (by omega) (by omega);refine ⟨_,rfl,_,_,_,p9,?_⟩;rw [e];refine bH (fun FL=>?_) fun FL=>?_
  ·rw [Rj (by omega)] at h;exact h H1 _ Dm (Up.refl _ _)
  ·rw [Re (by omega)] at h;refine ⟨_,rfl,_,_,_,p9,?_⟩;refine dp hU rfl (by kernel_rfl) hO hk eF (by omega) (by decide) (by decide) fun a' c' F3 H2 g1 g2 g3=>⟨_,_,_,rfl,?_⟩;have At:b∉F3:=fun hx=>by
    rcases g2.2 b hx with h4 | h4
    ·exact h2 h4
    ·have:=s8 b (by simp);omega
   have An:=hB.fr g2.1 h2;refine ⟨_,rfl,An.wr (by simp),h _ (b :: (F1++F3)) ⟨hb,a',l+l2,c',F1,F3,po,b5,b6,b7,rfl,h1,At,fun x hx s7=>?_,An.set 2 (.slice a' (l+l2) c'),?_,?_,?_,ho⟩ ⟨?_,fun x hx=>?_⟩⟩
   ·rcases g2.2 x s7 with h4 | h4
    ·exact h3 x hx h4
    ·have:=s8 x (by simp [hx]);omega
   ·exact (hR.fr g2.1 h3).fr (Fr.set (F:=[b]) (by simp)) (fun x hx hn=>h1 (by simp only [Rg] at hn;rw [←hn];exact hx))
   ·have h5:=g1.fr (G:=[b]) (Fr.set (a:=⟨b,2,none⟩) (v:=.slice a' (l+l2) c') (by simp)) (fun x hx hn=>At (by simp only [Rg] at hn;rw [←hn];exact hx));simp only;rw [bJ];exact h5
   ·refine { hw with many:=by simp;omega,words:=fun w w5=>?_ };rcases Rl.1 w5 with h4 | h4
    ·exact hw.words w h4
    ·exact be w h4
   ·exact (g2.1.mono fun x hx=>by simp [hx]).step (by simp)
   ·rcases Rk.1 hx with rfl | hx
    ·exact .inl (by simp)
    ·rcases Rl.1 hx with hx | hx
     ·exact .inl (by simp [hx])
     ·exact (g2.2 x hx).imp (fun h4=>by simp [h4]) id
theorem tZ (hS:kO H b F s){n:Int} (h:∀ H' F',kO H' b F' (s.drop n).2->Up F H F' H'->Q (ac (s.drop n).1) H'):ag PP 133 #[Cv b,ac n] Q H:=by
 have Dm:=hS;have s8:=hS.lt;obtain ⟨hb,a,l,c,F1,F2,po,b5,b6,b7,rfl,h1,h2,h3,hB,hR,hO,hw,ho⟩:=hS;have p9:aj H ⟨b,2,none⟩=some (.slice a l c):=hB.cell 2;have hl:l=s.stack.length:=by have:=hO.len;simpa [au] using this.symm
 have hm:=hw.many;have HU:=hO.2.1;have hU:aY PP 44=some (1,8,some (ac 0)):=by kernel_rfl
 apply vR;dsimp only [ah,bA,aZ,aO,ac,ax,ao,ch,bE,az,bi,aI];unfold SP.drop at h;simp only [af,Rf,Rh];refine bH (fun h4=>?_) fun h4=>?_
 ·rw [Rj (.inl h4)] at h;exact h H _ Dm (Up.refl _ _)
 refine ⟨_,rfl,_,_,_,p9,bH (fun h5=>?_) fun h5=>?_⟩
 ·rw [Rj (by omega)] at h;exact h H _ Dm (Up.refl _ _)
 rw [Re (by omega)] at h;have e:IntKind.wrap .i64 ((l:Int)-n)=(l:Int)-n:=ai (by omega) (by omega);refine ⟨_,rfl,_,_,_,p9,_,rfl,_,_,_,p9,⟨by rw [e];omega,by rw [e];omega⟩,?_⟩;rw [e];have P9:((l:Int)-n).toNat=s.stack.length-n.toNat:=by omega
 rw [P9];have Hv:Rd 1 H a (s.stack.length-n.toNat) (au (s.stack.take (s.stack.length-n.toNat))):=by
  have hr:=hO.rd;refine ⟨by simp [au],fun ha=>by have:=hr.2.1 ha;omega,fun p hp i hi=>?_⟩;rw [hr.2.2 p hp i (by omega)];simp only [au,List.map_take];rw [SU (by omega)]
 refine dp hU rfl (by kernel_rfl) (bZ.nil 1 H) Hv eF (by omega) (by decide) (by decide) fun a' c' F3 H2 g1 g2 g3=>⟨_,_,_,rfl,trivial,?_⟩;have Di:∀ x∈F3,H.size<=x:=fun x hx=>(g2.2 x hx).resolve_left (by simp);have At:b∉F3:=fun hx=>by have:=Di b hx;have:=s8 b (by simp);omega
 have An:=hB.fr g2.1 (by simp);refine ⟨_,rfl,An.wr (by simp),trivial,h _ (b :: (F1++F3)) ⟨hb,a',0+(s.stack.length-n.toNat),c',F1,F3,po,b5,b6,b7,rfl,h1,At,fun x hx s7=>?_,An.set 2 _,?_,?_,?_,ho⟩ ⟨?_,fun x hx=>?_⟩⟩
 ·have:=Di x s7;have:=s8 x (by simp [hx]);omega
 ·exact (hR.fr g2.1 (bL.nil_right _)).fr (Fr.set (F:=[b]) (by simp)) (fun x hx hn=>h1 (by simp only [Rg] at hn;rw [←hn];exact hx))
 ·have h5:=g1.fr (G:=[b]) (Fr.set (a:=⟨b,2,none⟩) (v:=.slice a' (0+(s.stack.length-n.toNat)) c') (by simp)) (fun x hx hn=>At (by simp only [Rg] at hn;rw [←hn];exact hx));simpa using h5
 ·exact { hw with many:=by simp;omega,words:=fun w w5=>hw.words w (Sm w5) }
 ·exact (g2.1.of_nil).step (by simp)
 ·rcases Rk.1 hx with rfl | hx
  ·exact .inl (by simp)
  ·rcases Rl.1 hx with hx | hx
   ·exact .inl (by simp [hx])
   ·exact .inr (Di x hx)
end
section
variable {Q:QT}{H:ae}
variable {a b c d A B D P:Option Addr}{i j k m n x y z I J K M N:Int}{l o r s u v L O R S U V:Nat}{t w T W:ByteArray}{e E g:Bool}{q:Option Nat}{p X Y Z:Value}{F G:Addr}
theorem Bt (h:dU 31 #[ac i,ac j] H fun a b c=>ah (b != 0) (Q (bn #[am none,ac b]) c) (dU 32 #[ac 4096] c fun b _ c=>ce [ac 1] (bg c #[am a,am b] 40) fun d e f g i=>ah (decide (i<=20)) (aA 33 #[ac i] g fun b c j=>ao a fun a=>aQ j a fun k=>aH 35 #[ac b] j fun b j=>((aj j a=some (am k)∧True)∧True)∧aA 34 #[am k,ac b,ac c,ac 0] j fun _ a b=>True∧ah (a != 0) (Q (bn #[am none,ac a]) b) (bt d e [ac (aI (i+1))] b f g)) (ce [ac 0] g fun d e f g i=>az (am (some (bf c.size))) fun c=>az (ac 18) fun j=>ah (aZ i 14) (((0:Int)<=i∧i<(14:Int))∧fE g (ci 0 (Int.toNat i*1)) fun k=>aA 36 #[am b,bh k] g fun _ _ b=>aH 35 #[ac 4] b fun b k=>vw (fun a=>ah (i == 0) (aH 35 #[ac 1] k fun b c=>a [ac b] c) (a [ac b] k)) fun b k=>aH 38 #[ac i] k fun k l=>aH 35 #[j] l fun l m=>aH 35 #[j] m fun m n=>aH 35 #[j] n fun j n=>aH 39 #[ac 0] n fun n o=>az (ac (aI (i+1))) fun p=>aH 39 #[p] o fun o q=>az (ac (aI (4+i))) fun r=>eH 37 #[c,r,ax (some (bf q.size)) 7 7] (bg q #[ac k,ac b,ac l,ac m,ac j,ac n,ac o] 31) fun b=>ao a fun a=>aQ b a fun c=>aH 35 #[r] b fun b j=>((aj j a=some (am c)∧True)∧True)∧aH 16 #[am c,ac 20,ac i,ac b] j fun _ a=>True∧bt d e [p] a f g) (aH 35 #[ac 20] g fun b d=>aH 35 #[j] d fun d e=>aH 35 #[j] e fun e f=>aH 35 #[j] f fun f g=>aH 35 #[ac 1] g fun g i=>aH 35 #[ac 2] i fun i j=>aH 35 #[ac 3] j fun j k=>aH 35 #[ac 1] k fun k l=>eH 37 #[c,ac 19,ax (some (bf l.size)) 8 8] (bg l #[ac b,ac d,ac e,ac f,ac g,ac i,ac j,ac k] 31) fun b=>aH 40 #[am a,ac 19] b fun _ a=>Q (bn #[c,ac 0]) a)))):ag PP 5 #[ac i,ac j] Q H :=
 okL Tryz.func5 rfl (fun | 7=>some [(11,3)] | 14=>some [(16,3)] | 1020=>some [(17,31)] | _=>none) h
theorem Af (h:bK 67 #[bh t] H fun b c=>ah (!b) (Q (ac 133) c) (az (am a) fun b=>bK 68 #[b,bh t] c fun c d=>ah c (Q (ac 131) d) (cG 69 #[b] d fun _ c _ d=>ah (decide ((c:Int)≥256)) (Q (ac 138) d) (dB 70 #[b] d fun c d=>iI 71 #[b,ax (some (bf d.size)) 1 1] (bg d #[bh t] 9) fun d e _ f g=>ah (f == 0) (Bg (fun a=>bm 0 e d fun c=>az (bl c 0 1) fun c=>aM g c fun d=>az (ac d) fun d=>aH 73 #[b,ac 19,ac 1] g (fun e f=>az (some d) fun g=>((aj f c=g∧True)∧True)∧aH 15 #[ac e] f (fun e f=>((aj f c=g∧True)∧True)∧cG 72 #[b,ac e] f (fun b e f i=>((aj i c=g∧True)∧True)∧True∧bE (Builtin.append_ #[44,44] 44 #[ax b e f,ax (some (bf i.size)) 1 1]) (bg i #[d] 31) fun b c d e=>True∧a [ax b c d] e)∧True∧cG 72 #[b,ac e] (bg f #[d] 31) fun b c d e=>True∧bE (Builtin.append_ #[44,44] 44 #[ax b c d,ax (some (bf f.size)) 1 1]) e fun b c d e=>True∧a [ax b c d] e)∧True∧aH 15 #[ac e] (bg f #[d] 31) fun c d=>True∧cG 72 #[b,ac c] d fun b c d e=>True∧bE (Builtin.append_ #[44,44] 44 #[ax b c d,ax (some (bf f.size)) 1 1]) e fun b c d e=>True∧a [ax b c d] e)∧True∧aH 73 #[b,ac 19,ac 1] (bg g #[d] 31) fun c d=>True∧aH 15 #[ac c] d fun c d=>True∧cG 72 #[b,ac c] d fun b c d e=>True∧bE (Builtin.append_ #[44,44] 44 #[ax b c d,ax (some (bf g.size)) 1 1]) e fun b c d e=>True∧a [ax b c d] e) fun d e f g=>aH 35 #[ac 1] g fun g i=>bE (Builtin.append_ #[44,44] 44 #[ax d e f,ax (some (bf i.size)) 1 1]) (bg i #[ac g] 31) fun d e f g=>aA 74 #[b,ac 11,ax d e f] g fun d e f=>ah (e == 0) (ao a fun a=>aQ f a fun a=>aH 75 #[am a,ac 1,ac d] f fun _ a=>aH 76 #[b,am c,ac e] a fun a b=>Q (ac a) b) (aH 76 #[b,am c,ac e] f fun a b=>Q (ac a) b)) (aH 76 #[b,am c,ac f] g fun a b=>Q (ac a) b))))):ag PP 18 #[.pointer a,.string t] Q H :=
 okL Tryz.func18 rfl (fun | 1012=>some [(9,44)] | _=>none) h
theorem Ak (h:aA 78 #[am a,ac i] H fun _ b c=>ah (b != 0) (Q (ac b) c) (bK 79 #[ac j] c fun b c=>ah (!b) (Q (ac 10) c) (ao a fun b=>aQ c b fun d=>ao d fun e=>aQ c e fun f=>aH 73 #[am a,ac 19,ac 1] c fun a c=>((aj c e=some (am f)∧True)∧(aj c b=some (am d)∧True)∧True)∧aH 15 #[ac a] c fun a c=>((aj c e=some (am f)∧True)∧(aj c b=some (am d)∧True)∧True)∧aH 16 #[am f,ac a,ac (aI (aI (2*i)+1)),ac j] c fun a b=>True∧Q (ac a) b))):ag PP 20 #[.pointer a,ac i,ac j] Q H :=
 okF Tryz.func20 rfl h
theorem yP (h:ce [ac 0] H fun c d e f g=>ah (aZ g (l:Int)) (ao a fun a=>aQ f a fun a=>ao a fun a=>aQ f a fun a=>bm g l b fun b=>aM f (bl b g 1) fun b=>aH 16 #[am a,ac i,ac g,ac b] f fun _ a=>True∧bt c d [ac (aI (g+1))] a e f) (Q (bn #[]) f)):ag PP 37 #[.pointer a,ac i,.slice b l o] Q H :=
 okL Tryz.func37 rfl (fun | 1=>some [(6,3)] | _=>none) h
theorem zE (h:aA 127 #[am a,bh t] H fun _ b c=>cG 69 #[am a] c fun a c _ d=>ce [ac 0] d fun d e f g i=>ah (aZ i (c:Int)) (bm i c a fun a=>fE g (bl a i 1) fun a=>ah (iV a t) (Q (bx true) g) (bt d e [ac (aI (i+1))] g f g)) (Q (bx (b == 0)) g)):ag PP 68 #[.pointer a,.string t] Q H :=
 okL Tryz.func68 rfl (fun | 4=>some [(8,3)] | _=>none) h
theorem zJ (h:aH 73 #[am a,ac 19,ac 1] H fun b c=>aH 15 #[ac b] c fun b c=>cG 72 #[am a,ac b] c fun b c _ d=>dq [ax none 0 0,ac 0] d fun d e f g i j k l=>ah (aZ (aI (l+1)) (c:Int)) (bm l c b fun b=>aM g (bl b l 1) fun b=>cB 128 #[am a,ac b] g fun a b=>bE (Builtin.append_ #[73,73] 73 #[ax i j k,ax (some (bf b.size)) 1 1]) (bg b #[bh a] 9) fun a b c i=>bt d e [ax a b c,ac (aI (l+2))] i f g) (Q (ax i j k) g)):ag PP 69 #[.pointer a] Q H :=
 okL Tryz.func69 rfl (fun | 4=>some [(4,73),(5,3)] | _=>none) h
theorem AD (h:ao a fun b=>aQ H (b.add 1) fun b=>ao a fun c=>aQ H c fun d=>ao d fun e=>aQ H e fun f=>ao a fun a=>aQ H a fun g=>ao g fun i=>az (i.add 2) fun i=>aO H i fun j k l=>aH 129 #[am b] H fun b m=>az (some (ax j k l)) fun j=>((aj m i=j∧True)∧(aj m a=some (am g)∧True)∧(aj m e=some (am f)∧True)∧(aj m c=some (am d)∧True)∧True)∧aH 130 #[am f] m fun c d=>((aj d i=j∧True)∧(aj d a=some (am g)∧True)∧True)∧True∧Q (am (some (bf d.size))) (bg d #[ac b,ac c,ac (k:Int)] 191)):ag PP 70 #[.pointer a] Q H :=
 okF Tryz.func70 rfl h
theorem y6 (h:dq [ax none 0 0,ac 0] H fun c d e f g i j k=>ah (aZ k (l:Int)) (ao a fun a=>aQ f (a.add 1) fun a=>bm k l b fun b=>fE f (bl b k 1) fun b=>aA 36 #[am a,bh b] f fun a b l=>True∧ah (b != 0) (Q (bn #[ax none 0 0,ac b]) l) (aH 38 #[ac a] l fun a b=>bE (Builtin.append_ #[44,44] 44 #[ax g i j,ax (some (bf b.size)) 1 1]) (bg b #[ac a] 31) fun a b g i=>bt c d [ax a b g,ac (aI (k+1))] i e f)) (Q (bn #[ax g i j,ac 0]) f)):ag PP 71 #[.pointer a,.slice b l o] Q H :=
 okL Tryz.func71 rfl (fun | 3=>some [(6,44),(7,3)] | _=>none) h
theorem zQ (h:ao a fun b=>aQ H b fun b=>ao b fun b=>aQ H b fun b=>cd 131 #[am b,ac i] H fun b _ _ c=>dq [ax none 0 0,ac 0] c fun c d e f g j k l=>ah (aZ l b) (aH 73 #[am a,ac i,ac l] f fun a b=>bE (Builtin.append_ #[44,44] 44 #[ax g j k,ax (some (bf b.size)) 1 1]) (bg b #[ac a] 31) fun a b g i=>bt c d [ax a b g,ac (aI (l+1))] i e f) (Q (ax g j k) f)):ag PP 72 #[.pointer a,ac i] Q H :=
 okL Tryz.func72 rfl (fun | 4=>some [(8,44),(9,3)] | _=>none) h
theorem zT (h:ao a fun a=>aQ H a fun a=>ao a fun a=>aQ H a fun a=>aA 132 #[am a,ac i,ac j] H fun a _ b=>Q (ac a) b):ag PP 73 #[.pointer a,ac i,ac j] Q H :=
 okF Tryz.func73 rfl h
theorem vl (h:sx (fun a=>ah (i == 11) (ah ((l:Int) == 0) (aH 35 #[ac 18] H fun a b=>Q (bk a 0) b) (a [] H)) (a [] H)) fun c=>ao a fun d=>aQ c d fun e=>aH 35 #[ac i] c fun c f=>((aj f d=some (am e)∧True)∧True)∧aA 10 #[am e,ac c,ac (l:Int),ac 0] f fun c d e=>True∧ah (d != 0) (Q (bk 0 d) e) (aH 15 #[ac c] e fun d e=>eH 37 #[am a,ac d,ax b l o] e fun b=>ao a fun a=>aQ b a fun a=>aH 12 #[am a,ax (some (bf b.size)) 1 1] (bg b #[ac c] 31) fun a b=>Q (bk c a) b)):ag PP 74 #[.pointer a,ac i,.slice b l o] Q H :=
 okL Tryz.func74 rfl (fun | 1003=>some [] | _=>none) h
theorem zf (h:ao a fun c=>aQ H c fun c=>ao a fun d=>aQ H d fun d=>ao d fun d=>aO H (d.add 2) fun _ d _=>ao b fun e=>aM H (e.add 2) fun e=>aH 133 #[am c,ac (aI ((d:Int)-e))] H fun _ c=>True∧ah (i == 0) (Q (ac 0) c) (ao a fun d=>aQ c (d.add 1) fun d=>ao b fun e=>aM c e fun e=>aH 134 #[am d,ac e] c fun _ c=>True∧ah (i != 24) (ao a fun a=>aQ c a fun a=>ao a fun a=>aQ c a fun a=>ao b fun b=>aM c (b.add 1) fun b=>aH 135 #[am a,ac b] c fun _ a=>True∧Q (ac i) a) (Q (ac i) c))):ag PP 76 #[.pointer a,.pointer b,ac i] Q H :=
 okF Tryz.func76 rfl h
theorem z6 (h:ah (aZ i 0) (Q (bk 0 1) H) (cG 69 #[am a] H fun _ b _ c=>ah (decide (i≥(b:Int))) (Q (bk 0 1) c) (aH 73 #[am a,ac 19,ac 1] c fun b c=>aH 15 #[ac b] c fun b c=>aH 73 #[am a,ac b,ac (aI (aI (2*i)+1))] c fun a b=>Q (bk a 0) b))):ag PP 78 #[.pointer a,ac i] Q H :=
 okF Tryz.func78 rfl h
theorem xy (h:cG 181 #[am a] H fun b c _ d=>ce [ac 0] d fun d e f g i=>ah (aZ i (c:Int)) (bm i c b fun j=>aM g (bl j i 1) fun j=>aH 73 #[am a,ac j,ac 0] g fun j k=>cB 128 #[am a,ac j] k fun a j=>ah (iV a t) (bm i c b fun a=>aM j (bl a i 1) fun a=>Q (bk a 0) j) (bt d e [ac (aI (i+1))] j f g)) (Q (bk 0 130) g)):ag PP 127 #[.pointer a,.string t] Q H :=
 okL Tryz.func127 rfl (fun | 3=>some [(7,3)] | _=>none) h
theorem yu (h:ah (Int.tmod i 4 != 2) (Q (bh (⟨#[]⟩:ByteArray)) H) (ao a fun a=>aQ H (a.add 1) fun a=>dV 182 #[am a,ac (aI (Int.tdiv (aI (i-2)) 4))] H fun a _ b=>Q (bh a) b)):ag PP 128 #[.pointer a,ac i] Q H :=
 okF Tryz.func128 rfl h
theorem wE (h:sx (fun a=>bK 79 #[ac i] H fun b c=>ah b (ah (Int.tmod i 2 != 0) (Q (bk 8 0) c) (a [] c)) (a [] c)) fun b=>bK 79 #[ac i] b fun b c=>ah (!b) (Q (bk 0 10) c) (ah (Int.tmod i 4 == 2) (Q (bk 9 0) c) (ao a fun a=>aQ c a fun b=>ao b fun d=>aQ c d fun e=>aH 15 #[ac i] c fun c f=>((aj f d=some (am e)∧True)∧(aj f a=some (am b)∧True)∧True)∧aA 105 #[am e,ac c] f fun a b c=>True∧ah (b != 0) (Q (bk 0 b) c) (aH 15 #[ac a] c fun a b=>Q (bk a 0) b)))):ag PP 154 #[.pointer a,ac i] Q H :=
 okL Tryz.func154 rfl (fun | 1003=>some [] | _=>none) h
theorem xL (h:aH 73 #[am a,ac 19,ac 0] H fun b c=>aH 15 #[ac b] c fun b c=>cG 72 #[am a,ac b] c fun a b _ c=>dq [ax none 0 0,ac 0] c fun c d e f g i j k=>ah (aZ k (b:Int)) (bm k b a fun a=>aM f (bl a k 1) fun a=>aH 15 #[ac a] f fun a b=>bE (Builtin.append_ #[109,109] 109 #[ax g i j,ax (some (bf b.size)) 1 1]) (bg b #[ac a] 3) fun a b g i=>bt c d [ax a b g,ac (aI (k+1))] i e f) (Q (ax g i j) f)):ag PP 181 #[.pointer a] Q H :=
 okL Tryz.func181 rfl (fun | 4=>some [(4,109),(5,3)] | _=>none) h
theorem vO (h:cG 181 #[am a] H fun a b _ c=>ce [ac 0] c fun c d e f g=>ah (aZ g (b:Int)) (bm g b a fun a=>aM f (bl a g 1) fun a=>az (ac (aI (g+1))) fun b=>ah (a == i) (ah (bA i 0) (Q b f) (bt c d [b] f e f)) (bt c d [b] f e f)) (Q (ac 0) f)):ag PP 210 #[.pointer a,ac i] Q H :=
 okL Tryz.func210 rfl (fun | 3=>some [(6,3)] | _=>none) h
end
def RK (H:ae) (b:Nat) (F:aB) (s:SP) (t:TB):Prop:=∃ sb tb F1 F2,F=b :: (F1++F2)∧b∉F1∧b∉F2∧bL F1 F2 ∧
 bW H b #[Cv sb,Cv tb]∧kO H sb F1 s∧pg H tb F2 t
theorem RK.lt {H:ae}{b:Nat}{F:aB}{s:SP}{t:TB} (h:RK H b F s t):∀ x∈F,x<H.size:=by
 obtain ⟨sb,tb,F1,F2,rfl,h1,h2,h3,hB,hS,hT⟩:=h;intro x hx;rcases Rk.1 hx with rfl | hx
 ·exact hB.lt
 ·rcases Rl.1 hx with hx | hx
  ·exact hS.lt x hx
  ·exact hT.lt x hx
theorem RK.bmem {H:ae}{b:Nat}{F:aB}{s:SP}{t:TB} (h:RK H b F s t):b∈F:=by obtain ⟨_,_,_,_,rfl,_⟩:=h;simp
theorem RK.fr {H H':ae}{b:Nat}{F G:aB}{s:SP}{t:TB} (h:RK H b F s t) (hf:Fr G H H') (hd:bL F G):RK H' b F s t:=by
 obtain ⟨sb,tb,F1,F2,rfl,h1,h2,h3,hB,hS,hT⟩:=h;exact ⟨sb,tb,F1,F2,rfl,h1,h2,h3,hB.fr hf (hd b (by simp)),hS.fr hf (hd.mono (fun x hx=>by simp [hx]) fun _ h=>h),hT.fr hf (hd.mono (fun x hx=>by simp [hx]) fun _ h=>h)⟩
theorem RK.nil {H H':ae}{b:Nat}{F:aB}{s:SP}{t:TB} (h:RK H b F s t) (hf:Fr [] H H'):RK H' b F s t:=h.fr hf (bL.nil_right _)
theorem RK.wfs {H:ae}{b:Nat}{F:aB}{s:SP}{t:TB} (h:RK H b F s t):WFS s:=by obtain ⟨_,_,_,_,_,_,_,_,_,hS,_⟩:=h;exact hS.wf
theorem RK.wft {H:ae}{b:Nat}{F:aB}{s:SP}{t:TB} (h:RK H b F s t):WFT t:=by obtain ⟨_,_,_,_,_,_,_,_,_,_,hT⟩:=h;exact hT.wf
theorem RK.sp {H:ae}{b:Nat}{F:aB}{s:SP}{t:TB} (h:RK H b F s t):∃ sb F1,aj H ⟨b,0,none⟩=some (Cv sb)∧kO H sb F1 s∧(∀ x∈F1,x∈F)∧b∉F1 ∧
  ∀ H' F1' s',kO H' sb F1' s'->Up F1 H F1' H'->∃ F',RK H' b F' s' t∧Up F H F' H':=by
 have an:=h.lt;obtain ⟨sb,tb,F1,F2,rfl,h1,h2,h3,hB,hS,hT⟩:=h;refine ⟨sb,F1,hB.cell 0,hS,fun x hx=>by simp [hx],h1,fun H' F1' s' GV hu=>⟨b :: (F1'++F2),⟨sb,tb,F1',F2,rfl,fun hx=>?_,h2,fun x hx s7=>?_,hB.fr hu.1 h1,GV,hT.fr hu.1 h3.symm⟩,hu.1.mono fun x hx=>by simp [hx],fun x hx=>?_⟩⟩
 ·rcases hu.2 b hx with h4 | h4
  ·exact h1 h4
  ·have:=an b (by simp);omega
 ·rcases hu.2 x hx with h4 | h4
  ·exact h3 x h4 s7
  ·have:=an x (by simp [s7]);omega
 ·rcases Rk.1 hx with rfl | hx
  ·exact .inl (by simp)
  ·rcases Rl.1 hx with hx | hx
   ·exact (hu.2 x hx).imp (fun h4=>by simp [h4]) id
   ·exact .inl (by simp [hx])
theorem RK.tb {H:ae}{b:Nat}{F:aB}{s:SP}{t:TB} (h:RK H b F s t):∃ tb F2,aj H ⟨b,1,none⟩=some (Cv tb)∧pg H tb F2 t∧(∀ x∈F2,x∈F)∧b∉F2 ∧
  ∀ H' F2' t',pg H' tb F2' t'->Up F2 H F2' H'->∃ F',RK H' b F' s t'∧Up F H F' H':=by
 have an:=h.lt;obtain ⟨sb,tb,F1,F2,rfl,h1,h2,h3,hB,hS,hT⟩:=h;refine ⟨tb,F2,hB.cell 1,hT,fun x hx=>by simp [hx],h2,fun H' F2' t' IW hu=>⟨b :: (F1++F2'),⟨sb,tb,F1,F2',rfl,h1,fun hx=>?_,fun x hx s7=>?_,hB.fr hu.1 h2,hS.fr hu.1 h3,IW⟩,hu.1.mono fun x hx=>by simp [hx],fun x hx=>?_⟩⟩
 ·rcases hu.2 b hx with h4 | h4
  ·exact h2 h4
  ·have:=an b (by simp);omega
 ·rcases hu.2 x s7 with h4 | h4
  ·exact h3 x hx h4
  ·have:=an x (by simp [hx]);omega
 ·rcases Rk.1 hx with rfl | hx
  ·exact .inl (by simp)
  ·rcases Rl.1 hx with hx | hx
   ·exact .inl (by simp [hx])
   ·exact (hu.2 x hx).imp (fun h4=>by simp [h4]) id
theorem RK.hp {H:ae}{b:Nat}{F:aB}{s:SP}{t:TB} (h:RK H b F s t):∃ sb hb F1,aj H ⟨b,0,none⟩=some (Cv sb)∧aj H ⟨sb,0,none⟩=some (Cv hb)∧de H hb F1 s.h∧(∀ x∈F1,x∈F)∧b∉F1 ∧
  ∀ H' F1' r',de H' hb F1' r'->Up F1 H F1' H'->∃ F',RK H' b F' { s with h:=r' } t∧Up F H F' H':=by
 obtain ⟨sb,F1,hc,hS,b9,ui,pp⟩:=h.sp;obtain ⟨hb,F2,hR,c0,_,q8,_,Dt⟩:=hS.upd;refine ⟨sb,hb,F2,hc,c0,hR,fun x hx=>b9 x (q8 x hx),fun hm=>ui (q8 _ hm),fun H' F1' r' EW hu=>?_⟩;obtain ⟨F3,GV,GX⟩:=Dt H' F1' r' EW hu;exact pp H' F3 _ GV GX
def oo (t:TB) (w:Int):ByteArray:=if Int.tmod w 4≠2 then ⟨#[]⟩ else if h:0<=(w-2) / 4∧(w-2) / 4<t.texts.length then t.texts[((w-2) / 4).toNat]'(by omega) else ⟨#[]⟩
theorem lN {t:TB} (hw:WFT t){n:Nat} (h:n<t.texts.length):oo t (cC n)=tx t n:=by
 unfold oo cC;have e:(4*(n:Int)+2-2) / 4=n:=by omega
 rw [Re (by rw [Sz (by omega)];omega)];rw [dif_pos (by omega)];unfold tx;rw [RQ,RB h];simp only [Tq]
 congr 1
 omega
section
variable {H:ae}{b:Nat}{F:aB}{s:SP}{t:TB}{Q:QT}
theorem jj (hK:RK H b F s t){o i:Int} (h:Q (ac (kslot s.h o i)) H):ag PP 73 #[Cv b,ac o,ac i] Q H:=by
 obtain ⟨sb,hb,F1,hc,c0,hR,_⟩:=hK.hp;apply zT;dsimp only [aA,aQ,ac,ao,am];exact ⟨_,rfl,_,hc,_,rfl,_,c0,t7 hR ⟨_,_,rfl,h⟩⟩
theorem uU (hK:RK H b F s t){w:Int} (hw:qW w) (h:Q (.string (oo t w)) H):ag PP 128 #[Cv b,ac w] Q H:=by
 apply yu;dsimp only [ah,dV,aQ,ac,ao,am,bh,aI];unfold oo at h;rw [bw,af];refine ba (fun h1=>?_) fun h1=>?_
 ·rw [Rj h1] at h;exact h
 rw [Re h1] at h;obtain ⟨tb,F2,hc,hT,_⟩:=hK.tb;have CW:=hw.1;have Gk:=hw.2;have h2:Int.tmod w 4=2:=RE h1;have DG:0<=w:=by
  rcases Int.lt_or_le w 0 with h3 | h3
  ·exfalso;have h4:Int.tmod w 4<=0:=by
    have e:w=-(-w):=by omega
    rw [e,Int.neg_tmod,Sz (by omega)];omega
   omega
  ·exact h3
 have hm:w % 4=2:=by rw [←h2,Sz DG]
 have e1:IntKind.wrap .i64 (w-2)=w-2:=ai (by omega) (by omega);have e2:Int.tdiv (w-2) 4=(w-2) / 4:=SQ (by omega);have e3:IntKind.wrap .i64 ((w-2) / 4)=(w-2) / 4:=ai (by omega) (by omega);rw [e1,e2,e3];refine ⟨_,rfl,_,hc,sk hT ?_⟩;unfold kK;split at h
 ·rename_i h5;rw [dif_pos h5];exact ⟨_,_,rfl,h⟩
 ·rename_i h5;rw [dif_neg h5];exact ⟨_,_,rfl,h⟩
theorem iS (hK:RK H b F s t){o:Int} (h:∀ a l c G H',bZ 1 H' a l c (au (kwords s.h o)) G->Fr [] H H'->(∀ x∈G,H.size<=x)->Q (.slice a l c) H'):ag PP 72 #[Cv b,ac o] Q H:=by
 have hU:aY PP 44=some (1,8,some (ac 0)):=by kernel_rfl
 have Fo:=kF (r:=s.h) o;have E7:=rS hK.wfs.h o;apply zQ;dsimp only [bf,aH,ah,cd,aZ,aQ,ac,dq,ax,bt,ao,am,bg,bE,aI];obtain ⟨sb,hb,F1,hc,c0,hR,_⟩:=hK.hp;refine ⟨_,rfl,_,hc,_,rfl,_,c0,oS hR ⟨_,_,_,rfl,?_⟩⟩;show ∃(I11:List Value->ae->Prop) (μ11:List Value->ae->Nat),I11 [.slice none 0 0,ac 0] H∧∀ w12 H2,I11 w12 H2->∀ _g:Nat->Value,∃ a13:Option Addr,∃ l13:Nat,∃ c13:Nat,∃ n14:Int,w12=[.slice a13 l13 c13,ac n14]∧cond (decide (n14<ksize s.h o)) _ _;refine ⟨fun w H'=>∃(i:Nat) (a:Option Addr) (l' c:Nat) (G:aB),w=[.slice a l' c,ac i]∧(i:Int)<=ksize s.h o∧bZ 1 H' a l' c (au ((kwords s.h o).take i)) G∧Fr [] H H'∧(∀ x∈G,H.size<=x),fun w _=>match w with
  | [_,.int _ i]=>(ksize s.h o-i).toNat
  | _=>0,⟨0,none,0,0,[],rfl,Fo,by simpa [au] using bZ.nil 1 H,Fr.refl _ _,by simp⟩,?_⟩
 rintro w H1 ⟨i,a1,l1,c1,G,rfl,hi,ho,cp,hG⟩ _;have b8:(kwords s.h o).length=(ksize s.h o).toNat:=by simp [kwords]
 have Ek:l1=i:=by have:=ho.len;simp only [au,RZ,R5] at this;omega
 refine ⟨_,_,_,_,rfl,?_⟩;rw [af];refine ba (fun an=>?_) fun an=>?_
 ·have lp:(kwords s.h o).take (i+1)=(kwords s.h o).take i++[kslot s.h o i]:=by
   rw [RP,RB (by omega)];simp [kwords]
  have e:IntKind.wrap .i64 ((i:Int)+1)=((i+1:Nat):Int):=by rw [ai (by omega) (by omega)];omega
  refine jj (hK.nil cp) ⟨_,rfl,?_⟩;refine bD hU rfl (by kernel_rfl) ho rfl (by simp [dw]) (by omega) (by decide) (by decide) fun a' c' G2 H3 g1 g2 g3=>⟨_,_,_,rfl,?_⟩;have p5:=Up.fresh cp g2 hG;rw [e];refine ⟨⟨i+1,a',l1+1,c',G2,rfl,by omega,?_,p5.1,p5.2⟩,by simp;omega⟩;rw [lp,bJ];exact g1
 ·rw [RJ (by omega)] at ho;exact h _ _ _ _ H1 ho cp hG
end
theorem dT {o:Int} (h:1<=o):cZ (4*o)=o:=by
 unfold cZ;rw [Rj (by omega)];omega
theorem dh {n:Int} (h0:-1000000000000<=n) (h1:n<=1000000000000):qW n:=⟨by omega,by omega⟩
section
variable {H:ae}{b:Nat}{F:aB}{s:SP}{t:TB}{v:KV}{Q:QT}
theorem qO (hK:RK H b F s t) (hv:KS s v){i:Int}{x:Int} (hx:kslot s.h 19 i=4*x) (h0:1<=x) (h1:x<=65536){Q:QT} (h:Q (ac x) H) :
  ag PP 73 #[Cv b,ac 19,ac i] (fun v2 H1=>∃ n3:Int,v2=ac n3∧ag PP 15 #[ac n3] Q H1) H:=by
 refine jj hK ⟨_,rfl,?_⟩;rw [hx];refine cq (dh (by omega) (by omega)) ?_;rw [dT h0];exact h
theorem KS.s0 (h:KS s v):kslot s.h 19 0=4*v.clsA∧1<=v.clsA∧v.clsA<=65536:=by
 have hb:=h.view.all.bnd h.wf.h;exact ⟨h.view.root.kslot (i:=0) (by simp [KV.rootW]),hb.1,hb.2.1⟩
theorem KS.s1 (h:KS s v):kslot s.h 19 1=4*v.globA∧1<=v.globA∧v.globA<=65536:=by
 have hb:=h.view.globs.bnd h.wf.h;exact ⟨h.view.root.kslot (i:=1) (by simp [KV.rootW]),hb.1,hb.2.1⟩
def ia (v:KV):List Int:=v.cls.map (·.oop)
theorem yC (hK:RK H b F s t) (hv:KS s v) (h:∀ a l c G H',bZ 1 H' a l c (au (ia v)) G->Fr [] H H'->(∀ x∈G,H.size<=x)->Q (.slice a l c) H'):ag PP 181 #[Cv b] Q H:=by
 have hU:aY PP 109=some (1,8,some (ac 0)):=by kernel_rfl
 have DA:=hv.shape.many1;obtain ⟨e0,b0,b1⟩:=KS.s0 hv;apply xL;dsimp only [bf,aH,cG,ah,aZ,aM,bl,ac,bm,dq,ax,bt,am,bg,bE,aI];refine qO hK hv e0 b0 b1 ⟨_,rfl,iS hK fun aw lw cw Gw H0 DE IZ Fg=>⟨_,_,_,rfl,?_⟩⟩;rw [show kwords s.h v.clsA=v.clsW from hv.view.all.kwords] at DE;have Qa:lw=v.cls.length:=by have:=DE.len;simpa [au,KV.clsW] using this.symm
 have b8:(ia v).length=v.cls.length:=by simp [ia]
 refine ⟨fun w H'=>∃(i:Nat) (a:Option Addr) (l' c:Nat) (G:aB),w=[.slice a l' c,ac i]∧i<=v.cls.length∧bZ 1 H' a l' c (au ((ia v).take i)) G∧Fr [] H0 H'∧(∀ x∈G,H0.size<=x),fun w _=>match w with
  | [_,.int _ i]=>(v.cls.length-i).toNat
  | _=>0,⟨0,none,0,0,[],rfl,RL _,by simpa [au] using bZ.nil 1 H0,Fr.refl _ _,by simp⟩,?_⟩
 rintro w H1 ⟨i,a1,l1,c1,G,rfl,hi,ho,cp,hG⟩ _;have Ek:l1=i:=by have:=ho.len;simp only [au,RZ,R5] at this;omega
 refine ⟨_,_,_,_,rfl,?_⟩;rw [af];refine ba (fun an=>?_) fun an=>?_
 ·have cx:i<v.cls.length:=by omega
  obtain ⟨p,rfl,al,ap⟩:=(DE.rd.fr' cp (by simp)).int (i:=(i:Int)) (by omega) an;rw [Ro] at al ap;have hx:v.clsW.getD i 0=4*(v.cls[i]).oop:=by simp [KV.clsW,cx]
  rw [hx] at al;have hb:=qH hv cx;have lp:(ia v).take (i+1)=(ia v).take i++[(v.cls[i]).oop]:=by
   rw [RP,RB (by omega)];simp [ia]
  have e:IntKind.wrap .i64 ((i:Int)+1)=((i+1:Nat):Int):=by rw [ai (by omega) (by omega)];omega
  refine ⟨⟨by omega,an⟩,_,rfl,_,by rw [Ro,Rn];exact al,cq (dh (by omega) (by omega)) ⟨_,rfl,?_⟩⟩;rw [dT hb.1];refine bD hU rfl (by kernel_rfl) ho rfl (by simp [dw]) (by omega) (by decide) (by decide) fun a' c' G2 H3 g1 g2 g3=>⟨_,_,_,rfl,?_⟩;have p5:=Up.fresh cp g2 hG;rw [e];refine ⟨⟨i+1,a',l1+1,c',G2,rfl,by omega,?_,p5.1,p5.2⟩,by simp;omega⟩;rw [lp,bJ];exact g1
 ·rw [RJ (by omega)] at ho;exact h _ _ _ _ H1 ho (IZ.trans cp) fun x hx=>Rr IZ.1 (hG x hx)
theorem sf {a:Option Addr}{l c:Nat}{G:aB} (ho:bZ 1 H a l c (au (ia v)) G){H':ae} (hf:Fr [] H H'){i:Nat} (hi:i<v.cls.length):∃ p,a=some p∧aj H' (p.add (i*1))=some (ac (v.cls[i]).oop):=by
 have hl:l=v.cls.length:=by have:=ho.len;simpa [au,ia] using this.symm
 obtain ⟨p,hp,al,ap⟩:=(ho.rd.fr' hf (by simp)).int (i:=(i:Int)) (by omega) (by omega);rw [Ro] at al;refine ⟨p,hp,?_⟩;rw [Rn,al];simp [ia,hi]
def lY (v:KV) (o:Int):Int:=match yN v o with
 | some i=>(i:Int)+1
 | none=>0
theorem BZ (hK:RK H b F s t) (hv:KS s v){o:Int} (h:∀ H',Fr [] H H'->Q (ac (lY v o)) H'):ag PP 210 #[Cv b,ac o] Q H:=by
 have DA:=hv.shape.many1;apply vO;dsimp only [cG,ah,bA,aZ,aM,bl,ac,bm,ce,bt,am,az,aI];refine yC hK hv fun a l c G H1 ho cp hG=>⟨_,_,_,rfl,?_⟩;have hl:l=v.cls.length:=by have:=ho.len;simpa [au,ia] using this.symm
 refine ⟨fun w H'=>H'=H1∧∃ i:Nat,w=[ac i]∧i<=v.cls.length∧∀ j (hj:j<v.cls.length),j<i->(v.cls[j]).oop≠o,fun w _=>match w with
  | [.int _ i]=>(v.cls.length-i).toNat
  | _=>0,⟨rfl,0,rfl,RL _,fun j _ hj=>by omega⟩,?_⟩
 rintro w H2 ⟨rfl,i,rfl,hi,be⟩ _;refine ⟨_,rfl,?_⟩;rw [af];refine ba (fun an=>?_) fun an=>?_
 ·have cx:i<v.cls.length:=by omega
  obtain ⟨p,rfl,al⟩:=sf ho (Fr.refl _ _) cx;have e:IntKind.wrap .i64 ((i:Int)+1)=((i+1:Nat):Int):=by rw [ai (by omega) (by omega)];omega
  have hb:=(qH hv cx).1;refine ⟨⟨by omega,an⟩,_,rfl,_,by rw [Ro];exact al,?_⟩;rw [bq,af];refine ba (fun he=>?_) fun he=>?_
  ·rw [af,Rj (by omega),e]
   have:lY v o=((i+1:Nat):Int):=by
    unfold lY;rw [←he,hv.idx cx];simp
   rw [←this];exact h _ cp
  ·rw [e];refine ⟨⟨rfl,i+1,rfl,by omega,fun j hj EC=>?_⟩,by simp;omega⟩;rcases Sf j i with h5 | h5
   ·exact be j hj h5
   ·have:j=i:=by omega
    subst this;exact he
 ·have:lY v o=0:=by
   unfold lY;cases hp:yN v o with
   | none=>rfl
   | some j =>
    obtain ⟨hj,e⟩:=pL hp;exact absurd e (be j hj (by omega))
  rw [←this];exact h _ cp
theorem AO (hK:RK H b F s t) (hv:KAllW s t v){i:Nat} (hi:i<v.cls.length){Q:QT} (h:Q (.string (tx t (v.cls[i]).name)) H) :
  ag PP 73 #[Cv b,ac (v.cls[i]).oop,ac 0] (fun v2 H1=>∃ n3:Int,v2=ac n3∧ag PP 128 #[Cv b,ac n3] Q H1) H:=by
 have hn:=hv.names.name _ (RG hi);have h3:=hv.names.wf.m1;have h4:=hv.names.wf.len;refine jj hK ⟨_,rfl,?_⟩;rw [hv.ks.c0 hi];refine uU hK (dh (by unfold cC;omega) (by unfold cC;omega)) ?_;rw [lN hv.names.wf hn];exact h
theorem yX (hK:RK H b F s t) (hv:KAllW s t v){name:ByteArray} (h:∀ H',Fr [] H H'->Q (.tuple #[ac (fX v t name).1,ac (fX v t name).2]) H'):ag PP 127 #[Cv b,.string name] Q H:=by
 have DA:=hv.ks.shape.many1;apply xy;dsimp only [bk,aH,cG,cB,ah,aZ,aM,bl,ac,bm,ce,bt,am,aI];refine yC hK hv.ks fun a l c G H1 ho cp hG=>⟨_,_,_,rfl,?_⟩;have hl:l=v.cls.length:=by have:=ho.len;simpa [au,ia] using this.symm
 have DF:=hK.nil cp;refine ⟨fun w H'=>H'=H1∧∃ i:Nat,w=[ac i]∧i<=v.cls.length∧∀ j (hj:j<v.cls.length),j<i->tx t (v.cls[j]).name≠name,fun w _=>match w with
  | [.int _ i]=>(v.cls.length-i).toNat
  | _=>0,⟨rfl,0,rfl,RL _,fun j _ hj=>by omega⟩,?_⟩
 rintro w H2 ⟨rfl,i,rfl,hi,yB⟩ _;refine ⟨_,rfl,?_⟩;rw [af];refine ba (fun an=>?_) fun an=>?_
 ·have cx:i<v.cls.length:=by omega
  obtain ⟨p,rfl,al⟩:=sf ho (Fr.refl _ _) cx;have e:IntKind.wrap .i64 ((i:Int)+1)=((i+1:Nat):Int):=by rw [ai (by omega) (by omega)];omega
  refine ⟨⟨by omega,an⟩,_,rfl,_,by rw [Ro];exact al,AO DF hv cx ⟨_,rfl,?_⟩⟩;rw [fm,af];refine ba (fun he=>?_) fun he=>?_
  ·have Im:fX v t name=((v.cls[i]).oop,0):=by
    unfold fX
    have:v.cls.findIdx? (fun c=>decide (tx t c.name=name))=some i:=by
     rw [S2];exact ⟨cx,by simpa using he,fun j hj=>by simpa using yB j (by omega) hj⟩
    rw [this];simp [cx]
   rw [Im] at h;exact ⟨⟨by omega,an⟩,_,rfl,_,by rw [Ro];exact al,h _ cp⟩
  ·rw [e];refine ⟨⟨rfl,i+1,rfl,by omega,fun j hj EC=>?_⟩,by simp;omega⟩;rcases Sf j i with h1 | h1
   ·exact yB j hj h1
   ·have:j=i:=by omega
    subst this;exact he
 ·have Im:fX v t name=(0,130):=by
   unfold fX
   have:v.cls.findIdx? (fun c=>decide (tx t c.name=name))=none:=by
    rw [Ti];intro c hc;obtain ⟨j,hj,rfl⟩:=hv.ks.view.idx hc;simpa using yB j hj (by omega)
   rw [this]
  rw [Im] at h;exact h _ cp
theorem BX (hK:RK H b F s t) (hv:KAllW s t v){w:Int} (h:Q (.tuple #[ac (ov s.h w).1,ac (ov s.h w).2]) H):ag PP 154 #[Cv b,ac w] Q H:=by
 have hk:=bN w;apply wE;dsimp only [bk,bK,aH,ah,aA,aQ,ac,sx,ao,am];unfold ov at h;refine ⟨fun x H'=>x=[]∧H'=H∧bT w≠1,oA ⟨_,rfl,?_⟩,?_⟩
 ·rw [af];refine ba (fun h1=>?_) fun h1=>⟨rfl,rfl,fun e=>h1 (by unfold d8;omega)⟩;rw [bw,af];refine ba (fun h2=>?_) fun h2=>⟨rfl,rfl,fun e=>h2 ?_⟩
  ·have h3:bT w=1:=by
    have h4:w % 2≠0:=fun e=>h2 (Int.dvd_iff_tmod_eq_zero.1 (Int.dvd_of_emod_eq_zero e));unfold d8 at h1;omega
   rw [Rj h3] at h;exact h
  ·intro e2;have h4:w % 2=0:=Int.emod_eq_zero_of_dvd (Int.dvd_of_tmod_eq_zero e2);omega
 rintro x H1 ⟨rfl,rfl,h1⟩ _;rw [Re h1] at h;refine ⟨rfl,oA ⟨_,rfl,?_⟩⟩;rw [←decide_not,af];refine ba (fun h2=>?_) fun h2=>?_
 ·rw [Re (by unfold d8 at h2;omega),Re (by unfold d8 at h2;omega)] at h;exact h
 have hw:d8 w:=RE h2;unfold d8 at hw;have DG:0<=w:=by omega
 rw [bq,af,Sz DG];refine ba (fun h3=>?_) fun h3=>?_
 ·rw [Rj (by omega)] at h;exact h
 have Ji:bT w=3:=by omega
 rw [Re (by omega),Rj Ji] at h;obtain ⟨sb,hb,F1,hc,c0,hR,_⟩:=hK.hp;have Nu:cZ w=w / 4:=by unfold cZ;rw [Rj (by omega)]
 refine ⟨_,rfl,_,hc,_,rfl,_,c0,cq (dh (by omega) (by omega)) ⟨_,rfl,⟨⟨c0,trivial⟩,⟨hc,trivial⟩,trivial⟩,jW hR ?_⟩⟩;rw [Nu];unfold RH.clsAt at h ⊢;cases ho:aG s.h.objs (w / 4) with
 | none=>rw [ho] at h;exact ⟨_,_,rfl,trivial,h⟩
 | some x =>
  rw [ho] at h;refine ⟨_,_,rfl,trivial,?_⟩;have r0:=hv.ks.gc x (aN ho).1;have EF:=bN x.cls;simp only [show ((0:Int) != 0)=false from rfl,Rh];refine cq (dh (by omega) (by omega)) ⟨_,rfl,?_⟩;have Nv:cZ x.cls=x.cls / 4:=by unfold cZ;rw [Rj (by omega)]
  rw [Nv];simp only [rB,Rj r0] at h;exact h
end
section
variable {H:ae}{b:Nat}{F:aB}{s:SP}{t:TB}{v:KV}{Q:QT}
theorem iR (hK:RK H b F s t) (hv:KAllW s t v) (h:∀ a l c G H',bZ 1 H' a l c (bF (cy v t)) G->Fr [] H H'->(∀ x∈G,H.size<=x)->Q (.slice a l c) H'):ag PP 69 #[Cv b] Q H:=by
 have hU:aY PP 73=some (1,16,some (.string (⟨#[]⟩:ByteArray))):=by kernel_rfl
 have hg:=hv.ks.shape.globs;obtain ⟨e0,b0,b1⟩:=KS.s1 hv.ks;have h3:=hv.names.wf.m1;have h4:=hv.names.wf.len;apply zJ;dsimp only [bf,aH,cG,cB,ah,aZ,aM,bl,ac,bm,dq,ax,bt,am,bg,bE,bh,aI];refine qO hK hv.ks e0 b0 b1 ⟨_,rfl,iS hK fun aw lw cw Gw H0 DE IZ Fg=>⟨_,_,_,rfl,?_⟩⟩;rw [show kwords s.h v.globA=bC v.glob from hv.ks.view.globs.kwords] at DE;have D8:=eX v.glob;have Qa:lw=2*v.glob.length:=by have:=DE.len;simp only [au,RZ,D8] at this;omega
 have b8:(cy v t).length=v.glob.length:=by simp [cy]
 refine ⟨fun w H'=>∃(i:Nat) (a:Option Addr) (l' c:Nat) (G:aB),w=[.slice a l' c,ac (2*i:Nat)]∧i<=v.glob.length∧bZ 1 H' a l' c (bF ((cy v t).take i)) G∧Fr [] H0 H'∧(∀ x∈G,H0.size<=x),fun w _=>match w with
  | [_,.int _ i]=>(2*v.glob.length-i).toNat
  | _=>0,⟨0,none,0,0,[],rfl,RL _,by simpa [bF] using bZ.nil 1 H0,Fr.refl _ _,by simp⟩,?_⟩
 rintro w H1 ⟨i,a1,l1,c1,G,rfl,hi,ho,cp,hG⟩ _;have Ek:l1=i:=by have:=ho.len;simp only [bF,RZ,R5] at this;omega
 refine ⟨_,_,_,_,rfl,?_⟩;have ew:IntKind.wrap .i64 (((2*i:Nat):Int)+1)=((2*i:Nat):Int)+1:=ai (by omega) (by omega);rw [ew,af];refine ba (fun an=>?_) fun an=>?_
 ·have cx:i<v.glob.length:=by omega
  obtain ⟨p,rfl,al,ap⟩:=(DE.rd.fr' cp (by simp)).int (i:=((2*i:Nat):Int)) (by omega) (by omega);rw [Ro] at al ap;have hx:(bC v.glob).getD (2*i) 0=cC v.glob[i].1:=by
   rw [RQ,(na cx).1];rfl
  rw [hx] at al;have hn:=hv.names.glob _ (RG cx);have lp:(cy v t).take (i+1)=(cy v t).take i++[tx t v.glob[i].1]:=by
   rw [RP,RB (by omega)];simp [cy]
  have e:IntKind.wrap .i64 (((2*i:Nat):Int)+2)=((2*(i+1):Nat):Int):=by rw [ai (by omega) (by omega)];omega
  refine ⟨⟨by omega,by omega⟩,_,rfl,_,by rw [Ro,Rn];exact al,uU (hK.nil (IZ.trans cp)) (dh (by unfold cC;omega) (by unfold cC;omega)) ⟨_,rfl,?_⟩⟩;rw [lN hv.names.wf hn];refine bD hU rfl (by kernel_rfl) ho rfl (by simp [dw]) (by omega) (by decide) (by decide) fun a' c' G2 H3 g1 g2 g3=>⟨_,_,_,rfl,?_⟩;have p5:=Up.fresh cp g2 hG;rw [e];refine ⟨⟨i+1,a',l1+1,c',G2,rfl,by omega,?_,p5.1,p5.2⟩,by simp;omega⟩;rw [lp,dY];exact g1
 ·rw [RJ (by omega)] at ho;exact h _ _ _ _ H1 ho (IZ.trans cp) fun x hx=>Rr IZ.1 (hG x hx)
theorem sv (hK:RK H b F s t) (hv:KAllW s t v){n:Int} (h:∀ H',Fr [] H H'->Q (.tuple #[ac (gm v n).1,ac (gm v n).2]) H'):ag PP 78 #[Cv b,ac n] Q H:=by
 have hg:=hv.ks.shape.globs;obtain ⟨e0,b0,b1⟩:=KS.s1 hv.ks;apply z6;dsimp only [bk,aH,cG,ah,aZ,ac,am,aI];unfold gm at h;rw [af];refine ba (fun h1=>?_) fun h1=>?_
 ·rw [dif_neg (by omega)] at h;exact h _ (Fr.refl _ _)
 refine iR hK hv fun a l c G H1 ho hf hG=>⟨_,_,_,rfl,?_⟩;have hl:l=v.glob.length:=by have:=ho.len;simpa [bF,cy] using this.symm
 rw [af];refine ba (fun h2=>?_) fun h2=>?_
 ·rw [dif_neg (by omega)] at h;exact h _ hf
 rw [dif_pos (by omega)] at h;have e:IntKind.wrap .i64 (IntKind.wrap .i64 (2*n)+1)=((2*n.toNat+1:Nat):Int):=by rw [ai (n:=2*n) (by omega) (by omega),ai (by omega) (by omega)];omega
 refine qO (hK.nil hf) hv.ks e0 b0 b1 ⟨_,rfl,?_⟩;rw [e];refine jj (hK.nil hf) ⟨_,rfl,?_⟩;rw [(hv.ks.globAt (by omega)).2];exact h _ hf
theorem rz (hK:RK H b F s t) (hv:KAllW s t v){n w:Int} (h:∀ H' F',RK H' b F' (cU s v n w).2 t->Up F H F' H'->Q (ac (cU s v n w).1) H'):ag PP 20 #[Cv b,ac n,ac w] Q H:=by
 have hg:=hv.ks.shape.globs;obtain ⟨e0,b0,b1⟩:=KS.s1 hv.ks;apply Ak;dsimp only [bK,aH,ah,aA,aQ,ac,ao,am,aI];unfold cU at h;refine sv hK hv fun H1 cp=>⟨_,_,rfl,?_⟩;unfold gm;by_cases hn:0<=n∧n<v.glob.length
 ·rw [dif_pos hn];rw [Re (by omega)] at h;simp only [show ((0:Int) != 0)=false from rfl,Rh];have DF:=hK.nil cp;refine oA ⟨_,rfl,?_⟩;rw [←decide_not,af];refine ba (fun hw=>?_) fun hw=>?_
  ·rw [Rj hw] at h;exact h _ _ DF (Up.of_nil cp)
  rw [Re hw] at h;obtain ⟨sb,hb,F1,hc,c0,hR,b9,_,pp⟩:=DF.hp;refine ⟨_,rfl,_,hc,_,rfl,_,c0,jj DF ⟨_,rfl,⟨⟨c0,trivial⟩,⟨hc,trivial⟩,trivial⟩,?_⟩⟩;rw [e0];refine cq (dh (by omega) (by omega)) ⟨_,rfl,⟨⟨c0,trivial⟩,⟨hc,trivial⟩,trivial⟩,?_⟩;have e:IntKind.wrap .i64 (IntKind.wrap .i64 (2*n)+1)=2*n+1:=by rw [ai (n:=2*n) (by omega) (by omega),ai (by omega) (by omega)]
  rw [dT b0,e];refine lV hR fun H4 GQ p3=>⟨_,rfl,trivial,?_⟩;obtain ⟨F',DV,hu⟩:=pp H4 F1 _ GQ ⟨p3,fun x hx=>.inl hx⟩;exact h _ _ DV ((Up.of_nil cp).trans hu)
 ·rw [dif_neg hn];rw [Rj (by omega)] at h;simp only [show ((1:Int) != 0)=true from rfl,Rs];exact h _ _ (hK.nil cp) (Up.of_nil cp)
theorem vQ (hK:RK H b F s t) (hv:KAllW s t v){name:ByteArray} (h:∀ H',Fr [] H H'->Q (.bool (decide (gn v t name))) H'):ag PP 68 #[Cv b,.string name] Q H:=by
 have hg:=hv.ks.shape.globs;apply zE;dsimp only [bx,cG,ah,aA,aZ,fE,bl,ac,bm,ce,bt,am,bh,aI];refine yX hK hv fun H1 cp=>⟨_,_,rfl,iR (hK.nil cp) hv fun a l c G H2 ho g9 hG=>⟨_,_,_,rfl,?_⟩⟩;have s4:=cp.trans g9;have hl:l=(cy v t).length:=by have:=ho.len;simpa [bF] using this.symm
 have DI:(cy v t).length=v.glob.length:=by simp [cy]
 refine ⟨fun w H'=>H'=H2∧∃ i:Nat,w=[ac i]∧i<=l∧∀ j (hj:j<(cy v t).length),j<i->(cy v t)[j]≠name,fun w _=>match w with
  | [.int _ i]=>(l-i).toNat
  | _=>0,⟨rfl,0,rfl,RL _,fun j _ hj=>by omega⟩,?_⟩
 rintro w H3 ⟨rfl,i,rfl,hi,be⟩ _;refine ⟨_,rfl,?_⟩;rw [af];refine ba (fun an=>?_) fun an=>?_
 ·obtain ⟨p,ap,rfl,al⟩:=ho.rd.str (i:=(i:Int)) (by omega) an;simp only [Ro] at al ap;have e:IntKind.wrap .i64 ((i:Int)+1)=((i+1:Nat):Int):=by rw [ai (by omega) (by omega)];omega
  refine ⟨⟨by omega,an⟩,_,rfl,_,by rw [Ro,Rn];exact al,?_⟩;rw [fm,af];refine ba (fun he=>?_) fun he=>?_
  ·have:=h _ s4;rw [SB (show gn v t name from .inr (he ▸ RG ap))] at this;exact this
  ·rw [e];refine ⟨⟨rfl,i+1,rfl,by omega,fun j hj EC=>?_⟩,by simp;omega⟩;rcases Sf j i with h5 | h5
   ·exact be j hj h5
   ·have:j=i:=by omega
    subst this;exact he
 ·have yB:name∉cy v t:=fun hm=>by
   obtain ⟨j,hj,he⟩:=Sp hm;exact be j hj (by omega) he
  have:=h _ s4;have e:decide (gn v t name)=((fX v t name).2 == 0):=by
   rw [bq,decide_eq_decide];unfold gn;exact ⟨fun h=>h.resolve_right yB,.inl⟩
  rw [e] at this;exact this
end
def ER (H:ae) (b:Nat) (F:aB) (s:SP) (t:TB) (X:aB):Prop:=RK H b F s t∧eU H∧∀ x∈X,x∉F∧x≠gP
theorem ER.up {H H':ae}{b:Nat}{F X X':aB}{s:SP}{t:TB} (h:ER H b F s t X) (u:Up X H X' H'):ER H' b F s t X':=by
 obtain ⟨hK,ht,hX⟩:=h;refine ⟨hK.fr u.1 (fun x hx hm=>(hX x hm).1 hx),ht.fr u.1 (fun hm=>(hX _ hm).2 rfl),fun x hx=>?_⟩;rcases u.2 x hx with h1 | h1
 ·exact hX x h1
 ·have h3:=ht.lt;exact ⟨fun hf=>by have:=hK.lt x hf;omega,by omega⟩
theorem ER.nil {H H':ae}{b:Nat}{F X:aB}{s:SP}{t:TB} (h:ER H b F s t X) (f:Fr [] H H'):ER H' b F s t X:=h.up (ua f)
def RW (H:ae) (wb b:Nat) (L:LW) (X:aB):Prop:=∃ a l c G1,X=wb :: G1∧wb∉G1∧bW H wb #[Cv b,.slice a l c,.bool L.more]∧bZ 1 H a l c (au L.order) G1
theorem RW.k {H:ae}{wb b:Nat}{L:LW}{X:aB} (h:RW H wb b L X):aj H ⟨wb,0,none⟩=some (Cv b):=by
 obtain ⟨a,l,c,G1,rfl,h1,hB,hO⟩:=h;exact hB.cell 0
theorem RW.fr {H H':ae}{wb b:Nat}{L:LW}{X Y:aB} (h:RW H wb b L X) (f:Fr Y H H') (hd:∀ x∈X,x∉Y):RW H' wb b L X:=by
 obtain ⟨a,l,c,G1,rfl,h1,hB,hO⟩:=h;exact ⟨a,l,c,G1,rfl,h1,hB.fr f (hd _ (by simp)),hO.fr f fun x hx=>hd x (by simp [hx])⟩
theorem RW.nil {H H':ae}{wb b:Nat}{L:LW}{X:aB} (h:RW H wb b L X) (f:Fr [] H H'):RW H' wb b L X:=h.fr f (by simp)
theorem RW.lt {H:ae}{wb b:Nat}{L:LW}{X:aB} (h:RW H wb b L X):∀ x∈X,x<H.size:=by
 obtain ⟨a,l,c,G1,rfl,h1,hB,hO⟩:=h;intro x hx;simp only [Rk] at hx;rcases hx with rfl | hx
 ·exact hB.lt
 ·exact hO.lt x hx
section
variable {H:ae}{b wb:Nat}{F:aB}{s:SP}{t:TB}{v:KV}{Q:QT}{G:Int->Prop}{L:LW}{X:aB}
theorem x9 (hK:RK H b F s t){o:Int} (h:Q (ac (ksize s.h o)) H):ag PP 161 #[Cv b,ac o] Q H:=by
 obtain ⟨sb,hb,F1,hc,c0,hR,_⟩:=hK.hp;apply xm;dsimp only [cd,aQ,ac,ao,am];exact ⟨_,rfl,_,hc,_,rfl,_,c0,oS hR ⟨_,_,_,rfl,h⟩⟩
theorem vf (hK:RK H b F s t){o i:Int} (h:Q (ac (kslot s.h o i)) H):ag PP 160 #[Cv b,ac o,ac i] Q H:=by
 obtain ⟨sb,hb,F1,hc,c0,hR,_⟩:=hK.hp;apply wg;dsimp only [aA,aQ,ac,ao,am];exact ⟨_,rfl,_,hc,_,rfl,_,c0,t7 hR ⟨_,_,rfl,h⟩⟩
theorem sB (hK:RK H b F s t){n:Nat} (hn:n<t.texts.length) (h:Q (.string (tx t n)) H):ag PP 192 #[Cv b,ac (cC n)] Q H:=by
 have h1:=hK.wft.m1;have h2:=hK.wft.len;have hk:bT (cC n)=2:=by unfold cC bT;rw [Re (by omega),Rj (by omega)]
 obtain ⟨tb,F2,hc,hT,_⟩:=hK.tb;apply yq;dsimp only [ah,aA,dV,aQ,ac,ao,am,bh,az];apply vy;dsimp only [bk,aH,ah,ac,aI];refine fg ⟨_,rfl,?_⟩;rw [hk];simp only [show ((2:Int) != 2)=false from rfl,Rh];refine ⟨_,_,rfl,?_⟩;simp only [show ((0:Int) != 0)=false from rfl,Rh];have e:IntKind.wrap .i64 (Int.tdiv (IntKind.wrap .i64 (cC n-2)) 4)=(n:Int):=by
  unfold cC;rw [ai (n:=4*(n:Int)+2-2) (by omega) (by omega),iL,Rj (by omega),ai (by omega) (by omega)];omega
 rw [e];refine ⟨_,rfl,_,hc,sk hT ?_⟩;unfold kK;rw [dif_pos ⟨by omega,by omega⟩];refine ⟨_,_,rfl,?_⟩;have e2:t.texts[(n:Int).toNat]'(by omega)=tx t n:=by
  unfold tx;rw [RQ,RB hn];rfl
 rw [e2];simp only [show ((0:Int) != 0)=false from rfl,Rh];exact h
theorem yh (hK:RK H b F s t) (hv:KAllW s t v) (h:Q (.string (ic v t)) H):ag PP 155 #[Cv b,ac 11] Q H:=by
 obtain ⟨h7,e1,e2,hn,_⟩:=jk hv;have ha:=hv.ks.view.cls h7;rw [e1] at ha;apply vL;dsimp only [aH,cB,ac,am,bh];refine vf hK ⟨_,rfl,?_⟩;have e3:kslot s.h 11 0=cC (v.cls[7]).name:=ha.kslot (i:=0) (by simp [CV.slots]);rw [e3];refine sB hK hn ⟨_,rfl,?_⟩;rw [←e2];exact h
theorem uh (hK:RK H b F s t) (hT:TX s t v G){w:Int} (hw:ph G w) (h:Q (if w=4 then .tuple #[.string xP,.bool true] else .tuple #[.string ⟨#[]⟩,.bool false]) H):ag PP 153 #[Cv b,ac w] Q H:=by
 apply xO;dsimp only [bx,aH,cB,ah,aA,dV,bA,aQ,ac,ao,am,bh,az,bn];by_cases h4:w=4
 ·rw [Rj h4] at h;subst h4;refine fg ⟨_,rfl,?_⟩;simp only [show (bT 4 == 1)=false from by decide,show (bT 4 == 2)=false from by decide,Rh];refine cq (by unfold qW;omega) ⟨_,rfl,?_⟩;simp only [show (cZ 4 == 1)=true from by decide,Rs];exact h
 ·rw [Re h4] at h;obtain ⟨o,rfl,ho⟩:=hw.resolve_left h4;obtain ⟨o1,o2,l,C0,_⟩:=hT.obj o ho;have hk:bT (4*o)=3:=by have:=bN (4*o);omega
  have e:cZ (4*o)=o:=by unfold cZ;rw [Rj (by omega)];omega
  refine fg ⟨_,rfl,?_⟩;rw [hk];simp only [show ((3:Int) == 1)=false from by decide,show ((3:Int) == 2)=false from by decide,Rh];refine cq (by unfold qW;omega) ⟨_,rfl,?_⟩;rw [e,bq,bq,bq];refine cM (fun hx=>absurd hx (by omega)) fun _=>cM (fun hx=>absurd hx (by omega)) fun _=>cM (fun hx=>absurd hx (by omega)) fun _=>?_;refine BX hK hT.hv ⟨_,_,rfl,?_⟩;rw [oI o1 o2 C0];exact h
theorem oE (hE:ER H b F s t X) (hT:TX s t v G) (hL:RW H wb b L X) (hO:L.Ok G){w:Int} (hw:ph G w)
  (h:∀ H' X',RW H' wb b (L.form w).2 X'->Up X H X' H'->Q (.string (L.form w).1) H'):ag PP 88 #[Cv wb,ac w] Q H:=by
 have b8:=hO.len;have hU:aY PP 109=some (1,8,some (ac 0)):=by kernel_rfl
 apply zC;dsimp only [bf,bx,aH,cB,ah,fU,bA,aZ,aM,aO,aQ,bl,ac,bm,ce,ax,bt,ao,am,bg,bE,bh,az,bi,aI];refine ⟨_,rfl,_,hL.k,uh hE.1 hT hw ?_⟩;unfold LW.form at h;by_cases h4:w=4
 ·rw [Rj h4];simp only [Rj h4] at h;refine ⟨_,_,rfl,?_⟩;rw [Rs];exact h H X hL (Up.refl _ _)
 ·rw [Re h4];simp only [Re h4] at h;refine ⟨_,_,rfl,?_⟩;rw [Rh];obtain ⟨o,rfl,ho⟩:=hw.resolve_left h4;obtain ⟨o1,o2,_⟩:=hT.obj o ho;have e:4*o / 4=o:=by omega
  have e0:cZ (4*o)=o:=by unfold cZ;rw [Rj (by omega)];omega
  rw [e] at h;refine cq (by unfold qW;omega) ⟨_,rfl,?_⟩;rw [e0];have GZ:=hL;obtain ⟨a,l,c,G1,rfl,n1,hB,EM⟩:=hL;have hl:l=L.order.length:=by have:=EM.1;simpa [au] using this.symm
  have an:=GZ.lt;refine ⟨fun w' H'=>H=H'∧∃ i:Nat,w'=[ac i]∧i<=l∧∀ j (hj:j<L.order.length),j<i->L.order[j]≠o,fun w' _=>match w' with
   | [.int _ i]=>((l:Int)-i).toNat
   | _=>0,⟨rfl,0,rfl,RL _,fun j _ hj=>absurd hj (by omega)⟩,?_⟩
  rintro w' _ ⟨rfl,i,rfl,hi,yB⟩ _;refine ⟨_,rfl,_,rfl,_,_,_,hB.cell 1,cM (fun ap=>?_) fun DG=>?_⟩
  ·have e1:IntKind.wrap .i64 ((i:Int)+1)=(i:Int)+1:=ai (by omega) (by omega);have p8:i<L.order.length:=by omega
   obtain ⟨p,E1,Ed,_⟩:=EM.rd.int (i:=(i:Int)) (by omega) (by omega);have hg:L.order.getD (i:Int).toNat 0=L.order[i]:=by rw [Ro,RQ,RB p8];rfl
   rw [hg] at Ed;refine ⟨_,rfl,_,_,_,hB.cell 1,⟨by omega,ap⟩,_,E1,_,by rw [Rn];exact Ed,?_⟩;rw [e1,bq];refine cM (fun he=>?_) fun c9=>?_
   ·have hp:mI L.order o=some i:=uE p8 he yB;rw [hp] at h;simp only at h;have hz:=fw (n:=(i:Int)+1) (by omega) (by omega);refine kd hE.2.1 (by omega) (by omega) fun H' f=>⟨_,rfl,cj (cS ?_) (h H' _ (GZ.nil f) (ua f))⟩;show 1+_<=_;omega
   ·refine ⟨⟨rfl,i+1,by rw [Int.natCast_add];rfl,by omega,fun j hj EC=>?_⟩,by simp;omega⟩;by_cases Nw:j=i
    ·subst Nw;exact c9
    ·exact yB j hj (by omega)
  ·have hp:mI L.order o=none:=uy.2 fun hm=>by
    obtain ⟨j,hj,he⟩:=List.mem_iff_getElem.1 hm;exact yB j hj (by omega) he
   rw [hp] at h;simp only at h;refine ⟨_,rfl,_,_,_,hB.cell 1,cM (fun DG=>?_) fun DG=>?_⟩
   ·rw [Rj (by omega)] at h;have f1:Fr [wb] H (bc H ⟨wb,2,none⟩ (.bool true)):=Fr.set (by simp);exact ⟨_,rfl,hB.wr (o:=2) (by simp),h _ (wb :: G1) ⟨a,l,c,G1,rfl,n1,hB.set 2 (.bool true),EM.fr f1 fun x hx hm=>n1 (by rw [←Rg.1 hm];exact hx)⟩ ⟨f1.mono (by simp),fun x hx=>.inl hx⟩⟩
   ·rw [Re (by omega)] at h;refine ⟨_,rfl,_,_,_,hB.cell 1,?_⟩;refine bD hU rfl (by kernel_rfl) EM rfl (by simp [dw]) (by omega) (by decide) (by decide) fun a5 c5 G5 H5 o5 u5 _=>⟨_,_,_,rfl,_,rfl,?_⟩;have wbl:=an wb (by simp);have m2:wb∉G5:=fun hm=>(u5.2 _ hm).elim n1 fun h1=>by omega
    have B5:=hB.fr u5.1 n1;have f6:Fr [wb] H5 (bc H5 ⟨wb,1,none⟩ (.slice a5 (l+1) c5)):=Fr.set (by simp);refine ⟨B5.wr (o:=1) (by simp),?_⟩;have B6:=B5.set 1 (.slice a5 (l+1) c5);have o6:=o5.fr f6 fun x hx hm=>m2 (by rw [←Rg.1 hm];exact hx);have e6:(⟨wb,0,none⟩:Addr).add 1=⟨wb,1,none⟩:=rfl;rw [e6];generalize bc H5 ⟨wb,1,none⟩ (.slice a5 (l+1) c5)=H6 at f6 B6 o6 ⊢;refine ⟨_,rfl,_,_,_,B6.cell 1,?_⟩;have u7:Up (wb :: G1) H (wb :: G5) H6:=by
     refine ⟨(u5.1.mono fun x hx=>by simp [hx]).trans (f6.mono fun x hx=>by simp at hx;simp [hx]),fun x hx=>?_⟩;simp only [Rk] at hx ⊢;rcases hx with rfl | hx
     ·exact .inl (.inl rfl)
     ·exact (u5.2 x hx).imp (fun h1=>.inr h1) id
    have MX:=hE.up u7;have hz:=fw (n:=(L.order.length:Int)+1) (by omega) (by omega);have el:((l+1:Nat):Int)=(L.order.length:Int)+1:=by omega
    rw [el];refine kd MX.2.1 (by omega) (by omega) fun H8 f8=>⟨_,rfl,cj (cS ?_) (h H8 (wb :: G5) (RW.nil ⟨a5,l+1,c5,G5,rfl,m2,B6,?_⟩ f8) (u7.trans (ua f8)))⟩
    ·show 1+_<=_;omega
    ·have e7:au (L.order++[o])=au L.order++[ac o]:=by rw [bJ];rfl
     rw [e7];exact o6
end
theorem BT (x:ByteArray):(⟨#[]⟩:ByteArray)++x=x:=by
 refine ByteArray.ext ?_;simp
section
variable {H:ae}{b wb:Nat}{F:aB}{s:SP}{t:TB}{v:KV}{Q:QT}{G:Int->Prop}{L:LW}{X:aB}
theorem uu (hE:ER H b F s t X) (hT:TX s t v G) (hL:RW H wb b L X) (hO:L.Ok G){o:Int} (ho:G o)
  (h:∀ H' X',RW H' wb b (L.forms (ij s.h o)).2 X'->Up X H X' H'->Q (.string (eJ (L.forms (ij s.h o)).1)) H'):ag PP 158 #[Cv wb,ac o] Q H:=by
 obtain ⟨o1,o2,ws,C0,sz⟩:=hT.obj o ho;rw [jf C0] at h;have ha:=lJ C0;have hm:=(ha.bnd hE.1.wfs.h).2.2.1;have hF:∀ i,(L.forms (ws.take i)).2.Ok G∧(L.forms (ws.take i)).1.length=(ws.take i).length∧∀ x∈(L.forms (ws.take i)).1,x.size<=12:=fun i=>hO.forms _ fun w hw=>sz w (Sm hw);have hS:∀ i (hi:i<ws.length),L.forms (ws.take (i+1))=((L.forms (ws.take i)).1++[((L.forms (ws.take i)).2.form ws[i]).1],((L.forms (ws.take i)).2.form ws[i]).2):=fun i hi=>by
  rw [RP,RB hi];exact jh _ _ _
 apply x7;dsimp only [aH,cB,ah,bA,aZ,aQ,ac,pm,bt,ao,am,bh,az,aI];refine ⟨fun w' H'=>∃(i:Nat) (X':aB),w'=[.string (eJ (L.forms (ws.take i)).1),ac i]∧i<=ws.length∧RW H' wb b (L.forms (ws.take i)).2 X'∧Up X H X' H',fun w' _=>match w' with
  | [_,.int _ i]=>((ws.length:Int)-i).toNat
  | _=>0,⟨0,X,rfl,RL _,hL,Up.refl _ _⟩,?_⟩
 rintro w' H2 ⟨i,X2,rfl,hi,L2,u2⟩ _;have FV:=hE.up u2;refine ⟨_,_,rfl,_,rfl,_,L2.k,x9 FV.1 ⟨_,rfl,?_⟩⟩;rw [ha.ksize];have hj:=eZ _ (hF i).2.2;have Dx:=(hF i).2.1;simp only [R5] at Dx;refine cM (fun an=>?_) fun DG=>?_
 ·have p8:i<ws.length:=by omega
  have e1:IntKind.wrap .i64 ((i:Int)+1)=((i+1:Nat):Int):=by rw [ai (by omega) (by omega)];omega
  have ek:kslot s.h o (i:Int)=ws[i]:=ha.kslot p8;have hfz:=((hF i).1.form (sz _ (RG p8))).2;refine cM (fun p6=>?_) fun hzero=>?_
  ·refine cj (cS ?_) ⟨_,rfl,_,L2.k,vf FV.1 ⟨_,rfl,?_⟩⟩
   ·show _+1<=_;omega
   rw [ek];refine oE FV hT L2 (hF i).1 (sz _ (RG p8)) fun H3 X3 L3 u3=>⟨_,rfl,cj (cS ?_) ⟨⟨i+1,X3,?_,p8,?_,u2.trans u3⟩,by simp;omega⟩⟩
   ·rw [Rv];show _+1+_<=_;omega
   ·rw [hS i p8,e1];have c9:(L.forms (ws.take i)).1≠[]:=fun e=>by rw [e] at Dx;simp at Dx;omega
    rw [mA c9]
   ·rw [hS i p8];exact L3
  ·have Fa:i=0:=by omega
   refine ⟨_,rfl,_,L2.k,vf FV.1 ⟨_,rfl,?_⟩⟩;rw [ek];refine oE FV hT L2 (hF i).1 (sz _ (RG p8)) fun H3 X3 L3 u3=>⟨_,rfl,cj (cS ?_) ⟨⟨i+1,X3,?_,p8,?_,u2.trans u3⟩,by simp;omega⟩⟩
   ·omega
   ·have hn:(L.forms (ws.take i)).1=[]:=RM (by omega);rw [hS i p8,e1,hn,nM,BT,TS,nZ]
   ·rw [hS i p8];exact L3
 ·have DO:i=ws.length:=by omega
  have e2:ws.take i=ws:=by rw [DO];exact Sl
  rw [e2] at L2 ⊢;exact h H2 X2 L2 u2
theorem xh (hE:ER H b F s t X) (hT:TX s t v G) (hL:RW H wb b L X) (hO:L.Ok G){i:Nat} (hi:i<L.order.length)
  (h:∀ H' X',RW H' wb b (L.line (ic v t) i (ij s.h L.order[i])).2 X'->Up X H X' H'->Q (.string (L.line (ic v t) i (ij s.h L.order[i])).1) H'):ag PP 89 #[Cv wb,ac (i:Int)] Q H:=by
 obtain ⟨_,_,_,_,GJ⟩:=jk hT.hv;have ho:=hO.all _ (RG hi);obtain ⟨o1,o2,ws,C0,sz⟩:=hT.obj _ ho;have b8:=hO.len;have hF:=hO.forms (ij s.h L.order[i]) (by rw [jf C0];exact sz);have hj:=eZ _ hF.2.2;have hm:=hT.sok.many _ ho;have GZ:=hL;have an:=hL.lt;apply Au;dsimp only [bx,aH,cB,ah,aA,bA,aM,aO,aQ,bl,ac,bm,Be,ao,am,bh,az,aI];unfold LW.line at h;generalize Kf:ij s.h L.order[i]=so at h hF hj hm;obtain ⟨a,l,c,G1,rfl,n1,hB,EM⟩:=hL;have hl:l=L.order.length:=by have:=EM.1;simpa [au] using this.symm
 obtain ⟨p,E1,Ed,_⟩:=EM.rd.int (i:=(i:Int)) (by omega) (by omega);have hg:L.order.getD (i:Int).toNat 0=L.order[i]:=by rw [Ro,RQ,RB hi];rfl
 rw [hg] at Ed;have e1:IntKind.wrap .i64 ((i:Int)+1)=(i:Int)+1:=ai (by omega) (by omega);have hz:=fw (n:=(i:Int)+1) (by omega) (by omega);have c0:∀ {Hz:ae},Fr [] H Hz->aj Hz ⟨wb,0,none⟩=some (Cv b):=fun {Hz} f=>(GZ.nil f).k;refine ⟨_,rfl,_,_,_,hB.cell 1,⟨by omega,by omega⟩,_,E1,_,by rw [Rn];exact Ed,_,rfl,_,hB.cell 0,?_⟩;refine cu (by omega) ⟨_,rfl,⟨⟨hB.cell 0,trivial⟩,trivial⟩,BX hE.1 hT.hv ⟨_,_,rfl,trivial,_,rfl,_,hB.cell 0,?_⟩⟩;rw [oI o1 o2 C0,e1];refine kd hE.2.1 (by omega) (by omega) fun H3 f3=>⟨_,rfl,⟨⟨c0 f3,trivial⟩,trivial⟩,cj (cS ?_) (cj (cS ?_) ?_)⟩
 ·show 1+_<=_;omega
 ·rw [Rv];show 1+_+1<=_;omega
 have z1:(uT++vt ((i:Int)+1)++tS).size<=13:=by
  rw [Rv,Rv];show 1+_+1<=_;omega
 generalize (uT++vt ((i:Int)+1)++tS)=x1 at z1 h ⊢;have Ll:=hE.nil f3;refine yh Ll.1 hT.hv ⟨_,rfl,trivial,cj (cS (by omega)) ?_⟩;have z2:(x1++ic v t).size<=109:=by rw [Rv];omega
 generalize x1++ic v t=x2 at z2 h ⊢;refine ck (by decide) (fQ (by decide) (cj (cS ?_) ?_))
 ·show _+2<=_;omega
 refine uu Ll hT (GZ.nil f3) hO ho fun H7 X7 L7 u7=>⟨_,rfl,?_⟩;rw [Kf] at L7 ⊢;have h9:=h H7 X7 L7 ((ua f3).trans u7);have ex:x2++A9++eJ (L.forms so).1++A8=x2++(A9++eJ (L.forms so).1++A8):=by rw [SY,SY,SY]
 rw [ex];refine cj (cS ?_) (cj (cS ?_) h9)
 ·rw [Rv];show _+2+_<=_;omega
 ·rw [Rv,Rv];show _+2+_+1<=_;omega
end
end Go.Proofs.YtcfmnlapccgllaaGreatDoor
