/- Lemmas for RIM: functions of the program as predicate transformers, and their contracts. -/
import Derived.Test.YtcfmnlapccgllaaGreatDoorZIM3
import Derived.ProofKit
import Derived.Test.YtcfmnlapccgllaaGreatDoorCards
import Derived.Test.YtcfmnlapccgllaaGreatDoorTie
import Derived.LaidLaws
import Derived.Handed
import Derived.Lib.LaidU8
import Derived.Lib.LaidTab
set_option linter.all false
set_option maxRecDepth 100000
set_option maxHeartbeats 4000000
namespace Go.Proofs.YtcfmnlapccgllaaGreatDoor
open Kw
def gr (v:KV) (t:TB):List (ByteArray × Int):=v.glob.map fun p=>(tx t p.1,p.2)
theorem vm {s:SP}{t:TB}{v:KV}{G:Int->Prop} (hT:TX s t v G):∀ g∈gr v t,g.1.size<=96∧ph G g.2:=by
 intro g hg;obtain ⟨p,hp,rfl⟩:=RN.1 hg;exact ⟨(rN hT.hv.names.wf (hT.hv.names.glob p hp)).2,hT.gl p hp⟩
theorem mr {gs:List (ByteArray × Int)}{i:Nat} (hi:i<gs.length):LW.globs (gs.take (i+1))=LW.globG (LW.globs (gs.take i)) gs[i]:=by
 rw [RP,RB hi];exact mF _ _
theorem pn {v:KV}{t:TB}{i:Nat} (hi:i<(gr v t).length):(gm v (i:Int)).1=((gr v t)[i]).2:=by
 have hl:i<v.glob.length:=by simpa [gr] using hi
 unfold gm;rw [dif_pos ⟨by omega,by omega⟩];simp only [gr,SI,Ro]
theorem qw {v:KV}{t:TB}:cy v t=(gr v t).map (·.1):=by
 unfold cy gr;rw [Tl];rfl
theorem lB {nm:ByteArray}{S:Int->List Int}{p:ByteArray × LW}{i:Nat} (hi:i<(LW.lines nm S p i).2.order.length) :
  LW.lines nm S p (i+1)=((LW.lines nm S p i).1++(((LW.lines nm S p i).2.line nm i (S ((LW.lines nm S p i).2.order[i]))).1++AE),((LW.lines nm S p i).2.line nm i (S ((LW.lines nm S p i).2.order[i]))).2):=by
 show LW.step nm S (LW.lines nm S p i) i=_;unfold LW.step;rw [RB hi]
section
variable {H:ae}{b:Nat}{F:aB}{s:SP}{t:TB}{v:KV}{Q:QT}{G:Int->Prop}
theorem xc (hK:RK H b F s t) (ht:eU H) (hT:TX s t v G) (h:∀ H',Fr [] H H'->Q (.tuple #[.string (rP (ic v t) (ij s.h) (gr v t)),ac 0]) H'):ag PP 22 #[Cv b] Q H:=by
 have Hn:=hT.hv.ks.shape.globs;have D8:(gr v t).length<=256:=by simpa [gr] using Hn
 have Ko:=vm hT;have Hw:=@qw v t;have hval:=@pn v t;have Kp:∀ i,(LW.globs ((gr v t).take i)).2.Ok G∧(LW.globs ((gr v t).take i)).1.size<=200*256:=fun i=>by
  obtain ⟨g1,g2⟩:=pI (G:=G) ((gr v t).take i) fun g hg=>Ko g (Sm hg);have hx:((gr v t).take i).length<=256:=by rw [R5];omega
  exact ⟨g1,by omega⟩
 have Lm:=@mr (gr v t);obtain ⟨_,_,_,_,GJ⟩:=jk hT.hv;apply zW;dsimp only [bf,bx,cG,cB,ah,aA,bA,aZ,pj,aO,fE,bl,ac,bm,pm,ax,bt,ao,ch,am,bg,bh,az,bn,aI];refine ck rfl ?_;have f0:=Fr.push [] H (.cells #[Cv b,.slice none 0 0,.bool false] 164);have b0:=bW.new H #[Cv b,.slice none 0 0,.bool false] 164;generalize (H.push (.cells #[Cv b,.slice none 0 0,.bool false] 164))=H0 at f0 b0 ⊢;have ON:ER H0 b F s t [H.size]:=⟨hK.nil f0,ht.fr f0 (by simp),fun x hx=>by
  rw [Rg.1 hx];exact ⟨fun hm=>by have:=hK.lt _ hm;omega,by have:=ht.lt;omega⟩⟩
 have L0:RW H0 H.size b ⟨[],false⟩ [H.size]:=⟨none,0,0,[],rfl,by simp,b0,bZ.nil _ _⟩;refine iR ON.1 hT.hv fun a l c G1 H1 o1 f1 g1=>⟨_,_,_,rfl,?_⟩;have f01:=f0.trans f1;have Qb:=ON.nil f1;have L1:=L0.nil f1;have hl:l=(gr v t).length:=by have:=o1.1;rw [Hw] at this;simpa [bF] using this.symm
 rw [Hw] at o1;have Kq:bL G1 [H.size]:=fun x hx hm=>by
  have:=g1 x hx
  have:=Rg.1 hm
  have:=b0.lt;omega
 have Ii:LW.globs ((gr v t).take 0)=(⟨#[]⟩,⟨[],false⟩):=rfl;refine ⟨fun w' H'=>∃(i:Nat) (X':aB),w'=[.string (LW.globs ((gr v t).take i)).1,ac i]∧i<=l∧RW H' H.size b (LW.globs ((gr v t).take i)).2 X'∧Up [H.size] H1 X' H',fun w' _=>match w' with
  | [_,.int _ i]=>((l:Int)-i).toNat
  | _=>0,⟨0,[H.size],rfl,RL _,L1,Up.refl _ _⟩,?_⟩
 rintro w' H2 ⟨i,X2,rfl,hi,L2,u2⟩ _;have FV:=Qb.up u2;refine ⟨_,_,rfl,cM (fun an=>?_) fun DG=>?_⟩
 ·have p8:i<(gr v t).length:=by omega
  have e1:IntKind.wrap .i64 ((i:Int)+1)=((i+1:Nat):Int):=by rw [ai (by omega) (by omega)];omega
  refine sv FV.1 hT.hv fun H3 f3=>⟨_,_,rfl,⟨by omega,an⟩,?_⟩;rw [hval p8];have o3:=(o1.fr u2.1 Kq).fr f3 (by simp);obtain ⟨p,GC,E1,Ed⟩:=o3.rd.str (i:=(i:Int)) (by omega) (by omega);have Iw:aj H3 (p.add (Int.toNat (i:Int)*1))=some (.string ((gr v t)[i]).1):=by
   rw [Rn,Ed];simp only [SI,Ro]
  have Ks:=Ko _ (RG p8);have EN:=Kp i;have hfz:=(EN.1.form Ks.2).2;have e9:(⟨#[32,61,32]⟩:ByteArray).size=3:=rfl;have e8:(⟨#[10]⟩:ByteArray).size=1:=rfl;refine ⟨_,E1,_,Iw,cj (cS (by omega)) (cj (cS (by rw [Rv];omega)) ?_)⟩;have Qc:bL G1 X2:=fun x hx hm=>(u2.2 x hm).elim (fun h1=>Kq x hx h1) fun h1=>by have:=o1.lt x hx;omega
  refine oE (FV.nil f3) hT (L2.nil f3) EN.1 Ks.2 fun H4 X4 L4 u4=>⟨_,rfl,⟨⟨?_,trivial⟩,trivial⟩,cj (cS (by rw [Rv,Rv];omega)) (cj (cS (by rw [Rv,Rv,Rv];omega)) ⟨⟨i+1,X4,?_,by omega,?_,(u2.trans (ua f3)).trans u4⟩,by simp;omega⟩)⟩
  ·have o4:=o3.fr u4.1 Qc;have Qd:=o4.rd.2.2 p E1 i (by omega);have Nf:=o3.rd.2.2 p E1 i (by omega);rw [Ro,Rn] at Iw ⊢;rw [Qd,←Nf];exact Iw
  ·rw [Lm p8,e1];unfold LW.globG;simp only [SY]
  ·rw [Lm p8];exact L4
 ·have DO:i=(gr v t).length:=by omega
  have e2:(gr v t).take i=gr v t:=by rw [DO];exact Sl
  have EN:=Kp i;rw [e2] at L2 EN ⊢;unfold rP at h;have OO:=EN.1;have Ln:=EN.2;generalize LW.globs (gr v t)=p at L2 OO Ln h ⊢;have Kt:=jM (nm:=ic v t) OO hT.sok GJ;have Iz:=@nD (ic v t) (ij s.h) p;refine ⟨fun w' H'=>∃(i:Nat) (X':aB),w'=[.string (LW.lines (ic v t) (ij s.h) p i).1,ac i]∧i<=2000∧RW H' H.size b (LW.lines (ic v t) (ij s.h) p i).2 X'∧Up X2 H2 X' H',fun w' _=>match w' with
   | [_,.int _ i]=>((2000:Int)-i).toNat
   | _=>0,⟨0,X2,rfl,RL _,L2,Up.refl _ _⟩,?_⟩
  rintro w' H5 ⟨j,X5,rfl,hj,L5,u5⟩ _;have Qe:=FV.up u5;obtain ⟨k1,k2⟩:=Kt j hj;have klen:=k1.len;have L50:=L5;obtain ⟨a5,l5,c5,G5,rfl,n5,Lo,Qf⟩:=L5;have hl5:l5=(LW.lines (ic v t) (ij s.h) p j).2.order.length:=by have:=Qf.1;simpa [au] using this.symm
  refine ⟨_,_,rfl,_,rfl,_,_,_,Lo.cell 1,cM (fun ap=>?_) fun hge2=>?_⟩
  ·have Dx:j<(LW.lines (ic v t) (ij s.h) p j).2.order.length:=by omega
   have e1:IntKind.wrap .i64 ((j:Int)+1)=((j+1:Nat):Int):=by rw [ai (by omega) (by omega)];omega
   have lc:=lB Dx;obtain ⟨k3,k4⟩:=Kt (j+1) (by omega);rw [lc] at k4;simp only [Rv] at k4;have e8:(⟨#[10]⟩:ByteArray).size=1:=rfl;have e8':AE.size=1:=rfl;refine xh Qe hT L50 k1 Dx fun H6 X6 L6 u6=>⟨_,rfl,cj (cS (by omega)) (cj (cS (by rw [Rv];omega)) ⟨⟨j+1,X6,?_,by omega,?_,u5.trans u6⟩,by simp;omega⟩)⟩
   ·rw [lc,e1,SY]
   ·rw [lc];exact L6
  ·have CI:(LW.lines (ic v t) (ij s.h) p j).2.order.length<=j:=by omega
   rw [Iz CI hj] at h;have u:=(u2.trans u5).1;have fin:Fr [] H H5:=⟨Rr f01.1 u.1,fun x hx _=>by rw [u.2 x (RC hx f01.1) (by simp;omega),f01.2 x hx (by simp)]⟩;have h9:=h H5 fin;refine ⟨_,rfl,_,Lo.cell 2,?_⟩;cases hm:(LW.lines (ic v t) (ij s.h) p j).2.more with
   | true =>
    rw [hm,Rj rfl] at h9;refine fQ rfl (cj (cS ?_) h9);show _+5<=_;omega
   | false =>
    rw [hm,Re (by simp)] at h9;exact ck rfl h9
end
theorem Fr.ge {H0 H H':ae}{Y:aB} (h:Fr [] H0 H) (f:Fr Y H H') (hY:∀ x∈Y,H0.size<=x):Fr [] H0 H' :=
 ⟨Rr h.1 f.1,fun x hx _=>by rw [f.2 x (RC hx h.1) (fun hm=>by have:=hY x hm;omega),h.2 x hx (by simp)]⟩
theorem qQ (H:ae) (b:Nat) (o:Obj):Fr [b] H (H.setIfInBounds b o):=⟨by simp,fun x _ hn=>by rw [Td,Re (by simp only [Rg] at hn;exact fun e=>hn e.symm)]⟩
def TK (H0 H:ae) (lb vb tb tm sb b:Nat) (es:List (Key × Value)) (L:LW) (y:ByteArray) (X Gb Z:aB):Prop :=
 Fr [] H0 H∧(∀ x∈X++(vb :: tb :: tm :: sb :: Gb),H0.size<=x)∧(∀ x∈X,x∉vb :: tb :: tm :: sb :: Gb)∧(vb≠sb∧tb≠sb∧tm≠sb∧vb∉Gb∧tb∉Gb∧tm∉Gb∧sb∉Gb)∧(∀ z∈Z,z<H.size∧z∉X++(vb :: tb :: tm :: sb :: Gb)) ∧
 LK H lb b L X∧bW H vb #[Cv lb]∧bW H tb #[.map (some tm)]∧cR H tm es∧∃ a l c,kq 146 H sb (.slice a l c)∧vk 5 H a l c (dD y) Gb
section
variable {H0 H H':ae}{lb vb tb tm sb b:Nat}{es:List (Key × Value)}{L:LW}{y:ByteArray}{X Gb Z:aB}{F:aB}{s:SP}{t:TB}{v:KV}{Q:QT}{G:Int->Prop}
theorem TK.bnd (K:TK H0 H lb vb tb tm sb b es L y X Gb Z):∀ x∈X++(vb :: tb :: tm :: sb :: Gb),x<H.size:=by
 obtain ⟨f,g,d,n,z,hL,hv,ht,hm,a,l,c,hb,hB⟩:=K;intro x hx;simp only [Rl,Rk] at hx;rcases hx with hx | rfl | rfl | rfl | rfl | hx
 ·exact hL.lt x hx
 ·exact hv.lt
 ·exact ht.lt
 ·exact hm.lt
 ·exact hb.lt
 ·exact hB.1.lt x hx
theorem TK.fr (K:TK H0 H lb vb tb tm sb b es L y X Gb Z){Y:aB} (f':Fr Y H H') (hY:∀ x∈Y,H0.size<=x) (hd:∀ x∈Y,x∉X++(vb :: tb :: tm :: sb :: Gb)):TK H0 H' lb vb tb tm sb b es L y X Gb Z:=by
 obtain ⟨f,g,d,n,z,hL,hv,ht,hm,a,l,c,hb,hB⟩:=K;refine ⟨Fr.ge f f' hY,g,d,n,fun q hq=>⟨RC (z q hq).1 f'.1,(z q hq).2⟩,hL.fr f' fun x hx hm=>hd x hm (by simp [hx]),hv.fr f' fun hm=>hd _ hm (by simp),ht.fr f' fun hm=>hd _ hm (by simp),hm.fr f' fun hm=>hd _ hm (by simp),a,l,c,hb.keep (f'.2 _ hb.lt fun hm=>hd _ hm (by simp)),hB.keep fun x hx=>f'.2 x (hB.1.lt x hx) fun hm=>hd x hm (by simp [hx])⟩
theorem TK.nil (K:TK H0 H lb vb tb tm sb b es L y X Gb Z) (f:Fr [] H H'):TK H0 H' lb vb tb tm sb b es L y X Gb Z:=K.fr f (by simp) (by simp)
theorem TK.look (K:TK H0 H lb vb tb tm sb b es L y X Gb Z){L':LW}{X':aB} (Qg:LK H' lb b L' X') (u:Up X H X' H'):TK H0 H' lb vb tb tm sb b es L' y X' Gb Z:=by
 have Dj:=K.bnd;obtain ⟨f,g,d,n,z,hL,hv,ht,hm,a,l,c,hb,hB⟩:=K;have nx:∀ x∈vb :: tb :: tm :: sb :: Gb,x∉X:=fun x hx hX=>d x hX hx;have f1:=f.1;refine ⟨Fr.ge f u.1 fun x hx=>g x (by simp [hx]),fun x hx=>?_,fun x hx hm=>?_,n,fun q hq=>⟨RC (z q hq).1 u.1.1,fun hm=>?_⟩,Qg,hv.fr u.1 (nx _ (by simp)),ht.fr u.1 (nx _ (by simp)),hm.fr u.1 (nx _ (by simp)),a,l,c,hb.keep (u.1.2 _ hb.lt (nx _ (by simp))),hB.keep fun x hx=>u.1.2 x (hB.1.lt x hx) (nx x (by simp [hx]))⟩
 ·rcases Rl.1 hx with hx | hx
  ·rcases u.2 x hx with h1 | h1
   ·exact g x (by simp [h1])
   ·omega
  ·exact g x (Rl.2 (.inr hx))
 ·rcases u.2 x hx with h1 | h1
  ·exact d x h1 hm
  ·have:=Dj x (Rl.2 (.inr hm));omega
 ·have h0:=z q hq;rcases Rl.1 hm with hx | hx
  ·rcases u.2 q hx with h1 | h1
   ·exact h0.2 (Rl.2 (.inl h1))
   ·omega
  ·exact h0.2 (Rl.2 (.inr hx))
theorem TK.ek (K:TK H0 H lb vb tb tm sb b es L y X Gb Z) (hK:PK H0 b F s t) (ht:eU H0):EK H b F s t X:=by
 obtain ⟨f,g,_⟩:=K;refine ⟨hK.nil f,ht.fr f (by simp),fun x hx=>?_⟩;have h1:=g x (by simp [hx]);have h2:=hK.kinds.lt;have h3:=ht.lt;exact ⟨fun hf=>by have:=hK.lt x hf;omega,by omega,by omega⟩
theorem TK.wstr (K:TK H0 H lb vb tb tm sb b es L y X Gb Z){z:ByteArray} (hy:y.size<2000000000) (hz:z.size<2000000000)
  (k:∀ H' Gb',TK H0 H' lb vb tb tm sb b es L (y++z) X Gb' Z->Fr (sb :: Gb) H H'->Q (.tuple #[ac (z.size:Int),.nilIface]) H') :
  ag PP 81 #[Cv sb,.string z] Q H:=by
 have Dj:=K.bnd;obtain ⟨f,g,d,⟨n1,n2,n3,n4,n5,n6,n7⟩,zz,hL,hv,ht,hm,a,l,c,hb,hB⟩:=K;have hl:l=y.size:=by have:=hB.1.1;rw [lz] at this;omega
 have f1:=f.1;refine Ab hb hB n7 (by omega) (by omega) fun H' a' c' G' er FJ n' u=>k H' G' ⟨Fr.ge f u.1 fun x hx=>g x (by simp only [Rk] at hx;rcases hx with rfl | hx <;> simp [*]),fun x hx=>?_,fun x hx hm=>?_,⟨n1,n2,n3,fun hm=>?_,fun hm=>?_,fun hm=>?_,n'⟩,fun q hq=>⟨RC (zz q hq).1 u.1.1,fun hm=>?_⟩,hL.fr u.1 (fun x hx hm=>d x hx (by simp only [Rk] at hm ⊢;rcases hm with rfl | hm <;> simp [*])),hv.fr u.1 (by simp [n1,n4]),ht.fr u.1 (by simp [n2,n5]),hm.fr u.1 (by simp [n3,n6]),a',_,c',er,by rw [mO];exact FJ⟩ u.1
 ·simp only [Rl,Rk] at hx;rcases hx with hx | rfl | rfl | rfl | rfl | hx
  ·exact g x (by simp [hx])
  ·exact g _ (by simp)
  ·exact g _ (by simp)
  ·exact g _ (by simp)
  ·exact g _ (by simp)
  ·rcases u.2 x (by simp [hx]) with h1 | h1
   ·exact g x (by simp only [Rk] at h1;rcases h1 with rfl | h1 <;> simp [*])
   ·omega
 ·simp only [Rk] at hm;have Jb:=Dj x (by simp [hx]);rcases hm with hm | hm | hm | hm | hm
  ·exact d x hx (by simp [hm])
  ·exact d x hx (by simp [hm])
  ·exact d x hx (by simp [hm])
  ·exact d x hx (by simp [hm])
  ·rcases u.2 x (by simp [hm]) with h1 | h1
   ·exact d x hx (by simp only [Rk] at h1 ⊢;rcases h1 with rfl | h1 <;> simp [*])
   ·omega
 ·rcases u.2 _ (by simp [hm]:vb∈sb :: G') with h1 | h1
  ·simp [n1,n4] at h1
  ·have:=hv.lt;omega
 ·rcases u.2 _ (by simp [hm]:tb∈sb :: G') with h1 | h1
  ·simp [n2,n5] at h1
  ·have:=ht.lt;omega
 ·rcases u.2 _ (by simp [hm]:tm∈sb :: G') with h1 | h1
  ·simp [n3,n6] at h1
  ·have:=Dj tm (by simp);omega
 ·have h0:=zz q hq;simp only [Rl,Rk] at hm;rcases hm with hx | hx | hx | hx | hx | hx
  ·exact h0.2 (by simp [hx])
  ·exact h0.2 (by simp [hx])
  ·exact h0.2 (by simp [hx])
  ·exact h0.2 (by simp [hx])
  ·exact h0.2 (by simp [hx])
  ·rcases u.2 q (by simp [hx]) with h1 | h1
   ·refine h0.2 ?_;simp only [Rl,Rk] at h1 ⊢;rcases h1 with h1 | h1
    ·exact .inr (.inr (.inr (.inr (.inl h1))))
    ·exact .inr (.inr (.inr (.inr (.inr h1))))
   ·omega
end
section
variable {H0 H:ae}{lb vb tb tm sb b l:Nat}{es:List (Key × Value)}{L:LW}{y:ByteArray}{X Gb Z:aB}{F:aB}{s:SP}{t:TB}{v:KV}{Q:QT}{G:Int->Prop}{X0:Loop}
theorem xU (hK:PK H0 b F s t) (ht:eU H0) (hT:TX s t v G) (FM:cT es (Key.int 11)=some (.func (.func 139) #[] #[])) (FQ:∀ p∈es,p.1.of (.int .i64))
  (K:TK H0 H lb vb tb tm sb b es L y X Gb Z) (hl:H[l]?=some (.loop X0)) (EV:X0.state=.ready) (FK:X0.pending=none) (Nx:l∈Z) (Gh:H0.size<=l) (hO:L.Ok G){i:Nat} (hi:i<2000){o:Int} (ho:G o)
  {a:Option Addr}{n c:Nat}{Y:aB} (hr:bZ 1 H a n c (au (ij s.h o)) Y) (hY:∀ x∈Y,x∉X∧x≠l) (hy:y.size<2000000000)
  (k:∀ H' X' Gb',TK H0 H' lb vb tb tm sb b es (L.line (ic v t) i (ij s.h o)).2 (y++((L.line (ic v t) i (ij s.h o)).1++AE)) X' Gb' Z->H'[l]?=some (.loop X0)->(∀ z∈Z,z≠l->H'[z]?=H[z]?)->Q (.bool true) H') :
  cI l ⟨vb,0,none⟩ ⟨tb,0,none⟩ ⟨sb,0,none⟩ ((i:Int)+1) o 11 a n c Q H:=by
 have DO:dL PP 141=some (.int .i64,some .nilFunc):=by kernel_rfl
 obtain ⟨_,_,_,_,GJ⟩:=jk hT.hv;obtain ⟨o1,o2,ws,C0,sz⟩:=hT.obj _ ho;have hF:=hO.forms (ij s.h o) (by rw [jf C0];exact sz);have Qh:∀ w∈ij s.h o,ph G w:=by rw [jf C0];exact sz
 have hj:=eZ _ hF.2.2;have hm:=hT.sok.many _ ho;have hz:=fw (n:=(i:Int)+1) (by omega) (by omega);have OP:=K.2.2.2.2.1;unfold LW.line at k;unfold cI;dsimp only [bf,ci,pi,bx,cB,ah,bA,aM,aO,gE,aQ,dO,ac,Bf,ax,eS,am,bg,bh,az,bi,rH,bn];refine Cp H _ _ _ _ _ _ ?_;rw [vq];have f1:=Fr.push [] H (.cells #[ac o,ac 11,.slice a n c] 156);have b1:=bW.new H #[ac o,ac 11,.slice a n c] 156;have Dr:=(Rt.1 hl).1;have l1:=(f1.2 l Dr (by simp)).trans hl;have K1:=K.nil f1;have r1:=hr.fr f1 (by simp);generalize (H.push (.cells #[ac o,ac 11,.slice a n c] 156))=H1 at f1 b1 l1 K1 r1 ⊢;refine ⟨X0,l1,EV,?_⟩;have f2:=qQ H1 l (.loop { X0 with state:=.busy });have l2:(H1.setIfInBounds l (.loop { X0 with state:=.busy }))[l]?=some (.loop { X0 with state:=.busy }):=by
  have:=(Rt.1 l1).1;simp [this]
 have b2:=b1.fr f2 (by simp;omega);have K2:=K1.fr f2 (by simpa using Gh) (fun x hx=>by rw [Rg.1 hx];exact (OP l Nx).2);have r2:=r1.fr f2 fun x hx hm=>(hY x hx).2 (Rg.1 hm);have e3:(⟨H.size,0,none⟩:Addr).add 1=⟨H.size,1,none⟩:=rfl;have e4:(⟨H.size,0,none⟩:Addr).add 2=⟨H.size,2,none⟩:=rfl;rw [e3,e4];generalize (H1.setIfInBounds l (.loop { X0 with state:=.busy }))=H2 at f2 l2 b2 K2 r2 ⊢;obtain ⟨_,_,_,_,_,Nc,Ny,Qi,Gi,_⟩:=id K2;refine ⟨_,Qi.cell 0,_,b2.cell 1,gS (k:=.int 11) (ok:=true) DO trivial FQ Gi ?_⟩;rw [FM];refine ⟨_,_,_,_,rfl,fun w' H'=>w'=[.func (.func 139) #[] #[]]∧H2=H',ck rfl ⟨rfl,rfl⟩,?_⟩;rintro w' _ ⟨rfl,rfl⟩ _;refine ⟨_,_,_,rfl,_,Ny.cell 0,_,b2.cell 1,_,Ny.cell 0,_,b2.cell 0,_,b2.cell 1,_,_,_,b2.cell 2,?_⟩;have FV:=K2.ek hK ht;refine kd FV.2.1 (by omega) (by omega) fun H3 f3=>⟨_,rfl,?_⟩;have K3:=K2.nil f3;have b3:=b2.fr f3 (by simp);have v3:=Ny.fr f3 (by simp);have r3:=r2.fr f3 (by simp);refine ⟨⟨⟨b3.cell 0,b3.cell 1,b3.cell 2,trivial⟩,⟨v3.cell 0,trivial⟩,⟨b3.cell 1,trivial⟩,⟨v3.cell 0,trivial⟩,trivial⟩,cj (cS ?_) (cj (cS ?_) ?_)⟩
 ·show 1+_<=_;omega
 ·rw [Rv];show 1+_+1<=_;omega
 have z1:(uT++vt ((i:Int)+1)++tS).size<=13:=by
  rw [Rv,Rv];show 1+_+1<=_;omega
 generalize (uT++vt ((i:Int)+1)++tS)=x1 at z1 k ⊢;have Ll:=K3.ek hK ht;obtain ⟨_,_,_,_,_,Qj,_⟩:=id K3;refine zj Ll.1 hT.hv Qj.k fun H4 f4=>⟨_,rfl,?_⟩;have K4:=K3.nil f4;have b4:=b3.fr f4 (by simp);have v4:=v3.fr f4 (by simp);have r4:=r3.fr f4 (by simp);have l4:H4[l]?=some (.loop { X0 with state:=.busy }):=by
  have h2:=(Rt.1 l2).1;rw [f4.2 l (RC h2 f3.1) (by simp),f3.2 l h2 (by simp)];exact l2
 refine ⟨⟨⟨b4.cell 0,b4.cell 1,b4.cell 2,trivial⟩,⟨v4.cell 0,trivial⟩,trivial⟩,cj (cS (by omega)) ?_⟩;have z2:(x1++ic v t).size<=109:=by rw [Rv];omega
 generalize x1++ic v t=x2 at z2 k ⊢;have Qk:=K4.ek hK ht;have Lp:=K4.2.2.2.2.1;obtain ⟨_,_,_,_,_,Ql,_⟩:=id K4;show ag PP 139 #[Cv lb,.agg #[ac o,ac 11,.slice a n c]] _ _;refine t8 Qk hT Ql hO r4 (fun x hx hm=>(hY x hx).1 hm) Qh hm fun H5 X5 L5 u5=>⟨_,rfl,trivial,?_⟩;have K5:=K4.look L5 u5;have OQ:=K5.2.2.2.2.1;generalize Qm:A9++eJ (L.forms (ij s.h o)).1++A8=x3 at k ⊢;have z3:x3.size<=120000:=by
  rw [←Qm,Rv,Rv];show 2+_+1<=_;omega
 refine cj (cS (by omega)) (cj (cS ?_) ?_)
 ·rw [Rv];show _+1<=_;omega
 refine K5.wstr hy ?_ fun H6 G6 K6 f6=>⟨_,_,rfl,trivial,?_⟩
 ·rw [Rv,Rv];show _+1<_;omega
 have out4:∀ z∈Z,z∉X:=fun z hz hm=>(Lp z hz).2 (by simp [hm]);have keep:∀ z∈Z,H6[z]?=H4[z]?:=fun z hz=>by
  have Qn:z∉sb :: Gb:=fun hm=>(OQ z hz).2 (by
   simp only [Rl,Rk] at hm ⊢;rcases hm with h1 | h1
   ·exact .inr (.inr (.inr (.inr (.inl h1))))
   ·exact .inr (.inr (.inr (.inr (.inr h1)))))
  rw [f6.2 z (OQ z hz).1 Qn,u5.1.2 z (Lp z hz).1 (out4 z hz)]
 have l6:H6[l]?=some (.loop { X0 with state:=.busy }):=(keep l Nx).trans l4;refine ⟨_,l6,?_⟩;have MG:({ ({ X0 with state:=.busy }:Loop) with state:=.ready,pending:=none }:Loop)=X0:=by
  cases X0;simp only at EV FK;subst EV;subst FK;rfl
 rw [MG];have f7:=qQ H6 l (.loop X0);have OR:=K6.2.2.2.2.1;refine k _ X5 G6 (K6.fr f7 (by simpa using Gh) (fun x hx=>by rw [Rg.1 hx];exact (OR l Nx).2)) ?_ fun z hz c9=>?_
 ·have:=(Rt.1 l6).1;simp [this]
 ·have OS:=(OP z hz).1;have h1:=RC OS f1.1;have h2:=RC h1 f2.1;rw [f7.2 z (OR z hz).1 (by simpa using c9),keep z hz,f4.2 z (RC h2 f3.1) (by simp),f3.2 z h2 (by simp),f2.2 z h1 (by simpa using c9),f1.2 z OS (by simp)]
end
section
variable {H0 H:ae}{lb vb tb tm sb b l ab:Nat}{es:List (Key × Value)}{X Gb:aB}{F:aB}{s:SP}{t:TB}{v:KV}{Q:QT}{G:Int->Prop}{X0:Loop}{p:ByteArray × LW}
theorem Br (hK:PK H0 b F s t) (ht:eU H0) (hT:TX s t v G) (FM:cT es (Key.int 11)=some (.func (.func 139) #[] #[])) (FQ:∀ p∈es,p.1.of (.int .i64))
  (hp:p.2.Ok G) (Ln:p.1.size<=60000) (K:TK H0 H lb vb tb tm sb b es p.2 p.1 X Gb [l,ab]) (hl:H[l]?=some (.loop X0)) (EV:X0.state=.ready) (FK:X0.pending=none) (IK:ab≠l) (Gh:H0.size<=l) (E9:bW H ab #[Cv lb])
  (hX:∀ {n1 n2 n3:Int}{a4:Option Addr}{l4 c4:Nat}{Q':Value->ae->Prop}{H':ae},H'[l]?=some (.loop X0)->cI l ⟨vb,0,none⟩ ⟨tb,0,none⟩ ⟨sb,0,none⟩ n1 n2 n3 a4 l4 c4 Q' H'->eP PP l #[ac n1,.agg #[ac n2,ac n3,.slice a4 l4 c4]] Q' H')
  (k:∀ H' X' Gb',TK H0 H' lb vb tb tm sb b es (LW.lines (ic v t) (ij s.h) p 2000).2 (LW.lines (ic v t) (ij s.h) p 2000).1 X' Gb' [l,ab]->H'[l]?=some (.loop X0)->Q (.tuple #[]) H') :
  ag PP 148 #[.func (.yield l) #[] #[],Cv ab] Q H:=by
 obtain ⟨_,_,_,_,GJ⟩:=jk hT.hv;have Kt:=jM (nm:=ic v t) hp hT.sok GJ;have Iz:=@nD (ic v t) (ij s.h) p;apply yr;dsimp only [bx,ah,jq,aZ,aM,aO,aQ,bl,dO,ac,bm,ce,ax,bt,ao,am,bn,aI];refine ⟨fun w' H'=>∃(i:Nat) (X' Gb':aB),w'=[ac i]∧i<=2000∧TK H0 H' lb vb tb tm sb b es (LW.lines (ic v t) (ij s.h) p i).2 (LW.lines (ic v t) (ij s.h) p i).1 X' Gb' [l,ab]∧H'[l]?=some (.loop X0)∧H'[ab]?=H[ab]?,fun w' _=>match w' with
  | [.int _ i]=>((2000:Int)-i).toNat
  | _=>0,⟨0,X,Gb,rfl,RL _,K,hl,rfl⟩,?_⟩
 rintro w' H1 ⟨i,X1,G1,rfl,hi,K1,l1,a1⟩ _;have ba1:=E9.of_eq a1;obtain ⟨k1,k2⟩:=Kt i hi;have klen:=k1.len;have Dj:=K1.bnd;have La:=K1.2.2.2.2.1;obtain ⟨_,_,_,_,_,OT,_⟩:=id K1;have IA:=OT;obtain ⟨mb,a,n,c,g1,hXe,n1,n2,n3,hB,hM,EM⟩:=OT;have hn:n=(LW.lines (ic v t) (ij s.h) p i).2.order.length:=by have:=EM.1;simpa [au] using this.symm
 refine ⟨_,rfl,_,ba1.cell 0,_,rfl,_,_,_,hB.cell 2,cM (fun an=>?_) fun DG=>?_⟩
 ·have p8:i<(LW.lines (ic v t) (ij s.h) p i).2.order.length:=by omega
  have e1:IntKind.wrap .i64 ((i:Int)+1)=(i:Int)+1:=ai (by omega) (by omega);obtain ⟨q,Ge,EO,_⟩:=EM.rd.int (i:=(i:Int)) (by omega) (by omega);have hg:(LW.lines (ic v t) (ij s.h) p i).2.order.getD (i:Int).toNat 0=(LW.lines (ic v t) (ij s.h) p i).2.order[i]:=by rw [Ro,RQ,RB p8];rfl
  rw [hg] at EO;have ho:=k1.all _ (RG p8);obtain ⟨o1,o2,ws,C0,sz⟩:=hT.obj _ ho;refine ⟨_,ba1.cell 0,_,ba1.cell 0,_,rfl,_,_,_,hB.cell 2,⟨by omega,an⟩,_,Ge,_,by rw [Rn];exact EO,?_⟩;refine vh (K1.ek hK ht).1 hT.hv IA.k ⟨by omega,o2⟩ (lJ C0) fun a2 m2 c2 G2 H2 r2 f2 g2=>⟨_,_,_,_,_,rfl,trivial,?_⟩;rw [oI o1 o2 C0,e1];have Dr:=(Rt.1 l1).1;have l2:H2[l]?=some (.loop X0):=(f2.2 l Dr (by simp)).trans l1;have lc:=lB p8;refine hX l2 (xU hK ht hT FM FQ (K1.nil f2) l2 EV FK (by simp) Gh k1 (by omega) ho (by rw [jf C0];exact r2) (fun x hx=>⟨fun hm=>?_,fun e=>?_⟩) (by omega) fun H3 X3 G3 K3 l3 z3=>⟨_,rfl,trivial,ck rfl ⟨⟨i+1,X3,G3,by rw [Int.natCast_add];rfl,by omega,?_,l3,?_⟩,by simp;omega⟩⟩)
  ·have:=g2 x hx
   have:=Dj x (by simp [hm]);omega
  ·have:=g2 x hx;omega
  ·rw [lc];exact K3
  ·rw [z3 ab (by simp) IK,f2.2 ab ba1.lt (by simp),a1]
 ·have h9:=Iz (i:=i) (by omega) hi;rw [←h9] at K1;exact k H1 X1 G1 K1 l1
end
section
variable {H0 H:ae}{lb vb tb tm sb b:Nat}{es:List (Key × Value)}{X Gb Z:aB}{F:aB}{s:SP}{t:TB}{v:KV}{Q:QT}{G:Int->Prop}{X0:Loop}{p:ByteArray × LW}{L:LW}{y:ByteArray}
theorem TK.z (K:TK H0 H lb vb tb tm sb b es L y X Gb Z){Z':aB} (h:∀ z∈Z',z<H.size∧z∉X++(vb :: tb :: tm :: sb :: Gb)):TK H0 H lb vb tb tm sb b es L y X Gb Z':=by
 obtain ⟨f,g,d,n,z,r⟩:=K;exact ⟨f,g,d,n,h,r⟩
theorem y7 (hK:PK H0 b F s t) (ht:eU H0) (hT:TX s t v G) (FM:cT es (Key.int 11)=some (.func (.func 139) #[] #[])) (FQ:∀ p∈es,p.1.of (.int .i64))
  (hp:p.2.Ok G) (Ln:p.1.size<=60000) (K:TK H0 H lb vb tb tm sb b es p.2 p.1 X Gb Z) (EV:X0.state=.ready) (FK:X0.pending=none){T:TypeId}{Kn Kr:ae->Prop}{Ke:List (Nat × (ae->Prop))}
  (hX:∀ {n1 n2 n3:Int}{a4:Option Addr}{l4 c4:Nat}{Q':Value->ae->Prop}{H':ae},H'[H.size+2]?=some (.loop X0)->cI (H.size+2) ⟨vb,0,none⟩ ⟨tb,0,none⟩ ⟨sb,0,none⟩ n1 n2 n3 a4 l4 c4 Q' H'->eP PP (H.size+2) #[ac n1,.agg #[ac n2,ac n3,.slice a4 l4 c4]] Q' H')
  (k:∀ H' X' Gb',TK H0 H' lb vb tb tm sb b es (LW.lines (ic v t) (ij s.h) p 2000).2 (LW.lines (ic v t) (ij s.h) p 2000).1 X' Gb' []->Kn H') :
  ag PP 148 ((#[]++#[.func (.yield (H.size+2)) #[] #[]])++#[.pointer (some ⟨H.size,0,none⟩)]) (fun _ H7=>il (H.size+2) Kn Kr Ke H7) (((H.push (.cells #[Cv lb] T)).push (.deferred (some []))).push (.loop X0)):=by
 show ag PP 148 #[.func (.yield (H.size+2)) #[] #[],.pointer (some ⟨H.size,0,none⟩)] _ _;have Dj:=K.bnd;have h0:=K.1.1;have f1:=Fr.push [] H (.cells #[Cv lb] T);have b1:=bW.new H #[Cv lb] T;have f2:=f1.trans (Fr.push [] (H.push (.cells #[Cv lb] T)) (.deferred (some [])));have b2:=(b1.push (.deferred (some []))).push (.loop X0);have f3:=f2.trans (Fr.push [] ((H.push (.cells #[Cv lb] T)).push (.deferred (some []))) (.loop X0));have l3:(((H.push (.cells #[Cv lb] T)).push (.deferred (some []))).push (.loop X0))[H.size+2]?=some (.loop X0):=by
  have:H.size+2=((H.push (.cells #[Cv lb] T)).push (.deferred (some []))).size:=by simp
  rw [this];exact S3
 have z3:(((H.push (.cells #[Cv lb] T)).push (.deferred (some []))).push (.loop X0)).size=H.size+3:=by simp
 have K3:=(K.nil f3).z (Z':=[H.size+2,H.size]) (fun z hz=>by
  simp only [Rk,Sa,Sx] at hz;refine ⟨by omega,fun hm=>?_⟩
  have:=Dj z hm;omega)
 generalize (((H.push (.cells #[Cv lb] T)).push (.deferred (some []))).push (.loop X0))=H3 at b2 l3 K3 z3 ⊢;refine Br hK ht hT FM FQ hp Ln K3 l3 EV FK (by omega) (by omega) b2 hX fun H4 X4 G4 K4 l4=>⟨X0,l4,by rw [EV];simp,?_⟩;rw [FK];have Lp:=K4.2.2.2.2.1;refine k _ X4 G4 ((K4.fr (qQ H4 (H.size+2) _) (by simp;omega) (fun x hx=>by rw [Rg.1 hx];exact (Lp _ (by simp)).2)).z (by simp))
theorem yA (K:TK H0 H lb vb tb tm sb b es L y X Gb Z){n:Nat} (hn:H0.size<=n) (h:∀ H',Fr [] H0 H'->Q (.tuple #[.string y,ac 0]) H') :
  ag PP 87 #[Cv sb] (fun v35 H15=>∃ s36:ByteArray,v35=.string s36∧∀ H16:ae,fT n H15 H16->Q (.tuple #[.string s36,ac 0]) H16) H:=by
 obtain ⟨f,g,d,⟨n1,n2,n3,n4,n5,n6,n7⟩,z,hL,hv,ht,hm,a,l,c,hb,hB⟩:=K;refine tj (H0:=H0) hb hB (fun x hx=>g x (by simp [hx])) n7 f fun H1 f1=>⟨_,rfl,fun H2 hs=>h H2 ⟨by rw [hs.1];exact f1.1,fun x hx _=>?_⟩⟩;rcases hs.2 x with h1 | ⟨h1,_,_⟩
 ·rw [h1];exact f1.2 x hx (by simp)
 ·omega
end
section
variable {H:ae}{b:Nat}{F:aB}{s:SP}{t:TB}{v:KV}{Q:QT}{G:Int->Prop}
theorem Ae (hK:PK H b F s t) (ht:eU H) (hT:TX s t v G) (h:∀ H',Fr [] H H'->Q (.tuple #[.string (rP (ic v t) (ij s.h) (gr v t)),ac 0]) H'):ag PP 21 #[Cv b] Q H:=by
 have Hn:=hT.hv.ks.shape.globs;have D8:(gr v t).length<=256:=by simpa [gr] using Hn
 have Ko:=vm hT;have Hw:=@qw v t;have hval:=@pn v t;have Kp:∀ i,(LW.globs ((gr v t).take i)).2.Ok G∧(LW.globs ((gr v t).take i)).1.size<=200*256:=fun i=>by
  obtain ⟨g1,g2⟩:=pI (G:=G) ((gr v t).take i) fun g hg=>Ko g (Sm hg);have hx:((gr v t).take i).length<=256:=by rw [R5];omega
  exact ⟨g1,by omega⟩
 have Lm:=@mr (gr v t);obtain ⟨_,_,_,_,GJ⟩:=jk hT.hv;apply zF;unfold Ct;dsimp only [bf,pi,bx,vu,cG,Bd,dB,cB,ah,aA,bA,aZ,pj,aQ,fE,bl,dO,ac,bm,ax,bt,eS,ao,ch,am,bg,bh,az,bi,bn,aI];refine iF hK fun _ _ _ _ _ _ _=>⟨_,rfl,ck rfl ?_⟩;have q0:((H.push (.map #[] 0)).push (.cells #[Cv b,.map (some H.size),.slice none 0 0,.bool false] 140)).size=H.size+2:=by simp
 have q1:(H.push (.map #[] 0)).size=H.size+1:=by simp
 have f1:=Fr.push [] H (.map #[] 0);have m1:=cR.new H;have B2:=bW.new (H.push (.map #[] 0)) #[Cv b,.map (some H.size),.slice none 0 0,.bool false] 140;have f2:=Fr.push [] (H.push (.map #[] 0)) (.cells #[Cv b,.map (some H.size),.slice none 0 0,.bool false] 140);rw [q0,q1];rw [q1] at B2;have m2:=m1.fr f2 (by simp);have f02:=f1.trans f2;generalize ((H.push (.map #[] 0)).push (.cells #[Cv b,.map (some H.size),.slice none 0 0,.bool false] 140))=H2 at q0 B2 m2 f02 ⊢;have f3:=Fr.push [] H2 (.cells #[.pointer none] 137);have V3:=bW.new H2 #[.pointer none] 137;rw [q0] at V3;have B3:=B2.fr f3 (by simp);have m3:=m2.fr f3 (by simp);have z3:(H2.push (.cells #[.pointer none] 137)).size=H.size+3:=by simp [q0]
 have f03:=f02.trans f3;generalize (H2.push (.cells #[.pointer none] 137))=H3 at V3 B3 m3 z3 f03 ⊢;refine ⟨V3.wr (by simp),?_⟩;have f4:Fr [H.size+2] H3 (bc H3 ⟨H.size+2,0,none⟩ (.pointer (some ⟨H.size+1,0,none⟩))):=Fr.set (by simp);have V4:=V3.set 0 (.pointer (some ⟨H.size+1,0,none⟩));have B4:=B3.fr f4 (by simp);have m4:=m3.fr f4 (by simp);have f04:=Fr.ge f03 f4 (by simp);have z4:(bc H3 ⟨H.size+2,0,none⟩ (.pointer (some ⟨H.size+1,0,none⟩))).size=H.size+3:=by rw [d6,z3]
 generalize (bc H3 ⟨H.size+2,0,none⟩ (.pointer (some ⟨H.size+1,0,none⟩)))=H4 at V4 B4 m4 f04 z4 ⊢;refine wd fun H5 tm es M5 FM FQ f5 g5=>⟨_,rfl,aF.2 (by simp),?_⟩;rw [xI];have q5:(H5.push (.cells #[.map (some tm)] 141)).size=H5.size+1:=by simp
 have f6:=Fr.push [] H5 (.cells #[.map (some tm)] 141);have T6:=bW.new H5 #[.map (some tm)] 141;rw [q5];have M6:=M5.fr f6 (by simp);have f06:=(f04.trans f5).trans f6;have f56:=f5.trans f6;generalize (H5.push (.cells #[.map (some tm)] 141))=H6 at q5 T6 M6 f06 f56 ⊢;have f7:=Fr.push [] H6 (.cells #[.pointer none,.slice none 0 0] 146);have S7:kq 146 (H6.push (.cells #[.pointer none,.slice none 0 0] 146)) (H5.size+1) (.slice none 0 0):=⟨_,by rw [←q5];simp,.inl rfl⟩;have z56:=f5.1;have tml:=M5.lt;have K7:TK H (H6.push (.cells #[.pointer none,.slice none 0 0] 146)) (H.size+1) (H.size+2) H5.size tm (H5.size+1) b es ⟨[],false⟩ ⟨#[]⟩ [H.size+1,H.size] [] []:=by
  refine ⟨f06.trans f7,fun x hx=>?_,fun x hx hm=>?_,⟨by omega,by omega,by omega,by simp,by simp,by simp,by simp⟩,by simp,⟨H.size,none,0,0,[],rfl,by omega,by simp,by simp,(B4.fr f56 (by simp)).fr f7 (by simp),(m4.fr f56 (by simp)).fr f7 (by simp),bZ.nil _ _⟩,(V4.fr f56 (by simp)).fr f7 (by simp),T6.fr f7 (by simp),M6.fr f7 (by simp),none,0,0,S7,⟨bZ.nil _ _,by simp,RL _⟩⟩
  ·simp only [Rl,Rk,Sa,Sx] at hx;omega
  ·simp only [Rk,Sa,Sx] at hx hm;omega
 generalize (H6.push (.cells #[.pointer none,.slice none 0 0] 146))=H7 at K7 ⊢;refine kx (K7.ek hK ht).1 hT.hv fun a l c G1 H8 o8 f8 g8=>⟨_,_,_,rfl,?_⟩;have hl:l=(gr v t).length:=by have:=o8.1;rw [Hw] at this;simpa [bF] using this.symm
 rw [Hw] at o8;have Qo:=K7.bnd;have K8:=(K7.nil f8).z (Z':=G1) fun z hz=>⟨o8.lt z hz,fun hm=>by have:=g8 z hz;have:=Qo z hm;omega⟩;refine ⟨fun w' H'=>∃(i:Nat) (X' Gb':aB),w'=[ac i]∧i<=l∧TK H H' (H.size+1) (H.size+2) H5.size tm (H5.size+1) b es (LW.globs ((gr v t).take i)).2 (LW.globs ((gr v t).take i)).1 X' Gb' G1∧∀ z∈G1,H'[z]?=H8[z]?,fun w' _=>match w' with
  | [.int _ i]=>((l:Int)-i).toNat
  | _=>0,⟨0,_,_,rfl,RL _,K8,fun _ _=>rfl⟩,?_⟩
 rintro w' H9 ⟨i,X9,G9,rfl,hi,K9,e9⟩ g10;have o9:=o8.keep e9;have Qp:=K9.2.2.2.2.1;refine ⟨_,rfl,cM (fun an=>?_) fun DG=>?_⟩
 ·have p8:i<(gr v t).length:=by omega
  have e1:IntKind.wrap .i64 ((i:Int)+1)=((i+1:Nat):Int):=by rw [ai (by omega) (by omega)];omega
  obtain ⟨p,GC,E1,Ed⟩:=o9.rd.str (i:=(i:Int)) (by omega) (by omega);have Iw:aj H9 (p.add (Int.toNat (i:Int)*1))=some (.string ((gr v t)[i]).1):=by
   rw [Rn,Ed];simp only [SI,Ro]
  have Ks:=Ko _ (RG p8);have EN:=Kp i;have hfz:=(EN.1.form Ks.2).2;have e9':(⟨#[32,61,32]⟩:ByteArray).size=3:=rfl;have e8':(⟨#[10]⟩:ByteArray).size=1:=rfl;refine ⟨⟨by omega,an⟩,_,E1,_,Iw,rM (K9.ek hK ht).1 hT.hv fun H10 f10=>⟨_,_,rfl,cj (cS (by omega)) ?_⟩⟩;rw [hval p8];have K10:=K9.nil f10;have Ku:=K10.2.2.2.2.1;obtain ⟨_,_,_,_,_,IA,Nz,_⟩:=id K10;refine ⟨_,Nz.cell 0,ur (K10.ek hK ht) hT IA EN.1 Ks.2 fun H11 X11 L11 u11=>⟨_,rfl,cj (cS (by rw [Rv];omega)) (cj (cS (by rw [Rv,Rv];omega)) ?_)⟩⟩;have K11:=K10.look L11 u11;have Kv:=K11.2.2.2.2.1;refine K11.wstr (by omega) (by rw [Rv,Rv,Rv];omega) fun H12 G12 K12 f12=>⟨_,_,rfl,⟨i+1,X11,G12,by rw [e1],by omega,?_,fun z hz=>?_⟩,by simp;omega⟩
  ·rw [Lm p8];exact K12
  ·have NA:z∉(H5.size+1) :: G9:=fun hm=>(Kv z hz).2 (by
    simp only [Rl,Rk] at hm ⊢;rcases hm with h1 | h1
    ·exact .inr (.inr (.inr (.inr (.inl h1))))
    ·exact .inr (.inr (.inr (.inr (.inr h1)))))
   rw [f12.2 z (Kv z hz).1 NA,u11.1.2 z (Ku z hz).1 (fun hm=>(Ku z hz).2 (by simp [hm])),f10.2 z (Qp z hz).1 (by simp),e9 z hz]
 ·have DO:i=(gr v t).length:=by omega
  have e2:(gr v t).take i=gr v t:=by rw [DO];exact Sl
  have EN:=Kp i;rw [e2] at K9 EN;obtain ⟨_,_,_,_,_,_,Qq,_⟩:=id K9;refine ⟨_,Qq.cell 0,?_⟩;apply Ac;dsimp only [bf,am,bg];refine ⟨_,_,_,rfl,fun fn=>?_⟩;simp only [RA,Nat.add_assoc,Nat.reduceAdd];unfold rP at h;have Kt:=jM (nm:=ic v t) EN.1 hT.sok GJ 2000 (Rw _);have hGz:=EN.2;refine y7 hK ht hT FM FQ EN.1 (by omega) K9 rfl rfl (fun hl hq=>gR hl hq) fun H11 X11 G11 K11=>?_;obtain ⟨_,_,_,_,_,NB,NC,_⟩:=id K11;obtain ⟨mb,a2,l2,c2,g2,_,_,_,_,hB,_,_⟩:=NB;refine ⟨_,NC.cell 0,_,rfl,_,hB.cell 3,?_⟩;cases hm:(LW.lines (ic v t) (ij s.h) (LW.globs (gr v t)) 2000).2.more with
  | true =>
   rw [hm] at h;rw [Rj rfl] at h;exact fQ rfl (K11.wstr (by omega) (by decide) fun H12 G12 K12 _=>⟨_,_,rfl,yA K12 (Rw _) h⟩)
  | false =>
   rw [hm] at h;rw [Re (by simp)] at h;exact ck rfl (yA K11 (Rw _) h)
end
def HB (H:ae) (b sb hb:Nat):Prop:=aj H ⟨b,0,none⟩=some (Cv sb)∧aj H ⟨sb,0,none⟩=some (Cv hb)
theorem dn {H:ae}{b o:Nat}{v:Value} (h:aj H ⟨b,o,none⟩=some v):b<H.size:=by
 unfold aj at h;rcases Sf b H.size with h1 | h1
 ·exact h1
 ·simp only [Sd h1] at h;cases h
theorem HB.nil {H H':ae}{b sb hb:Nat} (h:HB H b sb hb) (hf:Fr [] H H'):HB H' b sb hb:=by
 obtain ⟨h1,h2⟩:=h;exact ⟨by rw [cg hf (by simp) (dn h1)];exact h1,by rw [cg hf (by simp) (dn h2)];exact h2⟩
section
variable {H:ae}{b sb hb:Nat}{F:aB}{s:SP}{t:TB}{Q:QT}
theorem PK.hp (hK:PK H b F s t) (hB:HB H b sb hb):∃ F1,dd H hb F1 s.h∧(∀ x∈F1,x∈F)∧∀ H' r',dd H' hb F1 r'->Fr F1 H H'->PK H' b F { s with h:=r' } t∧HB H' b sb hb:=by
 obtain ⟨sb',F1,hc,hS,b9,Oz,_,pp⟩:=hK.sp;obtain ⟨l9,p9⟩:=hB;rw [hc] at l9;have e:sb'=sb:=by simpa using l9
 subst e;obtain ⟨er,F2,hR,c0,_,_,q8,DD,Dt⟩:=hS.upd;rw [c0] at p9;have e:er=hb:=by simpa using p9
 subst e;have s6:=hK.lt b hK.bmem;have Gn:=hS.lt _ hS.bmem;refine ⟨F2,hR,fun x hx=>b9 x (q8 x hx),fun H' r' EW hf=>⟨pp H' _ (Dt H' r' EW hf) (hf.mono q8),?_,?_⟩⟩
 ·rw [cg hf (fun hm=>Oz (q8 b hm)) s6];exact hc
 ·rw [cg hf DD Gn];exact c0
theorem PK.tbB (hK:PK H b F s t) (hB:HB H b sb hb):∃ tb F2,aj H ⟨b,1,none⟩=some (Cv tb)∧mD H tb F2 t∧∀ H' F2' t',mD H' tb F2' t'->Up F2 H F2' H'->(∃ F',PK H' b F' s t'∧Up F H F' H')∧HB H' b sb hb:=by
 obtain ⟨sb0,tb,F1,F2,rfl,h1,h2,h3,k1,k2,Lq,hS,hT⟩:=hK;have hK:PK H b (b :: (F1++F2)) s t:=⟨sb0,tb,F1,F2,rfl,h1,h2,h3,k1,k2,Lq,hS,hT⟩;obtain ⟨tb',F2',ND,IW,hsub',hbF',hup',_⟩:=hK.tb;obtain ⟨l9,p9⟩:=hB;have e0:aj H ⟨b,0,none⟩=some (Cv sb0):=Lq.cell 0;rw [e0] at l9;have e:sb0=sb:=by simpa using l9
 subst e;have s6:=hK.lt b hK.bmem;have Gn:=hS.lt _ hS.bmem;refine ⟨tb,F2,Lq.cell 1,hT,fun H' F2' t' IB hu=>⟨?_,?_,?_⟩⟩
 ·have an:=hK.lt;have D8:=hK.kinds.lt;have PS:=hS.gk;refine ⟨b :: (F1++F2'),⟨_,tb,F1,F2',rfl,h1,Up.out hu h2 s6,fun x hx s7=>?_,k1,Up.out hu k2 D8,Lq.fr hu.1 h2,hS.fr hu.1 h3 k2,IB⟩,hu.1.mono fun x hx=>by simp [hx],fun x hx=>?_⟩
  ·rcases hu.2 x s7 with h4 | h4
   ·exact h3 x hx h4
   ·have:=an x (by simp [hx]);omega
  ·rcases Rk.1 hx with rfl | hx
   ·exact .inl (by simp)
   ·rcases Rl.1 hx with hx | hx
    ·exact .inl (by simp [hx])
    ·exact (hu.2 x hx).imp (fun h4=>by simp [h4]) id
 ·rw [cg hu.1 h2 s6];exact e0
 ·rw [cg hu.1 (h3 _ hS.bmem) Gn];exact p9
theorem lf {r:RH} (h:∀ k x,aG r.objs k=some x->x.fmt=0) (k i w:Int):∀ j x,aG (r.put k i w).2.objs j=some x->x.fmt=0:=fun j x hx=>by
 obtain ⟨y,h1,h2⟩:=rQ k i w j hx;rw [h2];exact h j y h1
theorem wS (o:Int) (l:List Int):∀ (i:Int){r:RH},(∀ k x,aG r.objs k=some x->x.fmt=0)->∀ j x,aG (r.lay o i l).objs j=some x->x.fmt=0:=by
 induction l with
 | nil=>intro i r h;exact h
 | cons w l ih=>intro i r h;exact ih (i+1) (lf h o i w)
theorem nI {r:RH} (h:∀ k x,aG r.objs k=some x->x.fmt=0) (n:Nat):∀ j x,aG (fY r n).objs j=some x->x.fmt=0:=by
 induction n with
 | zero=>exact h
 | succ n ih=>exact lf (wS _ _ _ ih) _ _ _
theorem AS (hK:PK H b F s ⟨4096,[]⟩) (hB:HB H b sb hb) (FO:∀ k x,aG s.h.objs k=some x->x.fmt=0)
  (h:∀ H' F',PK H' b F' { s with h:=cX s.h } cF->HB H' b sb hb->Up F H F' H'->Q (.tuple #[]) H'):ag PP 28 #[Cv b] Q H:=by
 have GH:bQ.length=14:=rfl;apply zY;dsimp only [bf,aH,cG,dB,ah,aA,aZ,aM,aQ,fE,bl,ac,bm,vw,ce,bt,ao,am,bg,bh,az,bn,aI];obtain ⟨sb0,F1,hc,hS,_⟩:=hK.sp;have e0:sb0=sb:=by
  have:=hB.1;rw [hc] at this;simpa using this
 subst e0;refine ⟨_,rfl,_,hc,?_⟩;have Qr:∀ {Q':Value->ae->Prop},Q' (Cv hb) H->ag PP 13 #[Cv sb0] Q' H:=by
  intro Q' hq;obtain ⟨er,F1',hR,c0,_⟩:=hS.upd;obtain ⟨l9,p9⟩:=hB;rw [c0] at p9;have e:er=hb:=by simpa using p9
  subst e;apply u0;dsimp only [bK,ah,aQ,ao,am];refine fG hS ⟨_,rfl,?_⟩;simp only [Rh];exact ⟨_,rfl,_,c0,hq⟩
 refine Qr ⟨_,rfl,?_⟩;apply um;dsimp only [bf,ax,bg,bh];refine ⟨_,_,_,rfl,?_⟩;have fp:=(Fr.push [] H (.cells (bF bQ).toArray 9));have hN:Rd 1 (H.push (.cells (bF bQ).toArray 9)) (some ⟨H.size,0,none⟩) 14 (bF bQ):=by
  refine ⟨rfl,(fun h=>by cases h),fun p hp k hk=>?_⟩;cases hp;rw [ak,Rm,(bW.new H _ _).cell];simp
 have OU:pd (H.push (.cells (bF bQ).toArray 9)) (some ⟨H.size,0,none⟩) F:=fun p hp=>by
  cases hp;exact ⟨by simp,fun hm=>absurd (hK.lt _ hm) (SJ _)⟩
 have DF:=hK.nil fp;have tw:HB (H.push (.cells (bF bQ).toArray 9)) b sb0 hb:=HB.nil hB fp;show ∃(I8:List Value->ae->Prop) (μ8:List Value->ae->Nat),I8 [ac 0] (H.push (.cells (bF bQ).toArray 9))∧_;generalize (H.push (.cells (bF bQ).toArray 9))=H0 at fp hN OU DF tw ⊢;refine ⟨fun w H'=>∃(i:Nat) (F':aB),w=[ac i]∧i<=14∧PK H' b F' { s with h:=fY s.h i } ⟨4096,bQ.take i⟩∧HB H' b sb0 hb∧Up F H0 F' H',fun w _=>match w with
  | [.int _ i]=>(14-i).toNat
  | _=>0,⟨0,F,rfl,by decide,DF,tw,Up.refl _ _⟩,?_⟩
 rintro w H3 ⟨i,F3,rfl,hi,Dy,Ea,He⟩ _;refine ⟨_,rfl,?_⟩;rw [af];refine ba (fun an=>?_) fun an=>?_
 ·have cx:i<bQ.length:=by omega
  obtain ⟨p,ap,hp,al⟩:=(OU.rd He hN).str (i:=(i:Int)) (by omega) (by omega);cases hp;simp only [Ro] at al ap;have e1:IntKind.wrap .i64 ((i:Int)+1)=((i+1:Nat):Int):=by rw [ai (by omega) (by omega)];omega
  have e1':IntKind.wrap .i64 ((i:Int)+1)=(i:Int)+1:=ai (by omega) (by omega);have e4:IntKind.wrap .i64 (4+(i:Int))=4+(i:Int):=ai (by omega) (by omega);obtain ⟨tb,F4,EY,Qs,DX⟩:=PK.tbB Dy Ea;refine ⟨⟨by omega,an⟩,_,rfl,_,by rw [Ro,Rn];exact al,_,rfl,_,EY,rL Qs fun H4 F4' Kx Ex=>⟨_,_,rfl,?_⟩⟩;rw [rK cx] at Kx ⊢;obtain ⟨⟨F5,C9,DY⟩,Lo⟩:=DX H4 F4' _ Kx Ex;refine yM ⟨by simp only;omega,by simp only;omega⟩ ⟨_,_,rfl,dt (by decide) ⟨_,rfl,?_⟩⟩;refine ⟨fun w H'=>w=[ac (if i=0 then 4 else 16)]∧H'=H4,?_,?_⟩
  ·rw [bq,af];refine ba (fun h0=>dt (by decide) ⟨_,rfl,?_,rfl⟩) fun h0=>⟨?_,rfl⟩
   ·rw [Rj (by omega)];rfl
   ·rw [Re (by omega)];rfl
  rintro w H4' ⟨rfl,rfl⟩ _;refine ⟨_,rfl,dt (by decide) ⟨_,rfl,dt (by decide) ⟨_,rfl,dt (by decide) ⟨_,rfl,nJ (by decide) ⟨_,rfl,?_⟩⟩⟩⟩⟩;rw [e1',e4];refine nJ ⟨by omega,by omega⟩ ⟨_,rfl,?_⟩;have fq:=(Fr.push [] H4' (.cells (au (d7 i)).toArray 31));have hW:Rd 1 (H4'.push (.cells (au (d7 i)).toArray 31)) (some ⟨H4'.size,0,none⟩) 7 (au (d7 i)):=gi (cs:=d7 i);have Ky:pd (H4'.push (.cells (au (d7 i)).toArray 31)) (some ⟨H4'.size,0,none⟩) F5:=fun p hp=>by
   cases hp;exact ⟨by simp,fun hm=>absurd (C9.lt _ hm) (SJ _)⟩
  have Ew:=C9.nil fq;have Kz:HB (H4'.push (.cells (au (d7 i)).toArray 31)) b sb0 hb:=HB.nil Lo fq;show ∃(I38:List Value->ae->Prop) (μ38:List Value->ae->Nat),I38 [ac 0] (H4'.push (.cells (au (d7 i)).toArray 31))∧_;generalize (H4'.push (.cells (au (d7 i)).toArray 31))=H6 at fq hW Ky Ew Kz ⊢;refine ⟨fun w H'=>∃(k:Nat) (r:RH),w=[ac k]∧k<=7∧PK H' b F5 { s with h:=r } ⟨4096,bQ.take (i+1)⟩∧HB H' b sb0 hb∧Fr F5 H6 H'∧r.lay (4+i) k ((d7 i).drop k)=(fY s.h i).lay (4+i) 0 (d7 i)∧∀ j x,aG r.objs j=some x->x.fmt=0,fun w _=>match w with
   | [.int _ k]=>(7-k).toNat
   | _=>0,⟨0,fY s.h i,rfl,by decide,Ew,Kz,Fr.refl _ _,rfl,nI FO i⟩,?_⟩
  rintro w H7 ⟨k,r,rfl,Qt,Fe,KA,Gu,v7,hr⟩ _;refine ⟨_,rfl,?_⟩;rw [af];refine ba (fun DN=>?_) fun DN=>?_
  ·have IC:k<(d7 i).length:=by show k<7;omega
   obtain ⟨p,hp,al,FW⟩:=(hW.fr' Gu fun p hp=>(Ky p hp).2).int (i:=(k:Int)) (by omega) (by omega);cases hp;rw [Ro] at al FW;have hx:(d7 i).getD k 0=(d7 i)[k]:=by simp [IC]
   rw [hx] at al;have ed:(d7 i).drop k=(d7 i)[k] :: (d7 i).drop (k+1):=Sj IC;have ek:IntKind.wrap .i64 ((k:Int)+1)=((k+1:Nat):Int):=by rw [ai (by omega) (by omega)];omega
   obtain ⟨F8,KB,DZ,FX⟩:=PK.hp Fe KA;refine ⟨⟨by omega,DN⟩,_,rfl,_,by rw [Ro,Rn];exact al,mB KB (hr _) fun H9 Hf FP=>⟨_,rfl,?_⟩⟩;obtain ⟨Ee,Fh⟩:=FX H9 _ Hf FP;rw [ek];refine ⟨⟨k+1,(r.put (4+i) k (d7 i)[k]).2,rfl,by omega,Ee,Fh,Gu.trans (FP.mono DZ),?_,lf hr _ _ _⟩,by simp;omega⟩;rw [←v7,ed];rfl
  ·have hk:k=7:=by omega
   subst hk;have hz:(d7 i).drop 7=[]:=rfl;rw [hz] at v7;simp only [RH.lay] at v7;subst v7;refine dt ⟨by omega,by omega⟩ ⟨_,rfl,?_⟩;obtain ⟨F8,KB,DZ,FX⟩:=PK.hp Fe KA;refine mB KB (hr _) fun H9 Hf FP=>⟨_,rfl,?_⟩;obtain ⟨Ee,Fh⟩:=FX H9 _ Hf FP;rw [show (i:Int)+1=((i+1:Nat):Int) by omega];refine ⟨⟨i+1,F5,rfl,by omega,Ee,Fh,?_⟩,by simp;omega⟩;exact (He.trans DY).trans ((Up.of_nil fq).trans ⟨Gu.trans (FP.mono DZ),fun _ h=>.inl h⟩)
 ·have FY:i=14:=by omega
  subst FY;have fq:=(Fr.push [] H3 (.cells (au [20,18,18,18,1,2,3]).toArray 3));have hW:Rd 1 (H3.push (.cells (au [20,18,18,18,1,2,3]).toArray 3)) (some ⟨H3.size,0,none⟩) 7 (au [20,18,18,18,1,2,3]):=gi (cs:=[20,18,18,18,1,2,3]);have Ky:pd (H3.push (.cells (au [20,18,18,18,1,2,3]).toArray 3)) (some ⟨H3.size,0,none⟩) F3:=fun p hp=>by
   cases hp;exact ⟨by simp,fun hm=>absurd (Dy.lt _ hm) (SJ _)⟩
  have Ew:=Dy.nil fq;have Kz:HB (H3.push (.cells (au [20,18,18,18,1,2,3]).toArray 3)) b sb0 hb:=HB.nil Ea fq;show ∃(I38:List Value->ae->Prop) (μ38:List Value->ae->Nat),I38 [ac 0] (H3.push (.cells (au [20,18,18,18,1,2,3]).toArray 3))∧_;generalize (H3.push (.cells (au [20,18,18,18,1,2,3]).toArray 3))=H6 at fq hW Ky Ew Kz ⊢;refine ⟨fun w H'=>∃(k:Nat) (r:RH),w=[ac k]∧k<=7∧PK H' b F3 { s with h:=r } cF∧HB H' b sb0 hb∧Fr F3 H6 H'∧r.lay 19 k (nC.drop k)=cX s.h∧∀ j x,aG r.objs j=some x->x.fmt=0,fun w _=>match w with
   | [.int _ k]=>(7-k).toNat
   | _=>0,⟨0,fY s.h 14,rfl,by decide,by rw [show cF=⟨4096,bQ.take 14⟩ from rfl];exact Ew,Kz,Fr.refl _ _,by rw [cX];rfl,nI FO 14⟩,?_⟩
  rintro w H7 ⟨k,r,rfl,Qt,Fe,KA,Gu,v7,hr⟩ _;refine ⟨_,rfl,?_⟩;rw [af];refine ba (fun DN=>?_) fun DN=>?_
  ·have IC:k<7:=by omega
   obtain ⟨p,hp,al,FW⟩:=(hW.fr' Gu fun p hp=>(Ky p hp).2).int (i:=(k:Int)) (by omega) (by omega);cases hp;rw [Ro] at al FW;have ek:IntKind.wrap .i64 ((k:Int)+1)=((k+1:Nat):Int):=by rw [ai (by omega) (by omega)];omega
   have hx:1<=([20,18,18,18,1,2,3]:List Int).getD k 0∧([20,18,18,18,1,2,3]:List Int).getD k 0<=65536∧nC.drop k=4*([20,18,18,18,1,2,3]:List Int).getD k 0 :: nC.drop (k+1):=by
    rcases k with _ | _ | _ | _ | _ | _ | _ | k
    all_goals first | exact ⟨by decide,by decide,by decide⟩ | omega
   obtain ⟨F8,KB,DZ,FX⟩:=PK.hp Fe KA;refine ⟨⟨by omega,DN⟩,_,rfl,_,by rw [Ro,Rn];exact al,dt ⟨hx.1,hx.2.1⟩ ⟨_,rfl,mB KB (hr _) fun H9 Hf FP=>⟨_,rfl,?_⟩⟩⟩;obtain ⟨Ee,Fh⟩:=FX H9 _ Hf FP;rw [ek];refine ⟨⟨k+1,_,rfl,by omega,Ee,Fh,Gu.trans (FP.mono DZ),?_,lf hr _ _ _⟩,by simp;omega⟩;rw [←v7,hx.2.2];rfl
  ·have hk:k=7:=by omega
   subst hk;have hz:nC.drop 7=[]:=rfl;rw [hz] at v7;have KC:r=cX s.h:=v7;rw [KC] at Fe;have Io:Up F3 H3 F3 H7:=(Up.of_nil fq).trans ⟨Gu,fun _ h=>.inl h⟩;have Ey:Up F H F3 H7:=((Up.of_nil fp).trans He).trans Io;exact h H7 F3 Fe KA Ey
end
section
def dz:List (Int × Int)->List Value
 | []=>[]
 | (c,n) :: l=>ac c :: ac n :: dz l
theorem jT (l m:List (Int × Int)):dz (l++m)=dz l++dz m:=by
 induction l with
 | nil=>rfl
 | cons x l ih=>obtain ⟨c,n⟩:=x;simp [dz,ih]
theorem tR (l:List (Int × Int)):(dz l).length=2*l.length:=by
 induction l with
 | nil=>rfl
 | cons x l ih=>obtain ⟨c,n⟩:=x;simp only [dz,RF,ih];omega
theorem sM (l:List (Int × Int)):∀ v∈dz l,dw v=true:=by
 induction l with
 | nil=>intro v hv;cases hv
 | cons x l ih =>
  obtain ⟨c,n⟩:=x;intro v hv;simp only [dz,Rk] at hv;rcases hv with rfl | rfl | hv
  ·rfl
  ·rfl
  ·exact ih v hv
theorem sE {l:List (Int × Int)}{i:Nat} (h:i<l.length):(dz l)[i*2]?=some (ac l[i].1)∧(dz l)[i*2+1]?=some (ac l[i].2):=by
 induction l generalizing i with
 | nil=>simp at h
 | cons x l ih =>
  obtain ⟨c,n⟩:=x;cases i with
  | zero=>simp [dz]
  | succ i =>
   have:=ih (i:=i) (by simpa using h);have e:(i+1)*2=i*2+2:=by omega
   rw [e];simpa [dz] using this
theorem iW (r:RH) (x:Int × Int) (l:List (Int × Int)):r.allocAll (x :: l)=if (r.alloc (4*x.1) x.2 0).1.2≠0 then ((r.alloc (4*x.1) x.2 0).1.2,(r.alloc (4*x.1) x.2 0).2) else RH.allocAll (r.alloc (4*x.1) x.2 0).2 l:=by
 obtain ⟨c,n⟩:=x;rfl
theorem ni (words oops:Int):cX (((bO words oops).allocAll aE).2)=bI words oops:=rfl
theorem th {words oops:Int} (hz:((bO words oops).allocAll aE).1=0):((bO words oops).allocAll aE).2.objs=dK:=by
 rw [gp aE (r:=bO words oops) rfl hz];rfl
theorem nv {words oops:Int} (hw:WFH (bI words oops)) (hz:((bO words oops).allocAll aE).1=0):((bI words oops).clsAt 19).2=0:=by
 obtain ⟨x,hx,_⟩:=rW hw hz (p:=(19,[80,72,72,72,4,8,12,4])) (by decide);unfold RH.clsAt;simp only at hx;rw [hx]
attribute [local irreducible] bI cX dK
section
variable {H:ae}{Q:QT}
theorem mG:∀ i (hi:i<aE.length),1<=(aE[i]).1∧(aE[i]).1<=65536:=by decide
theorem ya {words oops:Int} (hk:dG H) (l8:¬ (0<=words∧words<=1048576∧0<=oops∧oops<=65536)->Q (.tuple #[.pointer none,ac 1]) H)
  (h1:(0<=words∧words<=1048576∧0<=oops∧oops<=65536)->((bO words oops).allocAll aE).1≠0->∀ H',Fr [] H H'->Q (.tuple #[.pointer none,ac ((bO words oops).allocAll aE).1]) H')
  (h2:(0<=words∧words<=1048576∧0<=oops∧oops<=65536)->((bO words oops).allocAll aE).1=0->∀ b F H',PK H' b F (fC words oops) cF->Fr [] H H'->(∀ x∈F,H.size<=x)->Q (.tuple #[Cv b,ac 0]) H') :
  ag PP 4 #[ac words,ac oops] Q H:=by
 have hU:aY PP 72=some (2,16,some (.agg #[ac 0,ac 0])):=by kernel_rfl
 apply BB;dsimp only [bf,ci,aH,cG,dB,ah,aA,dU,eH,aZ,aM,bl,ac,bm,ce,dq,ax,bt,am,bg,bE,az,bi,bn,aI];refine wV hk (fun hb=>⟨_,_,rfl,l8 hb⟩) fun hg sb F1 H1 CX cp DM=>⟨_,_,rfl,?_⟩;simp only [show ((0:Int) != 0)=false from rfl,Rh];have h1:=h1 hg;have h2:=h2 hg;refine xl (fun hb=>absurd ⟨by decide,by decide⟩ hb) fun _ tb F2 H2 IB g9 s4=>⟨_,_,rfl,?_⟩;simp only [show ((0:Int) != 0)=false from rfl,Rh];have w6:=cp.trans g9;have DT:=CX.nilfr g9;have D8:=hk.lt;have Dy:PK (H2.push (.cells #[Cv sb,Cv tb] 70)) H2.size (H2.size :: (F1++F2)) ⟨bO words oops,0,[],false,0,0,0⟩ ⟨4096,[]⟩:=by
  have fp:=Fr.push [] H2 (.cells #[Cv sb,Cv tb] 70);have l1:=DT.lt;have l1':=CX.lt;have l2:=IB.lt;refine ⟨sb,tb,F1,F2,rfl,fun hm=>absurd (l1 _ hm) (SJ _),fun hm=>absurd (l2 _ hm) (SJ _),fun x hx s7=>?_,?_,fun hm=>?_,bW.new _ _ _,DT.nilfr fp,IB.fr fp (bL.nil_right _)⟩
  ·have:=s4 x s7;have:=l1' x hx;omega
  ·have:=w6.1;omega
  ·have:=s4 _ hm;have:=cp.1;omega
 have ly:Fr [] H (H2.push (.cells #[Cv sb,Cv tb] 70)):=w6.more;have Di:∀ x∈H2.size :: (F1++F2),H.size<=x:=fun x hx=>by
  rcases Rk.1 hx with rfl | hx
  ·exact w6.1
  ·rcases Rl.1 hx with hx | hx
   ·exact DM x hx
   ·exact Rr cp.1 (s4 x hx)
 generalize Qu:(H2.push (.cells #[Cv sb,Cv tb] 70))=H3 at Dy ly ⊢;generalize (H2.size :: (F1++F2))=F3 at Dy Di;apply um;dsimp only [bf,ax,bg,bh];refine ⟨_,_,_,rfl,?_⟩;have FW:=Dy.lt;have OV:bZ 2 (H3.push (.cells (dz [(5,0),(6,0),(7,0)]).toArray 71)) (some ⟨H3.size,0,none⟩) 3 3 (dz [(5,0),(6,0),(7,0)]) [H3.size]:=⟨rfl,Rw _,.inr ⟨H3.size,_,rfl,rfl,bW.new _ _ _,rfl,rfl⟩⟩;have fq:Fr [] H3 (H3.push (.cells (dz [(5,0),(6,0),(7,0)]).toArray 71)):=Fr.push _ _ _;generalize Qv:(H3.push (.cells (dz [(5,0),(6,0),(7,0)]).toArray 71))=H4 at OV fq;have JY:bZ 2 (H4.push (.cells (bF bQ).toArray 9)) (some ⟨H3.size,0,none⟩) 3 3 (dz [(5,0),(6,0),(7,0)]) [H3.size]:=OV.fr (Fr.push [] _ _) (by simp);have fr1:Fr [] H3 (H4.push (.cells (bF bQ).toArray 9)):=fq.more;show ∃(I11:List Value->ae->Prop) (μ11:List Value->ae->Nat),I11 [.slice (some ⟨H3.size,0,none⟩) 3 3,ac 0] ((H3.push (.cells (dz [(5,0),(6,0),(7,0)]).toArray 71)).push (.cells (bF bQ).toArray 9))∧_;rw [Qv];generalize (H4.push (.cells (bF bQ).toArray 9))=H5 at JY fr1 ⊢;refine ⟨fun w H'=>∃(i:Nat) (a:Option Addr) (l c:Nat) (G:aB),w=[.slice a l c,ac i]∧i<=14∧bZ 2 H' a l c (dz ([(5,0),(6,0),(7,0)]++List.replicate i (12,7))) G∧Fr [] H3 H'∧(∀ x∈G,H3.size<=x),fun w _=>match w with
  | [_,.int _ i]=>(14-i).toNat
  | _=>0,⟨0,_,_,_,_,rfl,by decide,JY,fr1,by simp⟩,?_⟩
 rintro w H6 ⟨i,a,l,c,G,rfl,hi,ho,DQ,hG⟩ _;have hl:l=3+i:=by have:=ho.len;rw [tR] at this;simp at this;omega
 refine ⟨_,_,_,_,rfl,?_⟩;rw [af];refine ba (fun an=>?_) fun an=>?_
 ·have e1:IntKind.wrap .i64 ((i:Int)+1)=((i+1:Nat):Int):=by rw [ai (by omega) (by omega)];omega
  refine bD hU rfl (by kernel_rfl) ho rfl (by simp [dw]) (by omega) (by decide) (by decide) fun a' c' G2 H7 g1 g2 g3=>⟨_,_,_,rfl,?_⟩;obtain ⟨f7,Is⟩:=Up.fresh DQ g2 hG;rw [e1];refine ⟨⟨i+1,a',l+1,c',G2,rfl,by omega,?_,f7,Is⟩,by simp;omega⟩;rw [Tv,←R9,jT];exact g1
 have FY:i=14:=by omega
 subst FY;have fl:Fr [] H6 (H6.push (.cells (dz [(11,0),(11,8),(11,14)]).toArray 71)):=Fr.push _ _ _;refine dp (l2:=3) (ys:=dz [(11,0),(11,8),(11,14)]) hU rfl (by kernel_rfl) (ho.fr fl (by simp)) ⟨rfl,(fun h=>by cases h),fun p hp k AT=>?_⟩ (sM _) (by omega) (by decide) (by decide) fun a' c' G2 H7 g1 g2 g3=>⟨_,_,_,rfl,?_⟩
 ·cases hp;rw [ak,Rm];exact ((bW.new H6 (dz [(11,0),(11,8),(11,14)]).toArray 71).cell k).trans (by simp)
 obtain ⟨f7,Is⟩:=Up.fresh (DQ.trans fl) g2 hG;rw [←jT] at g1;have ep:[(5,0),(6,0),(7,0)]++List.replicate 14 (12,7)++[(11,0),(11,8),(11,14)]=aE:=rfl;rw [ep] at g1;subst hl;have Qw:Rd 2 H7 a' 20 (dz aE):=g1.rd;have Ir:pd H7 a' F3:=fun p hp=>by
  have an:=g1.lt;rcases g1.2.2 with ⟨h3,_⟩ | ⟨b',cs,h3,h4,_⟩
  ·rw [h3] at hp;cases hp
  ·rw [h3] at hp;cases hp;have er:b'∈G2:=by rw [h4];simp
   exact ⟨an _ er,fun hm=>by have h5:=Is _ er;have h6:=FW _ hm;simp only at h6;omega⟩
 have Fe:=Dy.nil f7;have EJ:aj H3 ⟨H2.size,0,none⟩=some (Cv sb):=by rw [←Qu];exact (bW.new H2 _ _).cell 0
 have Qx:aj H7 ⟨H2.size,0,none⟩=some (Cv sb):=by rw [cg f7 (by simp) (dn EJ)];exact EJ
 have Gu:=ly.trans f7;have Lr:aE.length=20:=rfl;refine ⟨fun w H'=>∃(k:Nat) (r:RH) (st:List Int) (F':aB),w=[ac k]∧k<=20∧PK H' H2.size F' ⟨r,0,st,false,0,0,0⟩ ⟨4096,[]⟩∧Up F3 H7 F' H'∧st.length=k∧aj H' ⟨H2.size,0,none⟩=some (Cv sb)∧r.allocAll (aE.drop k)=(bO words oops).allocAll aE,fun w _=>match w with
  | [.int _ k]=>(20-k).toNat
  | _=>0,⟨0,_,_,_,rfl,by decide,Fe,Up.refl _ _,rfl,Qx,rfl⟩,?_⟩
 rintro w H8 ⟨k,r,st,F8,rfl,NE,E3,EL,lc,NF,be⟩ _;refine ⟨_,rfl,?_⟩;rw [af];refine ba (fun an=>?_) fun an=>?_
 ·have DN:k<aE.length:=by omega
  have e1:IntKind.wrap .i64 ((k:Int)+1)=((k+1:Nat):Int):=by rw [ai (by omega) (by omega)];omega
  have KD:Rd 2 H8 a' 20 (dz aE):=Qw.fr' EL.1 fun p hp=>(Ir p hp).2;have Lk:=mG k DN;obtain ⟨q0,q1⟩:=sE DN;have ed:aE.drop k=aE[k] :: aE.drop (k+1):=Sj DN;rw [ed] at be;have LX:∃ q,a'=some q:=by
   cases ha:a' with
   | none=>have:=KD.2.1 ha;omega
   | some q=>exact ⟨q,rfl⟩
  obtain ⟨q,rfl⟩:=LX;have c0:=KD.2.2 q rfl (k*2) (by omega);have c1:=KD.2.2 q rfl (k*2+1) (by omega);rw [q0] at c0;rw [q1] at c1;have eadd:(q.add (k*2)).add 1=q.add (k*2+1):=Addr.add_add _ _ _;refine ⟨⟨by omega,by omega⟩,_,rfl,_,by rw [Ro];exact c0,_,by rw [Ro,eadd];exact c1,?_⟩;have fpx:Fr [] H8 (H8.push (.cells #[ac 0,ac 0] 71)):=Fr.push _ _ _;have Lt:=bW.new H8 #[ac 0,ac 0] 71;generalize (H8.push (.cells #[ac 0,ac 0] 71))=H9 at fpx Lt ⊢;have Fh:=(Lt.set 0 (ac (aE[k]).1)).set 1 (ac (aE[k]).2);have f9:Fr [] H8 (bc (bc H9 ⟨H8.size,0,none⟩ (ac (aE[k]).1)) ⟨H8.size,1,none⟩ (ac (aE[k]).2)):=Fr.late (Fr.late fpx (Rw _)) (Rw _);refine ⟨Lt.wr (o:=0) (by simp),(Lt.set 0 _).wr (o:=1) (by simp),?_⟩;show ∃ n25:Int,aj (bc (bc H9 ⟨H8.size,0,none⟩ (ac (aE[k]).1)) ⟨H8.size,1,none⟩ (ac (aE[k]).2)) ⟨H8.size,0,none⟩=some (ac n25)∧∃ n26:Int,aj (bc (bc H9 ⟨H8.size,0,none⟩ (ac (aE[k]).1)) ⟨H8.size,1,none⟩ (ac (aE[k]).2)) ⟨H8.size,1,none⟩=some (ac n26)∧ag PP 13 _ _ (bc (bc H9 ⟨H8.size,0,none⟩ (ac (aE[k]).1)) ⟨H8.size,1,none⟩ (ac (aE[k]).2));generalize (bc (bc H9 ⟨H8.size,0,none⟩ (ac (aE[k]).1)) ⟨H8.size,1,none⟩ (ac (aE[k]).2))=HA at Fh f9 ⊢;have HF:=E3.nil f9;obtain ⟨sbA,FA,HG,KE,FZ,NG,KF,KG⟩:=HF.sp;have esb:sbA=sb:=by rw [cg f9 (by simp) (dn NF),NF] at HG;simpa using HG.symm
  subst esb;refine ⟨_,Fh.cell 0,_,Fh.cell 1,eh KE fun hb FB NH D0 ID=>⟨_,rfl,⟨⟨Fh.cell 1,trivial⟩,⟨Fh.cell 0,trivial⟩,trivial⟩,dt Lk ⟨_,rfl,⟨⟨Fh.cell 1,trivial⟩,trivial⟩,oz NH fun HB' NI HI=>⟨_,_,rfl,trivial,?_⟩⟩⟩⟩;have Lu:=ID HB' _ NI HI;have E4:=KG HB' _ Lu (HI.mono D0);have KH:Up F8 HA F8 HB':=⟨(HI.mono D0).mono FZ,fun _ h=>.inl h⟩;have hu8B:Up F3 H7 F8 HB':=EL.trans ((Up.of_nil f9).trans KH);rw [iW] at be;rw [bw,af];refine ba (fun he=>?_) fun he=>?_
  ·rw [Rj he] at be;have e0:((bO words oops).allocAll aE).1=(r.alloc (4*(aE[k]).1) (aE[k]).2 0).1.2:=by rw [←be]
   have:=h1 (by rw [e0];exact he) HB' ?_
   ·rw [e0] at this;exact this
   ·exact (Up.fresh Gu hu8B Di).1
  rw [Re he] at be;have hz:(r.alloc (4*(aE[k]).1) (aE[k]).2 0).1.2=0:=RE he;have C0:=jU E3.wfs.h hz;refine dt ⟨C0.2.1,C0.2.2.1⟩ ⟨_,rfl,?_⟩;have fpy:Fr [] HB' (HB'.push (.cells #[ac (4*(r.alloc (4*(aE[k]).1) (aE[k]).2 0).1.1)] 31)):=Fr.push _ _ _;have KI:=E4.nil fpy;obtain ⟨sbC,FC,Lv,IE,hsubC,Qy,IF,_⟩:=KI.sp;have KJ:aj HB' ⟨H2.size,0,none⟩=some (Cv sbA):=by rw [cg HI (fun hm=>NG (D0 _ hm)) (dn HG)];exact HG
  have OW:=cg fpy (b:=H2.size) (o:=0) (by simp) (dn KJ);rw [KJ] at OW;have esb:sbC=sbA:=by rw [OW] at Lv;simpa using Lv.symm
  subst esb;have Jw:=nP (s:=⟨(r.alloc (4*(aE[k]).1) (aE[k]).2 0).2,0,st,false,0,0,0⟩) (dW C0.2.1 C0.2.2.1) (by show st.length<65536;omega);refine mn IE (gi (cs:=[4*(r.alloc (4*(aE[k]).1) (aE[k]).2 0).1.1])) (by decide) fun HD FD OX Lw=>⟨_,rfl,?_⟩;rw [Jw] at OX ⊢;simp only [show ((0:Int) != 0)=false from rfl,Rh];obtain ⟨FE,Qz,QA⟩:=IF HD FD _ OX Lw;rw [e1];exact ⟨⟨k+1,_,_,FE,rfl,by omega,Qz,hu8B.trans ((Up.of_nil fpy).trans QA),by simp [lc],by rw [cg Lw.1 Qy (dn Lv)];exact Lv,be⟩,by simp;omega⟩
 ·have Gc:k=20:=by omega
  subst Gc;have ez:aE.drop 20=[]:=rfl;rw [ez] at be;have D1:(0,r)=(bO words oops).allocAll aE:=be;have hz:((bO words oops).allocAll aE).1=0:=by rw [←D1]
  have KK:r=((bO words oops).allocAll aE).2:=by rw [←D1]
  have OY:cX r=bI words oops:=by rw [KK];exact ni _ _
  have Nu:r.objs=dK:=by rw [KK];exact th hz
  obtain ⟨sb8,F9,NJ,QB,_⟩:=E3.sp;obtain ⟨hb8,_,_,NK,_⟩:=QB.upd;have esb8:sb8=sb:=by rw [NF] at NJ;simpa using NJ.symm
  subst esb8;refine AS E3 ⟨NJ,NK⟩ (fun j x hx=>?_) fun H9 FA HF QC IG=>⟨rfl,?_⟩
  ·rw [Nu] at hx;exact of_decide_eq_true (SG.1 sX x (aN hx).1)
  have KL:PK H9 H2.size FA ⟨bI words oops,0,st,false,0,0,0⟩ cF:=by rw [←OY];exact HF
  obtain ⟨sbA,F10,HG,KE,FZ,NG,_,KF⟩:=KL.sp;have esb:sbA=sb8:=by have:=QC.1;rw [HG] at this;simpa using this
  subst esb;have ll:WFH (bI words oops):=KL.wfs.h;have r0:((bI words oops).clsAt 19).2=0:=nv ll hz;refine sC KE fun HB Lu HI=>⟨_,rfl,?_⟩;have ecr:(SP.crown ⟨bI words oops,0,st,false,0,0,0⟩ 19)=(0,⟨bI words oops,19,st,false,0,0,0⟩):=by
   unfold SP.crown;rw [Re (by simpa using r0)]
  rw [ecr] at Lu;have E4:=KF HB _ Lu HI;obtain ⟨sbB,F11,OZ,NL,D0,_,_,ID⟩:=E4.sp;have esb:sbB=sbA:=by rw [cg HI NG (dn HG),HG] at OZ;simpa using OZ.symm
  subst esb;refine pz NL ⟨by decide,by decide⟩ fun HC IE Lx=>⟨_,rfl,?_⟩;have edr:(SP.drop ⟨bI words oops,19,st,false,0,0,0⟩ ((20:Nat):Int))=(0,fC words oops):=by
   unfold SP.drop;rw [Re (by simp only [lc];decide)];simp [lc,fC]
  have e20:((3+14+3:Nat):Int)=((20:Nat):Int):=rfl;rw [edr] at IE;have KI:=ID HC _ IE Lx;have NM:Up F3 H7 FA HC:=(EL.trans IG).trans ⟨(HI.mono FZ).trans (Lx.mono D0),fun _ h=>.inl h⟩
  have:=Up.fresh Gu NM Di;exact h2 hz H2.size FA HC KI this.1 this.2
end
end
def fu (n:Nat):Prop:=(97<=n∧n<=122)∨(65<=n∧n<=90)
instance (n:Nat):Decidable (fu n):=inferInstanceAs (Decidable (_∨_))
def og (s:ByteArray):Prop:=1<=s.size∧s.size<=32∧fu (gB s 0)∧∀ i,i<s.size->cP (gB s i)
noncomputable instance (s:ByteArray):Decidable (og s):=Classical.propDecidable _
section
variable {H:ae}{Q:QT}
theorem qj {n:Nat} (h:Q (.bool (decide (fu n))) H):ag PP 180 #[.int .u8 n] Q H:=by
 apply wz;dsimp only [bx,ah,az];have fin:∀ x:Bool,x=decide (fu n)->Q (.bool x) H:=fun x hx=>hx ▸ h;simp only [af];refine ba (fun h1=>ba (fun h2=>fin _ ?_) fun h2=>ba (fun h3=>fin _ ?_) fun h3=>fin _ ?_) fun h1=>ba (fun h3=>fin _ ?_) fun h3=>fin _ ?_
 all_goals
  rw [Sk];simp only [decide_eq_true_iff,true_iff,false_iff,RY];unfold fu;omega
theorem xt {x:ByteArray} (h:Q (.bool (decide (og x))) H):ag PP 126 #[.string x] Q H:=by
 apply ym;dsimp only [bx,bK,ah,bA,aZ,ac,ce,bt,az,mK,aI];have no:¬ og x->Q (.bool false) H:=fun hn=>by rw [Tj hn] at h;exact h
 rw [af];refine ba (fun h1=>no fun hn=>by have:=hn.1;omega) fun h1=>?_;rw [af];refine ba (fun h2=>no fun hn=>by have:=hn.2.1;omega) fun h2=>?_;have p6:0<x.size:=by omega
 obtain ⟨g1,g2⟩:=oN p6;refine ⟨_,⟨Sc 0,g1⟩,?_⟩;rw [g2];refine qj ⟨_,rfl,?_⟩;rw [←decide_not,af];refine ba (fun h3=>no fun hn=>h3 hn.2.2.1) fun h3=>?_;refine ⟨fun w H'=>H'=H∧∃ i:Nat,w=[ac i]∧i<=x.size∧∀ j,j<i->cP (gB x j),fun w _=>match w with
  | [.int _ i]=>(x.size-i).toNat
  | _=>0,⟨rfl,0,rfl,RL _,fun j hj=>by omega⟩,?_⟩
 rintro w H1 ⟨rfl,i,rfl,hi,be⟩ _;refine ⟨_,rfl,?_⟩;rw [af];refine ba (fun an=>?_) fun an=>?_
 ·have cx:i<x.size:=by omega
  have e:IntKind.wrap .i64 ((i:Int)+1)=((i+1:Nat):Int):=by rw [ai (by omega) (by omega)];omega
  obtain ⟨k1,k2⟩:=oN cx;have go:cP (gB x i)->(True∧∃ i_1:Nat,[Value.int .i64 (IntKind.wrap .i64 ((i:Int)+1))]=[ac i_1]∧i_1<=x.size∧∀ j,j<i_1->cP (gB x j))∧((x.size:Int)-(IntKind.wrap .i64 ((i:Int)+1))).toNat<((x.size:Int)-(i:Int)).toNat:=fun ha=>by
   rw [e];refine ⟨⟨trivial,i+1,rfl,by omega,fun j hj=>?_⟩,by omega⟩;rcases Sf j i with h5 | h5
   ·exact be j h5
   ·have:j=i:=by omega
    rw [this];exact ha
  have bad:¬ cP (gB x i)->Q (.bool false) H1:=fun ha=>no fun hn=>ha (hn.2.2.2 i cx);have k1':x[Int.toNat (i:Int)]?=some x[i]:=by rw [Ro];exact k1
  refine ⟨_,⟨by omega,k1'⟩,?_⟩;rw [k2];refine qj ⟨_,rfl,?_⟩;rw [←decide_not,af];have Lc:fu (gB x i)->cP (gB x i):=fun h=>by unfold fu at h;unfold cP;omega
  refine ba (fun h4=>?_) fun h4=>?_
  ·refine ⟨_,⟨by omega,k1'⟩,?_⟩;rw [k2,af];refine ba (fun h5=>bad (by unfold fu at h4;unfold cP;omega)) fun h5=>⟨_,⟨by omega,k1'⟩,?_⟩;rw [k2,af];refine ba (fun h6=>bad (by unfold fu at h4;unfold cP;omega)) fun h6=>?_
   have:=go (by unfold cP;omega);simpa using this
  ·have:=go (Lc (RE h4));simpa using this
 ·have:i=x.size:=by omega
  subst this;have MU:og x:=⟨p6,by omega,RE h3,be⟩;rw [SB MU] at h;exact h
theorem qq {x:ByteArray} (h:Q (.bool (decide (hZ 65 90 x))) H):ag PP 67 #[.string x] Q H:=by
 apply Aa;dsimp only [bx,bK,ah,bh,mK];refine xt ⟨_,rfl,?_⟩;rw [af];have fin:∀ y:Bool,y=decide (hZ 65 90 x)->Q (.bool y) H:=fun y hy=>hy ▸ h;refine ba (fun hp=>?_) fun hp=>?_
 ·obtain ⟨g1,g2⟩:=oN (show 0<x.size from hp.1);refine ⟨_,⟨Sc 0,g1⟩,?_⟩;rw [g2];refine fin _ ?_;rw [decide_eq_decide];have hl:=hp.2.2.1;unfold fu at hl;constructor
  ·exact fun h5=>⟨hp.1,hp.2.1,by omega,by omega,hp.2.2.2⟩
  ·rintro ⟨_,_,h6,h7,_⟩;omega
 ·refine fin _ ?_;have yB:¬ hZ 65 90 x:=fun hn=>hp ⟨hn.1,hn.2.1,.inr ⟨hn.2.2.1,hn.2.2.2.1⟩,hn.2.2.2.2⟩;rw [Tj yB]
end
section
variable {H:ae}{b:Nat}{F:aB}{s:SP}{t:TB}{v:KV}{Q:QT}
theorem xS (hK:RK H b F s t) (h:∀ H' nb,RK H' b F s t->bW H' nb #[ac (t.texts.length:Int),ac s.h.mark,ac (s.stack.length:Int)]->nb∉F->Fr [] H H'->H.size<=nb->Q (Cv nb) H'):ag PP 70 #[Cv b] Q H:=by
 apply AD;dsimp only [bf,aH,aO,aQ,ac,ax,ao,am,bg,az];obtain ⟨tb,F2,p9,hT,_⟩:=hK.tb;obtain ⟨sb,hb,F1,hc,c0,hR,_⟩:=hK.hp;obtain ⟨sb',F3,ND,hS,_⟩:=hK.sp;have esb:sb'=sb:=by rw [hc] at ND;simpa using ND.symm
 subst esb;obtain ⟨_,a,l,c,_,F4,_,_,_,_,_,_,_,_,hB,_,hO,_⟩:=hS;have KM:aj H ⟨sb',2,none⟩=some (.slice a l c):=hB.cell 2;have hl:l=s.stack.length:=by have:=hO.len;simpa [au] using this.symm
 subst hl;refine ⟨_,rfl,_,p9,_,rfl,_,hc,_,rfl,_,c0,_,rfl,_,hc,_,rfl,_,_,_,by rw [ak];exact KM,un hT ⟨_,rfl,⟨⟨by rw [ak];exact KM,trivial⟩,⟨hc,trivial⟩,⟨c0,trivial⟩,⟨hc,trivial⟩,trivial⟩,sS hR ⟨_,rfl,⟨⟨by rw [ak];exact KM,trivial⟩,⟨hc,trivial⟩,trivial⟩,trivial,?_⟩⟩⟩;have g9:=Fr.push [] H (.cells #[ac (t.texts.length:Int),ac s.h.mark,ac (s.stack.length:Int)] 191);exact h _ H.size (hK.nil g9) (bW.new _ _ _) (fun hm=>absurd (hK.lt _ hm) (SJ _)) g9 (Rw _)
end
section
variable {H:ae}{b:Nat}{F:aB}{s:SP}{t:TB}{v:KV}{Q:QT}
theorem BG (hK:RK H b F s t){nb:Nat}{cnt mk kp:Int} (hN:bW H nb #[ac cnt,ac mk,ac kp]) (DD:nb∉F) (Fi:0<=kp∧kp<=1000000){e:Int} (h:∀ H' F',RK H' b F' (jB s t mk cnt kp e).1 (jB s t mk cnt kp e).2->Up F H F' H'->Q (ac e) H') :
  ag PP 76 #[Cv b,Cv nb,ac e] Q H:=by
 have DS:=hK.wfs.many;apply zf;dsimp only [aH,ah,aM,aO,aQ,ac,ao,am,aI];unfold jB at h;obtain ⟨sb,F1,hc,hS,b9,_,pp⟩:=hK.sp;have GV:=hS;obtain ⟨_,a,l,c,_,F4,_,_,_,_,_,_,_,_,hB,_,hO,_⟩:=GV;have KM:aj H ⟨sb,2,none⟩=some (.slice a l c):=hB.cell 2;have hl:l=s.stack.length:=by have:=hO.len;simpa [au] using this.symm
 subst hl;have ew:IntKind.wrap .i64 ((s.stack.length:Int)-kp)=(s.stack.length:Int)-kp:=ai (by omega) (by omega);refine ⟨_,rfl,_,hc,_,rfl,_,hc,_,rfl,_,_,_,by rw [ak];exact KM,_,rfl,_,hN.cell 2,?_⟩;rw [ew];refine tZ hS fun H2 F2 DT FH=>⟨_,rfl,trivial,?_⟩;obtain ⟨F',It,Hg⟩:=pp H2 F2 _ DT FH;rw [bq,af];refine ba (fun h1=>?_) fun h1=>?_
 ·rw [Rj h1] at h
  have:=h H2 F' It Hg;rw [h1] at this;exact this
 rw [Re h1] at h;have O0:=hN.fr Hg.1 DD;have Kl:=Up.out Hg DD hN.lt;obtain ⟨tb,F3,EJ,hT,DU,_,Eu⟩:=It.tb;refine ⟨_,rfl,_,EJ,_,rfl,_,O0.cell 0,xx hT fun H3 F4 J3 He=>⟨_,rfl,trivial,?_⟩⟩;obtain ⟨F5,Dy,D2⟩:=Eu H3 F4 _ J3 He;have NN:=O0.fr D2.1 Kl;have KN:=Hg.trans D2;have ed:(s.drop ((s.stack.length:Int)-kp)).2.h=s.h:=by unfold SP.drop;split <;> rfl
 rw [bw,af];refine ba (fun h2=>?_) fun h2=>?_
 ·rw [Re h2] at h;obtain ⟨sb4,OI,F6,EY,c04,GQ,DW,_,DX⟩:=Dy.hp;refine ⟨_,rfl,_,EY,_,rfl,_,c04,_,rfl,_,NN.cell 1,uk GQ fun H5 J4 Gr=>⟨_,rfl,trivial,?_⟩⟩;obtain ⟨F7,C9,DY⟩:=DX H5 F6 _ J4 ⟨Gr,fun _ h=>.inl h⟩;simp only [ed] at C9;exact h H5 F7 C9 (KN.trans DY)
 ·have Fw:e=24:=RE h2;rw [Rj Fw] at h;refine h H3 F5 ?_ KN;generalize (s.drop ((s.stack.length:Int)-kp)).2=s' at *;cases s';simp only at ed;subst ed;exact Dy
theorem tK (hK:RK H b F s t){a:Option Addr}{l c:Nat}{own:List ByteArray} (hr:Rd 1 H a l (bF own)) (hout:sU H a l F) (C5:l<=100000000)
  (h:∀ H' F' a' l' c' G,RK H' b F' s (t.addAll [] own).2->Up F H F' H'->bZ 1 H' a' l' c' (au (t.addAll [] own).1.1) G->(∀ x∈G,H.size<=x∧x∉F')->Q (.tuple #[.slice a' l' c',ac (t.addAll [] own).1.2]) H') :
  ag PP 71 #[Cv b,.slice a l c] Q H:=by
 have hU:aY PP 44=some (1,8,some (ac 0)):=by kernel_rfl
 have hl:l=own.length:=by have:=hr.1;simpa [bF] using this.symm
 apply y6;dsimp only [bf,aH,ah,aA,aZ,aQ,fE,bl,ac,bm,dq,ax,bt,ao,am,bg,bE,bh,bn,aI];refine ⟨fun w H'=>∃(i:Nat) (t':TB) (acc:List Int) (a':Option Addr) (l' c':Nat) (G F':aB),w=[.slice a' l' c',ac i]∧i<=own.length∧RK H' b F' s t'∧Up F H F' H'∧t'.addAll acc (own.drop i)=t.addAll [] own∧bZ 1 H' a' l' c' (au acc) G∧(∀ x∈G,H.size<=x∧x∉F')∧acc.length=i,fun w _=>match w with
  | [_,.int _ i]=>(own.length-i).toNat
  | _=>0,⟨0,t,[],none,0,0,[],F,rfl,RL _,hK,Up.refl _ _,rfl,by simpa [au] using bZ.nil 1 H,by simp,rfl⟩,?_⟩
 rintro w H2 ⟨i,t2,acc,a2,l2,c2,G,F2,rfl,hi,It,FH,D3,ho,hG,NO⟩ _;have DI:l2=i:=by have:=ho.len;simp only [au,RZ] at this;omega
 refine ⟨_,_,_,_,rfl,?_⟩;rw [af];refine ba (fun an=>?_) fun an=>?_
 ·obtain ⟨p,ap,rfl,al⟩:=(hout.rd FH hr).str (i:=(i:Int)) (by omega) an;simp only [Ro] at al ap;have e1:IntKind.wrap .i64 ((i:Int)+1)=((i+1:Nat):Int):=by rw [ai (by omega) (by omega)];omega
  have ed:own.drop i=own[i] :: own.drop (i+1):=Sj ap;rw [ed,TB.addAll] at D3;obtain ⟨tb,F3,EJ,hT,DU,_,Eu⟩:=It.tb;refine ⟨_,rfl,_,EJ,⟨by omega,an⟩,_,rfl,_,by rw [Ro,Rn];exact al,uw hT fun H3 F4 J3 He=>⟨_,_,rfl,trivial,?_⟩⟩;obtain ⟨F5,Dy,D2⟩:=Eu H3 F4 _ J3 He;rw [bw,af];refine ba (fun h3=>?_) fun h3=>?_
  ·rw [Rj h3] at D3;rw [←D3] at h;exact h H3 F5 none 0 0 [] Dy (FH.trans D2) (bZ.nil 1 _) (by simp)
  rw [Re h3] at D3;have QD:(t2.add own[i]).1.2=0:=RE h3;obtain ⟨n,en,en2,_⟩:=jp own[i] QD;have O1:=Dy.wft;have h5:=(eq en2).2;have h6:=O1.m1;have h7:=O1.len;rw [en] at D3 ⊢;refine pr ⟨by omega,by omega⟩ ⟨_,rfl,?_⟩;have QE:∀ x∈G,x<H2.size:=ho.lt;have QF:bZ 1 H3 a2 l2 c2 (au acc) G:=ho.fr D2.1 fun x hx=>(hG x hx).2;refine bD hU rfl (by kernel_rfl) QF rfl (by simp [dw]) (by omega) (by decide) (by decide) fun a' c' G2 H4 g1 g2 g3=>⟨_,_,_,rfl,?_⟩;rw [e1];have NP:∀ x∈G,H.size<=x∧x∉F5:=fun x hx=>⟨(hG x hx).1,Up.out D2 (hG x hx).2 (QE x hx)⟩;have hF5lt:=Dy.lt;have DV:RK H4 b F5 s (t2.add own[i]).2:=Dy.fr g2.1 fun x hx hm=>(NP x hm).2 hx;have Ex:Up F H F5 H4:=by
   have Gq:=FH.trans D2;refine ⟨⟨Rr Gq.1.1 g2.1.1,fun x hx hn=>?_⟩,Gq.2⟩;rw [g2.1.2 x (RC hx Gq.1.1) (fun hm=>by have:=(NP x hm).1;omega),Gq.1.2 x hx hn]
  refine ⟨⟨i+1,_,_,a',l2+1,c',G2,F5,rfl,by omega,DV,Ex,D3,?_,fun x hx=>?_,by simp [NO]⟩,by simp;omega⟩
  ·rw [bJ];exact g1
  ·rcases g2.2 x hx with h5 | h5
   ·exact NP x h5
   ·exact ⟨Rr (FH.trans D2).1.1 h5,fun hm=>by have:=hF5lt x hm;omega⟩
 ·have p8:i=own.length:=by omega
  rw [p8,Tr,TB.addAll] at D3;rw [←D3] at h;exact h H2 F2 a2 l2 c2 G It FH ho hG
theorem rp (hK:RK H b F s t){o:Int}{a:Option Addr}{l c:Nat}{ws:List Int} (hk:Rd 1 H a l (au ws)) (hout:pd H a F) (C5:l<=1000000000)
  (h:∀ H' F',RK H' b F' { s with h:=s.h.lay o 0 ws } t->Up F H F' H'->(∀ o,aj H' ⟨b,o,none⟩=aj H ⟨b,o,none⟩)->Q (.tuple #[]) H'):ag PP 37 #[Cv b,ac o,.slice a l c] Q H:=by
 have hl:l=ws.length:=by have:=hk.1;simpa [au] using this.symm
 apply yP;dsimp only [aH,ah,aZ,aM,aQ,bl,ac,bm,ce,bt,ao,am,bn,aI];refine ⟨fun w H'=>∃(i:Nat) (r:RH) (F':aB),w=[ac i]∧i<=ws.length∧RK H' b F' { s with h:=r } t∧Up F H F' H'∧(∀ o,aj H' ⟨b,o,none⟩=aj H ⟨b,o,none⟩)∧r.lay o i (ws.drop i)=s.h.lay o 0 ws,fun w _=>match w with
  | [.int _ i]=>(ws.length-i).toNat
  | _=>0,⟨0,s.h,F,rfl,RL _,hK,Up.refl _ _,fun _=>rfl,rfl⟩,?_⟩
 rintro w H4 ⟨i,r,F4,rfl,hi,DV,Ex,IH,v7⟩ _;refine ⟨_,rfl,?_⟩;rw [af];refine ba (fun an=>?_) fun an=>?_
 ·obtain ⟨p,rfl,al,ap⟩:=(hout.rd Ex hk).int (i:=(i:Int)) (by omega) an;rw [Ro] at al ap;have hx:ws.getD i 0=ws[i]:=by simp [ap]
  rw [hx] at al;have ed:ws.drop i=ws[i] :: ws.drop (i+1):=Sj ap;have e:IntKind.wrap .i64 ((i:Int)+1)=((i+1:Nat):Int):=by rw [ai (by omega) (by omega)];omega
  obtain ⟨sb,hb,F1,hc,c0,hR,b9,ui,pp⟩:=DV.hp;have s6:=DV.lt b DV.bmem;refine ⟨_,rfl,_,hc,_,rfl,_,c0,⟨by omega,an⟩,_,rfl,_,by rw [Ro,Rn];exact al,lV hR fun H6 Ht DQ=>⟨_,rfl,trivial,?_⟩⟩;obtain ⟨F7,Fe,Io⟩:=pp H6 F1 _ Ht ⟨DQ,fun _ h=>.inl h⟩;rw [e];refine ⟨⟨i+1,(r.put o i ws[i]).2,F7,rfl,by omega,Fe,Ex.trans Io,fun o=>by rw [cg DQ ui s6];exact IH o,?_⟩,by simp;omega⟩;rw [←v7,ed];rfl
 ·have p8:i=ws.length:=by omega
  subst p8;rw [Tr] at v7;simp only [RH.lay] at v7;rw [v7] at DV;exact h H4 F4 DV Ex IH
theorem BU (hK:RK H b F s t){o:Int}{a:Option Addr}{l c:Nat}{ws:List Int} (hk:Rd 1 H a l (au ws)) (hout:pd H a F) (C5:l<=1000000000)
  (h:∀ H' F',RK H' b F' { s with h:=s.h.lay o 0 ws } t->Up F H F' H'->Q (.tuple #[]) H'):ag PP 37 #[Cv b,ac o,.slice a l c] Q H :=
 rp hK hk hout C5 fun H' F' h1 h2 _=>h H' F' h1 h2
theorem AN (hK:RK H b F s t){cls:Int} (Em:1<=cls∧cls<=65536){a:Option Addr}{l c:Nat}{ws:List Int} (hk:Rd 1 H a l (au ws)) (hout:pd H a F) (C5:l<=1000000000) (c9:cls=11->ws≠[])
  (h:∀ H' F',RK H' b F' (s.make cls ws).2 t->Up F H F' H'->Q (.tuple #[ac (s.make cls ws).1.1,ac (s.make cls ws).1.2]) H'):ag PP 74 #[Cv b,ac cls,.slice a l c] Q H:=by
 have hl:l=ws.length:=by have:=hk.1;simpa [au] using this.symm
 apply vl;dsimp only [bf,bk,aH,ah,aA,eH,aQ,ac,sx,ax,ao,am,bg];unfold SP.make at h;refine ⟨fun w H'=>w=[]∧H'=H,?_,?_⟩
 ·rw [bq,af];refine ba (fun h1=>?_) fun h1=>⟨rfl,rfl⟩;rw [bq,af];refine ba (fun h2=>?_) fun h2=>⟨rfl,rfl⟩;exact absurd (RM (by omega)) (c9 h1)
 rintro w H2 ⟨rfl,rfl⟩ _;obtain ⟨sb,F1,hc,hS,b9,_,pp⟩:=hK.sp;refine ⟨rfl,_,rfl,_,hc,cu ⟨by omega,by omega⟩ ⟨_,rfl,⟨⟨hc,trivial⟩,trivial⟩,?_⟩⟩;rw [hl];refine nW hS fun H1 F3 CX Eo=>⟨_,_,rfl,trivial,?_⟩;obtain ⟨F4,DV,Ex⟩:=pp H1 F3 _ CX Eo;rw [bw,af];refine ba (fun h1=>?_) fun h1=>?_
 ·rw [Rj h1] at h;exact h _ _ DV Ex
 rw [Re h1] at h;have hz:(s.alloc (4*cls) ws.length 0).1.2=0:=RE h1;obtain ⟨o,e1,o1,o2,_⟩:=ki hK.wfs hz;rw [e1] at h ⊢;have e2:4*o / 4=o:=by omega
 rw [e2] at h;generalize (s.alloc (4*cls) ws.length 0).2=s1 at *;refine cq (dh (by omega) (by omega)) ⟨_,rfl,?_⟩;rw [dT o1,←hl];refine BU DV (hout.rd Ex hk) (hout.up Ex) (by omega) fun H5 F5 C9 DY=>⟨rfl,?_⟩;have fp:=Fr.push [] H5 (.cells #[ac (4*o)] 31);have NK:∃ sb,aj H5 ⟨b,0,none⟩=some (Cv sb):=by obtain ⟨sb,_,hc,_⟩:=C9.sp;exact ⟨sb,hc⟩
 obtain ⟨sb5,CY⟩:=NK;refine ⟨_,rfl,_,CY,?_⟩;have Ew:=C9.nil fp;obtain ⟨sb6,F6,I0,MV,hsub6,_,NQ⟩:=Ew.sp;have esb:sb6=sb5:=by
  rw [cg fp (by simp) (dn CY),CY] at I0;simpa using I0.symm
 subst esb;refine qr MV (gi (cs:=[4*o])) (by decide) fun H7 F7 J1 Io=>⟨_,rfl,?_⟩;obtain ⟨F8,E3,EL⟩:=NQ H7 F7 _ J1 Io;exact h H7 F8 E3 ((Ex.trans DY).trans ((Up.of_nil fp).trans EL))
theorem vJ (hK:RK H b F s t){a:Option Addr}{l c:Nat}{ws:List Int} (hk:Rd 1 H a l (au ws)) (hout:pd H a F) (C5:l<=1000000000)
  (h:∀ H' F',RK H' b F' (s.array ws).2 t->Up F H F' H'->Q (.tuple #[ac (s.array ws).1.1,ac (s.array ws).1.2]) H'):ag PP 74 #[Cv b,ac 11,.slice a l c] Q H:=by
 unfold SP.array at h;by_cases he:ws=[]
 ·rw [Rj he] at h;have hl:l=0:=by have:=hk.1;rw [he] at this;simpa [au] using this.symm
  apply vl;dsimp only [bf,bk,aH,ah,aA,eH,aQ,ac,sx,ax,ao,am,bg];refine ⟨fun w H'=>False,?_,fun _ _ hf=>hf.elim⟩;rw [bq,af,Rj rfl,bq,af,Rj (by omega)];exact cu (by decide) ⟨_,rfl,h H F hK (Up.refl _ _)⟩
 ·rw [Re he] at h;exact AN hK (by decide) hk hout C5 (fun _=>he) h
end
theorem Up.mid {F F1 G:aB}{H H1 H2:ae} (hu:Up F H F1 H1) (hg:Fr G H1 H2) (hG:∀ x∈G,H.size<=x):Up F H F1 H2 :=
 ⟨⟨Rr hu.1.1 hg.1,fun x hx hn=>by rw [hg.2 x (RC hx hu.1.1) (fun hm=>by have:=hG x hm;omega),hu.1.2 x hx hn]⟩,hu.2⟩
theorem Ax {H:ae}{x:ByteArray}{t:TypeId}:Rd 1 (H.push (.cells #[.string x] t)) (some ⟨H.size,0,none⟩) 1 (bF [x]):=by
 refine ⟨rfl,(fun h=>by cases h),fun p hp k hk=>?_⟩;cases hp;rw [ak,Rm,(bW.new H _ _).cell]
 have:k=0:=by omega
 subst this;rfl
theorem ro (t:TB) (x:ByteArray):t.addAll [] [x]=if (t.add x).1.2≠0 then (([],(t.add x).1.2),(t.add x).2) else (([4*(t.add x).1.1+2],0),(t.add x).2):=by
 rw [TB.addAll];split
 ·rfl
 ·rw [TB.addAll];rfl
section
variable {H:ae}{b:Nat}{F:aB}{s:SP}{t:TB}{v:KV}{Q:QT}
theorem sw {H0:ae}{F0:aB} (hu:Up F0 H0 F H) (hK:RK H b F s t){a:Option Addr}{l c l2 c2:Nat}{a2:Option Addr}{G:aB}{ws xs:List Int} (ho:bZ 1 H a l c (au ws) G) (hG:∀ x∈G,H0.size<=x∧x∉F) (sz:ws.length<=8192) (h2:Rd 1 H a2 l2 (au xs)) (HS:l2<=8192)
  {K:Value->ae->Prop} (h:∀ a' c' H' G',RK H' b F s t->Up F0 H0 F H'->bZ 1 H' a' (l+l2) c' (au (ws++xs)) G'->(∀ x∈G',H0.size<=x∧x∉F)->K (.slice a' (l+l2) c') H') :
  cc PP (Builtin.append_ #[44,44] 44 #[.slice a l c,.slice a2 l2 c2]) K H:=by
 have hU:aY PP 44=some (1,8,some (ac 0)):=by kernel_rfl
 have hl:l=ws.length:=by have:=ho.len;simpa [au] using this.symm
 have an:=hK.lt;refine dp hU rfl (by kernel_rfl) ho h2 eF (by omega) (by decide) (by decide) fun a' c' G' H' g1 g2 g3=>?_;rw [←bJ] at g1;refine h a' c' H' G' (hK.fr g2.1 fun x hx hm=>(hG x hm).2 hx) (Up.mid hu g2.1 fun x hx=>(hG x hx).1) g1 fun x hx=>?_;rcases g2.2 x hx with h5 | h5
 ·exact hG x h5
 ·exact ⟨Rr hu.1.1 h5,fun hm=>by have:=an x hm;omega⟩
theorem wo {a:Option Addr}{l c:Nat}{xs:List Value}{G:aB} (h:bZ 1 H a l c xs G) (hd:∀ x∈G,x∉F):pd H a F:=bZ.out h fun x hx hm=>hd x hx hm
theorem ue (hK:RK H b F s t) (hv:KAllW s t v) (lc:s.stack.length<60000){name:ByteArray}
  (h:∀ H' F',RK H' b F' (bB s v t name).2.1 (bB s v t name).2.2->Up F H F' H'->Q (ac (bB s v t name).1) H') :
  ag PP 18 #[Cv b,.string name] Q H:=by
 have hg:=hv.ks.shape.globs;obtain ⟨e0,b0,b1⟩:=KS.s1 hv.ks;apply Af;dsimp only [bf,bK,aH,cG,dB,ah,aA,iI,aM,aQ,bl,ac,bm,Bg,ax,ao,am,bg,bE,bh,az];unfold bB nh at h;refine qq ⟨_,rfl,?_⟩;rw [←decide_not,af];refine ba (fun h1=>?_) fun h1=>?_
 ·rw [Rj h1,Rj (by decide)] at h;exact h H F hK (Up.refl _ _)
 rw [Re h1] at h;refine vQ hK hv fun H2 s4=>⟨_,rfl,?_⟩;rw [af];refine ba (fun h2=>?_) fun h2=>?_
 ·rw [Rj h2,Rj (by decide)] at h;exact h H2 F (hK.nil s4) (Up.of_nil s4)
 rw [Re h2] at h;refine iR (hK.nil s4) hv fun a l c G H3 ho ly hG=>⟨_,_,_,rfl,?_⟩;have Di:=s4.trans ly;have hl:l=v.glob.length:=by have:=ho.len;simpa [bF,cy] using this.symm
 rw [af];refine ba (fun h3=>?_) fun h3=>?_
 ·rw [Rj (show 256<=v.glob.length by omega),Rj (by decide)] at h;exact h H3 F (hK.nil Di) (Up.of_nil Di)
 rw [Re (show ¬ 256<=v.glob.length by omega),Re (by decide)] at h;refine xS (hK.nil Di) fun H4 nb DV hN DD p3 DG=>⟨_,rfl,?_⟩;have GW:=Di.trans p3;unfold dI at h;have fp:=Fr.push [] H4 (.cells #[.string name] 9);have Ex:Up F H F (H4.push (.cells #[.string name] 9)):=Up.of_nil (GW.trans fp);have fin:∀ (R:Int × SP × TB) (H5:ae) (F5:aB),fy s t (bC v.glob) name=R->RK H5 b F5 R.2.1 R.2.2->Up F H4 F5 H5->ag PP 76 #[Cv b,Cv nb,ac R.1] (fun v37 H13=>∃ n38:Int,v37=ac n38∧Q (ac n38) H13) H5:=by
  intro R H5 F5 eR C9 DY;rw [eR] at h;exact BG C9 (hN.fr DY.1 DD) (Up.out DY DD hN.lt) ⟨by omega,by omega⟩ fun H6 F6 Ew Km=>⟨_,rfl,h H6 F6 Ew (((Up.of_nil GW).trans DY).trans Km)⟩
 refine tK (DV.nil fp) (own:=[name]) Ax (.inr fun p hp=>?_) (by decide) fun H5 F5 a6 l6 c6 G6 C9 DY KO hG6=>⟨_,_,_,_,rfl,?_⟩
 ·cases hp;exact ⟨by simp,fun hm=>absurd (DV.lt _ hm) (SJ _)⟩
 have E0:Up F H4 F5 H5:=(Up.of_nil fp).trans DY;rw [ro] at C9 KO ⊢;rw [bq,af];by_cases h5:(t.add name).1.2=0
 rotate_left
 ·rw [Rj (show (t.add name).1.2≠0 from h5)] at C9 ⊢;rw [Re h5];have eR:fy s t (bC v.glob) name=((t.add name).1.2,s,(t.add name).2):=by unfold fy;rw [Rj h5]
  have:=fin _ H5 F5 eR C9 E0;exact this
 rw [Re (show ¬ (t.add name).1.2≠0 from fun hn=>hn h5)] at C9 KO ⊢;rw [Rj rfl];obtain ⟨nn,en,en2,_⟩:=jp name h5;have eR:fy s t (bC v.glob) name=im s (t.add name).2 (bC v.glob) (4*(t.add name).1.1+2):=by unfold fy;rw [Re (by simpa using h5)]
 rw [en] at eR KO;generalize (t.add name).2=t1 at *;unfold im at eR;have Iq:=C9.wft;have Ib:=(eq en2).2;have sz:∀ w∈bC v.glob++[4*(nn:Int)+2,4],d8 w:=fun w hw=>by
  rcases Rl.1 hw with hw | hw
  ·exact ik hv.ks w hw
  ·simp only [Rk,Sa,Sx] at hw;rcases hw with rfl | rfl
   ·exact js Iq Ib
   ·decide
 have D8:=eX v.glob;have hl6:l6=1:=by have:=KO.len;simpa [au] using this.symm
 have KP:∀ {H':ae},Fr [] H5 H'->∃ q,a6=some q∧aj H' (q.add (Int.toNat 0*1))=some (ac (4*(nn:Int)+2)):=by
  intro H' pe;obtain ⟨q6,NR,II,_⟩:=((KO.fr pe (by simp)).rd).int (i:=0) (by decide) (by omega);exact ⟨q6,NR,by simpa using II⟩
 obtain ⟨q6,NR,I0⟩:=KP (Fr.refl _ _);subst NR;have al:∀ {H':ae},Fr [] H5 H'->aj H' (q6.add (Int.toNat 0*1))=some (ac (4*(nn:Int)+2)):=fun pe=>by
  obtain ⟨q,hq,hc⟩:=KP pe;cases hq;exact hc
 have kwg:kwords s.h v.globA=bC v.glob:=hv.ks.view.globs.kwords;have one:∀ {H':ae},Rd 1 (H'.push (.cells #[ac (4*(nn:Int)+2)] 31)) (some ⟨H'.size,0,none⟩) 1 (au [4*(nn:Int)+2]):=fun {H'}=>gi (H:=H') (cs:=[4*(nn:Int)+2]);have JM:=C9.lt;have app:∀ {H':ae}{aw:Option Addr}{lw cw:Nat}{Gw:aB}{a2:Option Addr}{c2:Nat},Fr [] H5 H'->bZ 1 H' aw lw cw (au (bC v.glob)) Gw->(∀ x∈Gw,H5.size<=x)->Rd 1 H' a2 1 (au [4*(nn:Int)+2])->∀ {K:Value->ae->Prop} (_:∀ a' l' c' H'' G',RK H'' b F5 s t1->Up F H4 F5 H''->bZ 1 H'' a' l' c' (au (bC v.glob++[4*(nn:Int)+2])) G'->(∀ x∈G',H4.size<=x∧x∉F5)->K (.slice a' l' c') H''),
   cc PP (Builtin.append_ #[44,44] 44 #[.slice aw lw cw,.slice a2 1 c2]) K H':=by
  intro H' aw lw cw Gw a2 c2 pe DE Fg Eh K Li;exact sw (E0.trans (Up.of_nil pe)) (C9.nil pe) DE (fun x hx=>⟨Rr E0.1.1 (Fg x hx),fun hm=>by have:=JM x hm;have:=Fg x hx;omega⟩) (by omega) Eh (by decide) fun a' c' H'' G' k1 k2 k3 k4=>Li a' _ c' H'' G' k1 k2 k3 k4
 refine ⟨fun w H'=>∃(a':Option Addr) (l' c':Nat) (G':aB),w=[.slice a' l' c']∧RK H' b F5 s t1∧Up F H4 F5 H'∧bZ 1 H' a' l' c' (au (bC v.glob++[4*(nn:Int)+2])) G'∧∀ x∈G',H4.size<=x∧x∉F5,⟨⟨Sc 0,by omega⟩,_,rfl,_,I0,?_,?_⟩,?_⟩
 ·refine jj C9 ⟨_,rfl,⟨⟨I0,trivial⟩,trivial⟩,?_,?_⟩
  ·rw [e0];refine cq (dh (by omega) (by omega)) ⟨_,rfl,⟨⟨I0,trivial⟩,trivial⟩,?_,?_⟩
   ·rw [dT b0];refine iS C9 fun aw lw cw Gw H8 DE Gd Fg=>⟨_,_,_,rfl,⟨⟨al Gd,trivial⟩,trivial⟩,trivial,?_⟩;rw [kwg] at DE;have fq:=Fr.push [] H8 (.cells #[ac (4*(nn:Int)+2)] 31);exact app (Gd.trans fq) (DE.fr fq (by simp)) Fg one fun a' l' c' H'' G' k1 k2 k3 k4=>⟨_,_,_,rfl,trivial,a',l',c',G',rfl,k1,k2,k3,k4⟩
   ·have fq:=Fr.push [] H5 (.cells #[ac (4*(nn:Int)+2)] 31);rw [dT b0];refine ⟨trivial,iS (C9.nil fq) fun aw lw cw Gw H8 DE Gd Fg=>⟨_,_,_,rfl,trivial,?_⟩⟩;rw [kwg] at DE;exact app (fq.trans Gd) DE (fun x hx=>Rr fq.1 (Fg x hx)) (one.fr' Gd (by simp)) fun a' l' c' H'' G' k1 k2 k3 k4=>⟨_,_,_,rfl,trivial,a',l',c',G',rfl,k1,k2,k3,k4⟩
  ·have fq:=Fr.push [] H5 (.cells #[ac (4*(nn:Int)+2)] 31);rw [e0];refine ⟨trivial,cq (dh (by omega) (by omega)) ⟨_,rfl,trivial,?_⟩⟩;rw [dT b0];refine iS (C9.nil fq) fun aw lw cw Gw H8 DE Gd Fg=>⟨_,_,_,rfl,trivial,?_⟩;rw [kwg] at DE;exact app (fq.trans Gd) DE (fun x hx=>Rr fq.1 (Fg x hx)) (one.fr' Gd (by simp)) fun a' l' c' H'' G' k1 k2 k3 k4=>⟨_,_,_,rfl,trivial,a',l',c',G',rfl,k1,k2,k3,k4⟩
 ·have fq:=Fr.push [] H5 (.cells #[ac (4*(nn:Int)+2)] 31);refine ⟨trivial,jj (C9.nil fq) ⟨_,rfl,trivial,?_⟩⟩;rw [e0];refine cq (dh (by omega) (by omega)) ⟨_,rfl,trivial,?_⟩;rw [dT b0];refine iS (C9.nil fq) fun aw lw cw Gw H8 DE Gd Fg=>⟨_,_,_,rfl,trivial,?_⟩;rw [kwg] at DE;exact app (fq.trans Gd) DE (fun x hx=>Rr fq.1 (Fg x hx)) (one.fr' Gd (by simp)) fun a' l' c' H'' G' k1 k2 k3 k4=>⟨_,_,_,rfl,trivial,a',l',c',G',rfl,k1,k2,k3,k4⟩
 rintro w H6 ⟨a',l',c',G',rfl,Ew,Km,Ir,Is⟩ _;refine ⟨_,_,_,rfl,cu (by decide) ⟨_,rfl,?_⟩⟩;rw [show ((4:Int)*1)=4 from rfl];have fq:=Fr.push [] H6 (.cells #[ac 4] 31);have Ep:Rd 1 (H6.push (.cells #[ac 4] 31)) (some ⟨H6.size,0,none⟩) 1 (au [4]):=gi (cs:=[4]);generalize (H6.push (.cells #[ac 4] 31))=H6' at fq Ep ⊢;refine sw (Km.trans (Up.of_nil fq)) (Ew.nil fq) (Ir.fr fq (by simp)) Is (by simp;omega) Ep (by decide) fun a8 c8 H8 G8 E3 EL NS QG=>⟨_,_,_,rfl,?_⟩;have ecat:bC v.glob++[4*(nn:Int)+2]++[4]=bC v.glob++[4*(nn:Int)+2,4]:=by simp
 rw [ecat] at NS;have QH:l'+1<=1000000000:=by have:=Ir.len;simp only [au,RZ,Rz,D8] at this;simp at this;omega
 refine vJ E3 NS.rd (wo NS fun x hx=>(QG x hx).2) QH fun H9 F9 Ee Ey=>⟨_,_,rfl,?_⟩;obtain ⟨k1,_⟩:=iu hv.ks (by omega) sz;rw [bq,af];refine ba (fun h6=>?_) fun h6=>?_
 ·rw [Re (by simpa using h6)] at eR;obtain ⟨sb,Fs,C1,hS,b9,_,NT⟩:=Ee.sp;refine ⟨_,rfl,_,C1,pP hS fun HA KE QI=>⟨_,rfl,?_⟩⟩;obtain ⟨FA,HF,IG⟩:=NT HA Fs _ KE ⟨QI,fun _ h=>.inl h⟩
  have:=fin _ HA FA eR HF ((EL.trans Ey).trans IG);rw [h6];exact this
 ·rw [Rj h6] at eR
  have:=fin _ H9 F9 eR Ee (EL.trans Ey);exact this
end
section
def fI (H:ae):Prop:=∀ i (hi:i<bQ.length),aj H ⟨cE,i,none⟩=some (.string bQ[i])
theorem fI.fr {H H':ae}{F:aB} (h:fI H) (hf:Fr F H H') (hn:cE∉F):fI H':=fun i hi=>by
 rw [cg hf hn (dn (h i hi))];exact h i hi
theorem fI.lt {H:ae} (h:fI H):cE<H.size:=dn (h 0 (by decide))
theorem Cc (x:RH):x.lay 19 0 [80,72,72,72,4,8,12,4]=((x.lay 19 0 nC).put 19 7 4).2:=rfl
theorem tk (w o m b t:Int):((cX ⟨w,o,m,b,t,dK⟩).put 19 7 4).2=cX ⟨w,o,m,b,t,dK⟩:=by kernel_rfl
theorem sW {words oops:Int} (hz:((bO words oops).allocAll aE).1=0):(fY ((bO words oops).allocAll aE).2 14).lay 19 0 [80,72,72,72,4,8,12,4]=bI words oops:=by
 have e:((bO words oops).allocAll aE).2=⟨words,oops,0,20,0,dK⟩:=by
  rw [gp aE (r:=bO words oops) rfl hz]
  kernel_rfl
 have e2:bI words oops=cX ⟨words,oops,0,20,0,dK⟩:=by unfold bI;rw [e]
 rw [Cc,e2,e];exact tk words oops 0 20 0
attribute [local irreducible] bI cX dK
section
variable {H:ae}{Q:QT}
theorem BK {k:Nat} (hk:k<aE.length) (h:Q (.tuple #[ac (aE[k]).1,ac (aE[k]).2]) H):ag PP 33 #[ac ((k:Int)+1)] Q H:=by
 apply A7;dsimp only [bk,ah,aZ,aI];have Lr:k<20:=hk;rcases k with _ | _ | _ | _ | _ | _ | _ | _ | _ | _ | _ | _ | _ | _ | _ | _ | _ | _ | _ | _ | k
 all_goals first | exact h | omega
theorem AV {words oops:Int} (hN:fI H) (l8:¬ (0<=words∧words<=1048576∧0<=oops∧oops<=65536)->Q (.tuple #[.pointer none,ac 1]) H)
  (h1:(0<=words∧words<=1048576∧0<=oops∧oops<=65536)->((bO words oops).allocAll aE).1≠0->∀ H',Fr [] H H'->Q (.tuple #[.pointer none,ac ((bO words oops).allocAll aE).1]) H')
  (h2:(0<=words∧words<=1048576∧0<=oops∧oops<=65536)->((bO words oops).allocAll aE).1=0->∀ b F H',RK H' b F (fC words oops) cF->Fr [] H H'->(∀ x∈F,H.size<=x)->Q (.tuple #[Cv b,ac 0]) H') :
  ag PP 5 #[ac words,ac oops] Q H:=by
 have GH:bQ.length=14:=rfl;apply Bt;dsimp only [bf,ci,aH,ah,aA,dU,eH,aZ,aQ,fE,ac,vw,ce,ax,bt,ao,am,bg,bh,az,bn,aI];refine wm (fun hb=>⟨_,_,rfl,l8 hb⟩) fun hg sb F1 H1 CX cp DM=>⟨_,_,rfl,?_⟩;simp only [show ((0:Int) != 0)=false from rfl,Rh];have h1:=h1 hg;have h2:=h2 hg;refine vx (fun hb=>absurd ⟨by decide,by decide⟩ hb) fun _ H2 IB g9=>⟨_,_,rfl,?_⟩;have w6:=cp.trans g9;have DT:=CX.fr g9 (bL.nil_right _);have Dy:RK (H2.push (.cells #[Cv sb,.pointer (some ⟨H1.size,0,none⟩)] 40)) H2.size (H2.size :: (F1++[H1.size])) ⟨bO words oops,0,[],false,0,0,0⟩ ⟨4096,[]⟩:=by
  have fp:=Fr.push [] H2 (.cells #[Cv sb,.pointer (some ⟨H1.size,0,none⟩)] 40);have l1:=DT.lt;have l1':=CX.lt;have l2:=IB.lt;exact ⟨sb,H1.size,F1,[H1.size],rfl,fun hm=>absurd (l1 _ hm) (SJ _),fun hm=>absurd (l2 _ hm) (SJ _),fun x hx s7=>by simp only [Rg] at s7;have:=l1' x hx;omega,bW.new _ _ _,DT.fr fp (bL.nil_right _),IB.fr fp (bL.nil_right _)⟩
 have ly:Fr [] H (H2.push (.cells #[Cv sb,.pointer (some ⟨H1.size,0,none⟩)] 40)):=w6.more;have Di:∀ x∈H2.size :: (F1++[H1.size]),H.size<=x:=fun x hx=>by
  rcases Rk.1 hx with rfl | hx
  ·exact w6.1
  ·rcases Rl.1 hx with hx | hx
   ·exact DM x hx
   ·simp only [Rg] at hx;rw [hx];exact cp.1
 have CO:aj (H2.push (.cells #[Cv sb,.pointer (some ⟨H1.size,0,none⟩)] 40)) ⟨H2.size,0,none⟩=some (Cv sb):=(bW.new H2 _ _).cell 0;have l9:aj (H2.push (.cells #[Cv sb,.pointer (some ⟨H1.size,0,none⟩)] 40)) ⟨H2.size,1,none⟩=some (.pointer (some ⟨H1.size,0,none⟩)):=(bW.new H2 _ _).cell 1;generalize (H2.push (.cells #[Cv sb,.pointer (some ⟨H1.size,0,none⟩)] 40))=H3 at Dy ly CO l9 ⊢;generalize (H2.size :: (F1++[H1.size]))=F3 at Dy Di;have Lr:aE.length=20:=rfl;have hgF:∀ {H':ae}{F':aB},Up F3 H3 F' H'->cE∉F':=fun {H' F'} hu hm=>by
  have an:=hN.lt;rcases hu.2 _ hm with h5 | h5
  ·have:=Di _ h5;omega
  ·have:=ly.1;omega
 refine ⟨fun w H'=>∃(k:Nat) (r:RH) (F':aB),w=[ac ((k:Int)+1)]∧k<=20∧RK H' H2.size F' ⟨r,0,[],false,0,0,0⟩ ⟨4096,[]⟩∧Up F3 H3 F' H'∧aj H' ⟨H2.size,0,none⟩=some (Cv sb)∧aj H' ⟨H2.size,1,none⟩=some (.pointer (some ⟨H1.size,0,none⟩))∧r.allocAll (aE.drop k)=(bO words oops).allocAll aE,fun w _=>match w with
  | [.int _ k]=>(21-k).toNat
  | _=>0,⟨0,_,_,rfl,by decide,Dy,Up.refl _ _,CO,l9,rfl⟩,?_⟩
 rintro w H8 ⟨k,r,F8,rfl,NE,E3,EL,NU,Kq,be⟩ _;refine ⟨_,rfl,?_⟩;rw [af];refine ba (fun an=>?_) fun an=>?_
 ·have DN:k<aE.length:=by omega
  have e1:IntKind.wrap .i64 ((k:Int)+1+1)=((k+1:Nat):Int)+1:=by rw [ai (by omega) (by omega)];omega
  have Lk:=mG k DN;have ed:aE.drop k=aE[k] :: aE.drop (k+1):=Sj DN;rw [ed,iW] at be;obtain ⟨sb',hb,FB,C1,c0,NH,b9,ui,pp⟩:=E3.hp;have esb:sb'=sb:=by rw [NU] at C1;simpa using C1.symm
  subst esb;refine BK DN ⟨_,_,rfl,_,rfl,_,c0,cu ⟨by omega,by omega⟩ ⟨_,rfl,⟨⟨c0,trivial⟩,trivial⟩,lD NH fun H9 FB' Hf Ey=>⟨_,_,rfl,trivial,?_⟩⟩⟩;obtain ⟨F9,Ee,KQ⟩:=pp H9 FB' _ Hf Ey;have s6:=E3.lt _ E3.bmem;rw [bw,af];refine ba (fun he=>?_) fun he=>?_
  ·rw [Rj he] at be;have e0:((bO words oops).allocAll aE).1=(r.alloc (4*(aE[k]).1) (aE[k]).2 0).1.2:=by rw [←be]
   have:=h1 (by rw [e0];exact he) H9 (Up.fresh ly (EL.trans KQ) Di).1;rw [e0] at this;exact this
  rw [Re he] at be;rw [e1];exact ⟨⟨k+1,_,F9,rfl,by omega,Ee,EL.trans KQ,by rw [cg Ey.1 ui s6];exact NU,by rw [cg Ey.1 ui s6];exact Kq,be⟩,by simp;omega⟩
 have Gc:k=20:=by omega
 subst Gc;have ez:aE.drop 20=[]:=rfl;rw [ez] at be;have D1:(0,r)=(bO words oops).allocAll aE:=be;have hz:((bO words oops).allocAll aE).1=0:=by rw [←D1]
 have KK:r=((bO words oops).allocAll aE).2:=by rw [←D1]
 have OY:cX r=bI words oops:=by rw [KK];exact ni _ _
 have QJ:∀ {H':ae}{F':aB},Up F3 H3 F' H'->fI H':=fun {H' F'} hu=>by
  have NN:=hN.fr ly (by simp);exact NN.fr hu.1 (fun hm=>by have:=Di _ hm;have:=hN.lt;omega)
 refine ⟨fun w H'=>∃(i:Nat) (F':aB),w=[ac i]∧i<=14∧RK H' H2.size F' ⟨fY r i,0,[],false,0,0,0⟩ ⟨4096,bQ.take i⟩∧Up F3 H3 F' H'∧aj H' ⟨H2.size,0,none⟩=some (Cv sb)∧aj H' ⟨H2.size,1,none⟩=some (.pointer (some ⟨H1.size,0,none⟩)),fun w _=>match w with
  | [.int _ i]=>(14-i).toNat
  | _=>0,⟨0,F8,rfl,by decide,E3,EL,NU,Kq⟩,?_⟩
 rintro w H9 ⟨i,F9,rfl,hi,Ee,Ey,HR,D6⟩ _;refine ⟨_,rfl,?_⟩;rw [af];refine ba (fun ap=>?_) fun ap=>?_
 ·have cx:i<bQ.length:=by omega
  have QK:=QJ Ey i cx;have e1:IntKind.wrap .i64 ((i:Int)+1)=((i+1:Nat):Int):=by rw [ai (by omega) (by omega)];omega
  have e1':IntKind.wrap .i64 ((i:Int)+1)=(i:Int)+1:=ai (by omega) (by omega);have e4:IntKind.wrap .i64 (4+(i:Int))=4+(i:Int):=ai (by omega) (by omega);obtain ⟨tb,FT,O2,hT,hsubT,O3,NV⟩:=Ee.tb;have etb:tb=H1.size:=by rw [D6] at O2;simpa using O2.symm
  subst etb;refine ⟨⟨by omega,ap⟩,_,by rw [ak,Ro,Rn,Rm];exact QK,uw hT fun HA FT' O4 IG=>⟨_,_,rfl,?_⟩⟩;rw [rK cx] at O4;obtain ⟨FA,HF,NW⟩:=NV HA FT' _ O4 IG;have KR:=Ee.lt _ Ee.bmem;have Da:aj HA ⟨H2.size,0,none⟩=some (Cv sb):=by rw [cg IG.1 O3 KR];exact HR
  have O5:aj HA ⟨H2.size,1,none⟩=some (.pointer (some ⟨H1.size,0,none⟩)):=by rw [cg IG.1 O3 KR];exact D6
  refine cu (by decide) ⟨_,rfl,?_⟩;refine ⟨fun w H'=>w=[ac (if i=0 then 4 else 16)]∧H'=HA,?_,?_⟩
  ·rw [bq,af];refine ba (fun h0=>cu (by decide) ⟨_,rfl,?_,rfl⟩) fun h0=>⟨?_,rfl⟩
   ·rw [Rj (by omega)];rfl
   ·rw [Re (by omega)];rfl
  rintro w HA' ⟨rfl,rfl⟩ _;refine ⟨_,rfl,pr ⟨by omega,by omega⟩ ⟨_,rfl,cu (by decide) ⟨_,rfl,cu (by decide) ⟨_,rfl,cu (by decide) ⟨_,rfl,qx (by decide) ⟨_,rfl,?_⟩⟩⟩⟩⟩⟩;rw [e1',e4];refine qx ⟨by omega,by omega⟩ ⟨_,rfl,?_⟩;have fq:=(Fr.push [] HA' (.cells (au (d7 i)).toArray 31));have QL:=HF.lt;refine rp (HF.nil fq) (ws:=d7 i) gi (fun p hp=>by cases hp;exact ⟨by simp,fun hm=>absurd (QL _ hm) (SJ _)⟩) (by decide) fun HB FB E4 KH IH=>⟨rfl,?_⟩;have ES:aj HB ⟨H2.size,0,none⟩=some (Cv sb):=by rw [IH,cg fq (by simp) (dn Da)];exact Da
  have La:aj HB ⟨H2.size,1,none⟩=some (.pointer (some ⟨H1.size,0,none⟩)):=by rw [IH,cg fq (by simp) (dn O5)];exact O5
  obtain ⟨sb',hb,FC,C1,c0,QM,b9,ui,IF⟩:=E4.hp;have esb:sb'=sb:=by rw [ES] at C1;simpa using C1.symm
  subst esb;refine ⟨_,rfl,_,c0,cu ⟨by omega,by omega⟩ ⟨_,rfl,⟨⟨c0,trivial⟩,trivial⟩,lV QM fun HD QN NX=>⟨_,rfl,trivial,?_⟩⟩⟩;obtain ⟨FD,QO,Lw⟩:=IF HD FC _ QN ⟨NX,fun _ h=>.inl h⟩;rw [show (i:Int)+1=((i+1:Nat):Int) by omega];have s6:=E4.lt _ E4.bmem;refine ⟨⟨i+1,FD,rfl,by omega,QO,?_,by rw [cg NX ui s6];exact ES,by rw [cg NX ui s6];exact La⟩,by simp;omega⟩;exact ((Ey.trans NW).trans ((Up.of_nil fq).trans KH)).trans Lw
 ·have FY:i=14:=by omega
  subst FY;refine cu (by decide) ⟨_,rfl,cu (by decide) ⟨_,rfl,cu (by decide) ⟨_,rfl,cu (by decide) ⟨_,rfl,cu (by decide) ⟨_,rfl,cu (by decide) ⟨_,rfl,cu (by decide) ⟨_,rfl,cu (by decide) ⟨_,rfl,?_⟩⟩⟩⟩⟩⟩⟩⟩;have fq:=(Fr.push [] H9 (.cells (au [80,72,72,72,4,8,12,4]).toArray 31));have QP:=Ee.lt;have Hv:Rd 1 (H9.push (.cells (au [80,72,72,72,4,8,12,4]).toArray 31)) (some ⟨H9.size,0,none⟩) 8 (au [80,72,72,72,4,8,12,4]):=gi (cs:=[80,72,72,72,4,8,12,4]);have NY:(fY r 14).lay 19 0 [80,72,72,72,4,8,12,4]=bI words oops:=by rw [KK];exact sW hz
  show ag PP 37 _ _ (H9.push (.cells (au [80,72,72,72,4,8,12,4]).toArray 31));generalize (H9.push (.cells (au [80,72,72,72,4,8,12,4]).toArray 31))=H9' at fq Hv ⊢;have NZ:=Ee.nil fq;have QQ:pd H9' (some ⟨H9.size,0,none⟩) F9:=fun p hp=>by
   cases hp;have h6:=Hv.2.2 _ rfl 0 (by decide);rw [ak] at h6;exact ⟨dn (h6.trans (by rfl)),fun hm=>absurd (QP _ hm) (SJ _)⟩
  generalize ([80,72,72,72,4,8,12,4]:List Int)=W8 at Hv NY;generalize fY r 14=R8 at NZ NY;have eT:(⟨4096,bQ.take 14⟩:TB)=cF:=rfl;rw [eT] at NZ;refine rp NZ (ws:=W8) Hv QQ (by decide) fun HB FB E4 KH IH=>⟨rfl,?_⟩;have E4:RK HB H2.size FB ⟨R8.lay 19 0 W8,0,[],false,0,0,0⟩ cF:=E4;rw [NY] at E4;have ES:aj HB ⟨H2.size,0,none⟩=some (Cv sb):=by rw [IH,cg fq (by simp) (dn HR)];exact HR
  obtain ⟨sb',FS,C1,hS,hsubS,_,N0⟩:=E4.sp;have esb:sb'=sb:=by rw [ES] at C1;simpa using C1.symm
  subst esb;refine sZ hS fun HC IE Lx=>⟨_,rfl,?_⟩;have ll:WFH (bI words oops):=E4.wfs.h;have r0:((bI words oops).clsAt 19).2=0:=nv ll hz;have ecr:(SP.crown ⟨bI words oops,0,[],false,0,0,0⟩ 19)=(0,fC words oops):=by
   unfold SP.crown;rw [Re (by simpa using r0)];rfl
  rw [ecr] at IE;obtain ⟨FC,KI,NM⟩:=N0 HC FS _ IE ⟨Lx,fun _ h=>.inl h⟩;have HJ:=Up.fresh ly ((Ey.trans ((Up.of_nil fq).trans KH)).trans NM) Di;exact h2 hz H2.size FC HC KI HJ.1 HJ.2
end
end
def jg (H0 H:ae) (bp br:Nat) (Fp Fq:aB) (s:SP) (t:TB) (s2:SP) (t2:TB):Prop :=
 Fr [] H0 H∧(∀ x∈Fp,H0.size<=x)∧(∀ x∈Fq,H0.size<=x)∧bL Fp Fq∧aP<H0.size∧PK H bp Fp s t∧RK H br Fq s2 t2
section
variable {H0 H H':ae}{bp br:Nat}{Fp Fq F':aB}{s s2 s':SP}{t t2 t':TB}
theorem jg.p (K:jg H0 H bp br Fp Fq s t s2 t2) (hP:PK H' bp F' s' t') (u:Up Fp H F' H'):jg H0 H' bp br F' Fq s' t' s2 t2:=by
 obtain ⟨f,g1,g2,d,gk,hp,hr⟩:=K;have f1:=f.1;refine ⟨Fr.ge f u.1 g1,fun x hx=>?_,g2,fun x hx hm=>?_,gk,hP,hr.fr u.1 d.symm⟩
 ·rcases u.2 x hx with h1 | h1
  ·exact g1 x h1
  ·omega
 ·rcases u.2 x hx with h1 | h1
  ·exact d x h1 hm
  ·have:=hr.lt x hm;omega
theorem jg.r (K:jg H0 H bp br Fp Fq s t s2 t2) (hR:RK H' br F' s' t') (u:Up Fq H F' H'):jg H0 H' bp br Fp F' s t s' t':=by
 obtain ⟨f,g1,g2,d,gk,hp,hr⟩:=K;have f1:=f.1;refine ⟨Fr.ge f u.1 g2,g1,fun x hx=>?_,fun x hx hm=>?_,gk,hp.fr u.1 d (fun hm=>by have:=g2 _ hm;omega),hR⟩
 ·rcases u.2 x hx with h1 | h1
  ·exact g2 x h1
  ·omega
 ·rcases u.2 x hm with h1 | h1
  ·exact d x hx h1
  ·have:=hp.lt x hx;omega
theorem jg.nil (K:jg H0 H bp br Fp Fq s t s2 t2) (u:Fr [] H H'):jg H0 H' bp br Fp Fq s t s2 t2:=by
 obtain ⟨f,g1,g2,d,gk,hp,hr⟩:=K;exact ⟨f.trans u,g1,g2,d,gk,hp.nil u,hr.nil u⟩
end
theorem ub {n lo hi:Int}{H:ae}{Q:QT} (h0:-1000000<=lo) (h1:lo<=hi) (h2:hi<=1000000) (h:∀ m,lo<=m->m<=hi->Q (ac m) H):ag PP 7 #[ac n,ac lo,ac hi] Q H:=by
 have e1:IntKind.wrap .i64 (IntKind.wrap .i64 (hi-lo)+1)=hi-lo+1:=by rw [ai (n:=hi-lo) (by omega) (by omega),ai (by omega) (by omega)]
 have t1:=Int.tmod_lt_of_pos n (b:=hi-lo+1) (by omega);have t2:=Int.lt_tmod_of_pos n (b:=hi-lo+1) (by omega);apply Bm;dsimp only [ah,aZ,ac,az,aI];rw [e1];generalize Int.tmod n (hi-lo+1)=r at t1 t2 ⊢;have fin:cond (decide (hi-lo+1=0)) False (cond (decide (r<0)) (Q (ac (IntKind.wrap .i64 (lo+(IntKind.wrap .i64 ((IntKind.wrap .i64 ((IntKind.wrap .i64 (r+hi))-lo))+1))))) H) (Q (ac (IntKind.wrap .i64 (lo+r))) H)):=by
  refine cj (by omega) (cM (fun hr=>?_) fun hr=>?_)
  ·rw [ai (n:=r+hi) (by omega) (by omega),ai (n:=r+hi-lo) (by omega) (by omega),ai (n:=r+hi-lo+1) (by omega) (by omega),ai (by omega) (by omega)];exact h _ (by omega) (by omega)
  ·rw [ai (by omega) (by omega)];exact h _ (by omega) (by omega)
 exact cM (fun g1=>cM (fun g2=>h n (by omega) g2) fun _=>fin) fun _=>fin
theorem oh {F:aB}{H H':ae} (f:Fr F H H'):Up F H F H':=⟨f,fun _ h=>.inl h⟩
section
variable {H0 H:ae}{bp br:Nat}{Fp Fq:aB}{s s2:SP}{t t2:TB}{Q:QT}
theorem jg.palloc (K:jg H0 H bp br Fp Fq s t s2 t2){c n f:Int} (h:∀ H',jg H0 H' bp br Fp Fq (s.alloc c n f).2 t s2 t2->Q (.tuple #[ac (if (s.alloc c n f).1.2=0 then (s.alloc c n f).1.1 else 0),ac (s.alloc c n f).1.2]) H') :
  ag PP 8 #[Cv bp] (fun v H1=>∃ p:Option Addr,v=.pointer p∧ag PP 9 #[.pointer p,ac c,ac n,ac f] Q H1) H:=by
 obtain ⟨_,_,_,_,_,hp,_⟩:=id K;exact iF hp fun sb F1 _ hS b9 _ pp=>⟨_,rfl,nQ hS fun H1 CX f1=>h H1 (K.p (pp H1 _ CX f1) (oh (f1.mono b9)))⟩
theorem jg.ralloc (K:jg H0 H bp br Fp Fq s t s2 t2){c n f:Int} (h:∀ H' Fq',jg H0 H' bp br Fp Fq' s t (s2.alloc c n f).2 t2->Q (two (s2.alloc c n f).1) H') :
  ∃ q,(some (⟨br,0,none⟩:Addr))=some q∧∃ p:Option Addr,aj H q=some (.pointer p)∧ag PP 10 #[.pointer p,ac c,ac n,ac f] Q H:=by
 obtain ⟨_,_,_,_,_,_,hr⟩:=id K;obtain ⟨sb,F1,hc,hS,_,_,pp⟩:=hr.sp;exact ⟨_,rfl,_,hc,nW hS fun H1 F2 CX u1=>by
  obtain ⟨Fq',hR,u2⟩:=pp H1 F2 _ CX u1;exact h H1 Fq' (K.r hR u2)⟩
theorem uO (H:ae) (w:Int) (e:TypeId):Rd 1 (H.push (.cells #[ac w] e)) (some ⟨H.size,0,none⟩) 1 (au [w])∧Fr [] H (H.push (.cells #[ac w] e)) :=
 ⟨gi (cs:=[w]),Fr.push _ _ _⟩
theorem jg.pkeep (K:jg H0 H bp br Fp Fq s t s2 t2){w:Int}{e:TypeId} (h:∀ H' Fp',jg H0 H' bp br Fp' Fq (s.keepW [w]).2 t s2 t2->Q (ac (s.keepW [w]).1) H') :
  ag PP 8 #[Cv bp] (fun v H1=>∃ p:Option Addr,v=.pointer p∧ag PP 11 #[.pointer p,.slice (some (⟨H1.size,0,none⟩:Addr)) 1 1] Q (H1.push (.cells #[ac w] e))) H:=by
 obtain ⟨g1,g2⟩:=uO H w e;have K1:=K.nil g2;obtain ⟨_,_,_,_,_,hp,_⟩:=id K;refine iF hp fun sb F1 _ hS b9 pp _=>⟨_,rfl,mn (hS.nilfr g2) g1 (by decide) fun H1 F2 CX u1=>?_⟩;obtain ⟨Fp',hP,u2⟩:=pp H1 F2 _ CX ((Up.of_nil g2).trans u1);exact h H1 Fp' (K.p hP u2)
theorem jg.rkeep (K:jg H0 H bp br Fp Fq s t s2 t2){w:Int}{e:TypeId} (h:∀ H' Fq',jg H0 H' bp br Fp Fq' s t (s2.keepW [w]).2 t2->Q (ac (s2.keepW [w]).1) H') :
  ∃ q,(some (⟨br,0,none⟩:Addr))=some q∧∃ p:Option Addr,aj H q=some (.pointer p)∧ag PP 12 #[.pointer p,.slice (some (⟨H.size,0,none⟩:Addr)) 1 1] Q (H.push (.cells #[ac w] e)):=by
 obtain ⟨g1,g2⟩:=uO H w e;have K1:=K.nil g2;obtain ⟨_,_,_,_,_,_,hr⟩:=id K;obtain ⟨sb,F1,hc,hS,b9,DD,pp⟩:=hr.sp;refine ⟨_,rfl,_,hc,qr (hS.fr g2 (bL.nil_right _)) g1 (by decide) fun H1 F2 CX u1=>?_⟩;obtain ⟨Fq',hR,u2⟩:=pp H1 F2 _ CX ((Up.of_nil g2).trans u1);exact h H1 Fq' (K.r hR u2)
theorem jg.pput (K:jg H0 H bp br Fp Fq s t s2 t2){w i x:Int} (hw:qW w) (hf:∀ o,aG s.h.objs (cZ w)=some o->o.fmt=0) (h:∀ H' e,jg H0 H' bp br Fp Fq { s with h:=(s.h.put (cZ w) i x).2 } t s2 t2->Q (ac e) H') :
  ag PP 8 #[Cv bp] (fun v H1=>∃ p:Option Addr,v=.pointer p∧ag PP 13 #[.pointer p] (fun v H2=>∃ p:Option Addr,v=.pointer p∧ag PP 15 #[ac w] (fun v H3=>∃ n:Int,v=ac n∧ag PP 14 #[.pointer p,ac n,ac i,ac x] Q H3) H2) H1) H:=by
 obtain ⟨_,_,_,_,_,hp,_⟩:=id K;refine iF hp fun sb F1 _ hS b9 _ pp=>⟨_,rfl,eh hS fun hb F2 hR q8 Dt=>⟨_,rfl,cq hw ⟨_,rfl,mB hR hf fun H1 q7 f1=>?_⟩⟩⟩;have CX:=Dt H1 _ q7 f1;exact h H1 _ (K.p (pp H1 _ CX (f1.mono q8)) (oh (f1.mono fun x hx=>b9 x (q8 x hx))))
theorem jg.rput {R:ae->Prop} (K:jg H0 H bp br Fp Fq s t s2 t2){w i x:Int} (hw:qW w) (h:∀ H' Fq',jg H0 H' bp br Fp Fq' s t { s2 with h:=(s2.h.put (cZ w) i x).2 } t2->R H') :
  ∃ q,(some (⟨br,0,none⟩:Addr))=some q∧∃ p:Option Addr,aj H q=some (.pointer p)∧∃ q2,p=some q2∧∃ p2:Option Addr,aj H q2=some (.pointer p2) ∧
   ag PP 15 #[ac w] (fun v H1=>∃ n:Int,v=ac n∧((aj H1 q2=some (.pointer p2)∧True)∧((aj H1 q=some (.pointer p)∧True)∧True))∧ag PP 16 #[.pointer p2,ac n,ac i,ac x] (fun v H2=>∃ n:Int,v=ac n∧True∧R H2) H1) H:=by
 obtain ⟨_,_,_,_,_,_,hr⟩:=id K;obtain ⟨sb,hb,F1,hc,c0,hR,b9,_,pp⟩:=hr.hp;refine ⟨_,rfl,_,hc,_,rfl,_,c0,cq hw ⟨_,rfl,⟨⟨c0,trivial⟩,⟨hc,trivial⟩,trivial⟩,lV hR fun H1 q7 f1=>⟨_,rfl,trivial,?_⟩⟩⟩;obtain ⟨Fq',EW,u2⟩:=pp H1 _ _ q7 (oh f1);exact h H1 Fq' (K.r EW u2)
end
end Go.Proofs.YtcfmnlapccgllaaGreatDoor
namespace Kw
open Go
section
attribute [local irreducible] bI cX dK
def BO (r:RH) (l:List (Int × Int)):Prop:=∀ p∈l,∃ f sl,ob r p.1=some (p.2,f,sl)
section
attribute [local semireducible] bI cX dK
theorem uH (w o m b t:Int):((yD bV).all fun p=>match aG (cX ⟨w,o,m,b,t,dK⟩).objs p.1 with | some x=>decide (x.cls=p.2) | none=>false)=true:=by kernel_rfl
end
theorem xC {words oops:Int} (h:((bO words oops).allocAll aE).1=0):BO (bI words oops) (yD bV):=by
 have e:=lQ h;have h1:=uH words oops 0 20 0;rw [←e] at h1;intro p hp
 have:=SG.1 h1 p hp;split at this
 ·rename_i x hx;exact ⟨_,_,ft.2 ⟨x,hx,of_decide_eq_true this,rfl,rfl⟩⟩
 ·cases this
end
end Kw
namespace Go.Proofs.YtcfmnlapccgllaaGreatDoor
open Kw
section
attribute [local irreducible] bI cX dK
theorem qL:((bO 60000 9000).allocAll aE).1=0∧RoomyK (bI 60000 9000) 8980 59840:=tB (words:=60000) (oops:=9000) (k:=8980) (m:=59840) rfl rfl (by decide)
theorem li {n:Int}{Q:QT}{H:ae} (h:Q (ac n) H):ag PP 6 #[ac n] Q H:=by
 apply BJ;exact h
theorem wi (m:Nat) (hm:m<=2100):∃ oa,((fC 60000 9000).alloc 44 ((m:Int)+1) 0).1=(4*oa,0)∧(((fC 60000 9000).alloc 44 ((m:Int)+1) 0).2.keepW [4*oa]).1=0∧JL (((fC 60000 9000).alloc 44 ((m:Int)+1) 0).2.keepW [4*oa]).2 oa m [] 4:=by
 obtain ⟨e0,hR⟩:=qL;have be:=ye (words:=60000) (oops:=9000) (by decide) (by decide) (by decide) (by decide) e0;have O6:=xC e0;have b2:ob (fC 60000 9000).h 2≠none:=by
  obtain ⟨f,l,h⟩:=O6 (2,_) (R0 _ (S5 ..));show ob (bI 60000 9000) 2≠none;rw [h];simp
 have b3:ob (fC 60000 9000).h 3≠none:=by
  obtain ⟨f,l,h⟩:=O6 (3,_) (R0 _ (R0 _ (S5 ..)));show ob (bI 60000 9000) 3≠none;rw [h];simp
 have hl:lenOf ((m:Int)+1) 0=2+((m:Int)+1):=by unfold lenOf;rw [Re (by decide)]
 obtain ⟨e1,e2,_⟩:=pC (s:=fC 60000 9000) (cls:=44) (n:=(m:Int)+1) (f:=0) (k:=8979) (m:=50000) (show RoomyK (bI 60000 9000) _ _ from hR.less (by decide) (by rw [hl];omega)) (by decide) (dW (o:=11) (by decide) (by decide)) (.inl rfl) (by omega) (by omega);have he:((fC 60000 9000).alloc 44 ((m:Int)+1) 0).1.2=0:=by rw [e1]
 obtain ⟨_,_,hj⟩:=JL.first be.s b2 b3 m;obtain ⟨oa,g1,g2,g3⟩:=hj he;exact ⟨oa,Prod.ext g1 he,g2,g3⟩
theorem Bn {a b:Int}{A B:Prop} (h1:A) (h2:B):cond (a == b) A B:=by
 cases (a == b)
 ·exact h2
 ·exact h1
theorem Ce {oa:Int} (h1:4<=oa) (h2:oa<=65536):qW (4*oa)∧cZ (4*oa)=oa:=by
 refine ⟨?_,?_⟩
 ·unfold qW;omega
 ·unfold cZ;rw [Rj (by omega)];omega
theorem uL {s:SP}{oa z:Int}{m:Nat}{ws:List Int} (h:JL s oa m ws z):∀ o,aG s.h.objs oa=some o->o.fmt=0:=fun o ho=>by
 obtain ⟨x,h1,_,h2,_⟩:=ft.1 h.arr;rw [ho] at h1;cases h1;exact h2
theorem mV {H:ae}{n again:Int} (hk:dG H) (hN:fI H) (ht:eU H):ag PP 3 #[ac n,ac again] (fun v H'=>v=.bool true∧Fr [] H H') H:=by
 apply Bu;dsimp only [bf,bx,aH,dB,ah,aA,dU,dV,aZ,aQ,ac,ce,ax,bt,ao,ch,am,bg,bh,az,aI];refine ya hk (fun hb=>absurd (by decide) hb) (fun _ hb=>absurd qL.1 hb) fun _ _ bp Fp H1 hP f1 g1=>⟨_,_,rfl,?_⟩;refine AV (hN.fr f1 (by simp)) (fun hb=>absurd (by decide) hb) (fun _ hb=>absurd qL.1 hb) fun _ _ br Fq H2 hR f2 g2=>⟨_,_,rfl,ck rfl ?_⟩;have K:jg H H2 bp br Fp Fq (fC 60000 9000) cF (fC 60000 9000) cF:=⟨f1.trans f2,g1,fun x hx=>by have:=g2 x hx;have:=f1.1;omega,fun x hx hm=>by have:=g2 x hm;have:=hP.lt x hx;omega,hk.lt,hP.nil f2,hR⟩;refine li ⟨_,rfl,ck (by decide) ?_⟩;refine ub (by decide) (by decide) (by decide) fun mi m1 m2=>⟨_,rfl,?_⟩;obtain ⟨m,rfl⟩:∃ k:Nat,mi=k:=⟨mi.toNat,by omega⟩;rw [ai (n:=(m:Int)+1) (by omega) (by omega)];obtain ⟨oa,e1,e2,hJ⟩:=wi m (by omega);obtain ⟨i4,r4⟩:=Ce hJ.ge hJ.le;refine K.palloc fun H3 K3=>?_;rw [e1];refine ⟨_,_,rfl,K3.ralloc fun H4 Fq4 K4=>?_⟩;rw [e1];simp only [Rj];refine ⟨_,_,rfl,K4.pkeep fun H5 Fp5 K5=>⟨_,rfl,K5.rkeep fun H6 Fq6 K6=>⟨_,rfl,ck (by simp) (li ⟨_,rfl,ck (by simp) ?_⟩)⟩⟩⟩;generalize (((fC 60000 9000).alloc 44 ((m:Int)+1) 0).2.keepW [4*oa]).2=s3 at hJ K6;refine ⟨fun w H'=>∃ i:Nat,∃ Fp' Fq' s' ws z,w=[ac i]∧i<=m∧jg H H' bp br Fp' Fq' s' cF s' cF∧JL s' oa m ws z∧ws.length=i,fun w _=>match w with
  | [.int _ i]=>((m:Int)-i).toNat
  | _=>0,⟨0,_,_,s3,[],4,rfl,RL _,K6,hJ,rfl⟩,?_⟩
 rintro _ H7 ⟨i,Fp7,Fq7,s,ws,z,rfl,hi,K7,KT,hl⟩ _;refine ⟨_,rfl,cM (fun an=>?_) fun DG=>?_⟩
 ·have cx:i<m:=by omega
  obtain ⟨a1,a2,a3⟩:=KT.alloc;refine K7.palloc fun H8 K8=>⟨_,_,rfl,K8.ralloc fun H9 Fq9 K9=>⟨_,_,rfl,?_⟩⟩;have hz:(if (s.alloc 44 1 0).1.2=0 then (s.alloc 44 1 0).1.1 else 0)=(s.alloc 44 1 0).1.1:=by
   split
   ·rfl
   ·rename_i c9;exact (a2 c9).symm
  rw [hz];refine ck (by simp) (li ⟨_,rfl,ck (by simp) ?_⟩);have Ha:∃ ws' z',ws'.length=i+1∧JL { (s.alloc 44 1 0).2 with h:=((s.alloc 44 1 0).2.h.put oa i (s.alloc 44 1 0).1.1).2 } oa m ws' z' ∧
    ∃ z'',JL { (s.alloc 44 1 0).2 with h:=(((s.alloc 44 1 0).2.h.put oa i (s.alloc 44 1 0).1.1).2.put oa m (s.alloc 44 1 0).1.1).2 } oa m ws' z'':=by
   by_cases he:(s.alloc 44 1 0).1.2=0
   ·obtain ⟨o,o1,o2⟩:=a3 he;rw [o1];obtain ⟨j1,j2⟩:=a1.next (by omega) o2;rw [hl] at j1 j2;exact ⟨_,z,by simp [hl],j1,_,j1.again j2 (by simp)⟩
   ·rw [a2 he];have j1:=a1.skip (by omega);have p1:((s.alloc 44 1 0).2.h.put oa i 0).2=(s.alloc 44 1 0).2.h:=pY a1.arr;rw [p1,pY a1.arr];exact ⟨_,z,by simp [hl],j1,z,j1⟩
  obtain ⟨ws',z',l',j1,z'',j2⟩:=Ha;have fm1:=uL a1;have fm2:=uL j1;generalize (s.alloc 44 1 0).1.1=x at *;generalize (s.alloc 44 1 0).2=s2 at *;have fin:∀ H' Fp' Fq' s' z',jg H H' bp br Fp' Fq' s' cF s' cF->JL s' oa m ws' z'->(∃ i':Nat,∃ Fp' Fq' s' ws z,[Value.int .i64 (IntKind.wrap .i64 ((i:Int)+1))]=[ac i']∧i'<=m∧jg H H' bp br Fp' Fq' s' cF s' cF∧JL s' oa m ws z∧ws.length=i')∧((m:Int)-IntKind.wrap .i64 ((i:Int)+1)).toNat<((m:Int)-(i:Int)).toNat:=fun H' Fp' Fq' s' z' hK QR=>by
   rw [ai (by omega) (by omega)];exact ⟨⟨i+1,Fp',Fq',s',ws',z',by simp,by omega,hK,QR,l'⟩,by omega⟩
  refine K9.pput i4 (by rw [r4];exact fm1) fun H10 _ K10=>⟨_,rfl,?_⟩;rw [r4] at K10;refine K10.rput i4 fun H11 Fq11 K11=>?_;rw [r4] at K11;rw [ai (n:=(m:Int)-1) (by omega) (by omega)];refine ub (by decide) (by omega) (by omega) fun c _ _=>⟨_,rfl,Bn ?_ (fin _ _ _ _ _ K11 j1)⟩;refine K11.pput i4 (by rw [r4];exact fm2) fun H12 _ K12=>⟨_,rfl,?_⟩;rw [r4] at K12;refine K12.rput i4 fun H13 Fq13 K13=>?_;rw [r4] at K13;exact fin _ _ _ _ _ K13 j2
 ·obtain ⟨v1,O7,v',G,hT⟩:=Ah ⟨#[71]⟩ (.inr ⟨oa,m,ws,z,rfl,KT⟩);have lc:s.stack.length<60000:=by rw [KT.all.stack];simp
  obtain ⟨_,_,_,_,_,QS,_⟩:=id K7;refine tJ QS KT.all.w lc fun H8 Fp8 QU u8=>⟨_,rfl,?_⟩;have K8:=K7.p QU u8;obtain ⟨_,_,_,_,_,_,KD⟩:=id K8;refine ue KD KT.all.w lc fun H9 Fq9 Hf u9=>⟨_,rfl,?_⟩;have K9:=K8.r Hf u9;generalize (bB s bV cF ⟨#[71]⟩).2.1=s9 at *;generalize (bB s bV cF ⟨#[71]⟩).2.2=t9 at *;obtain ⟨_,_,_,_,_,QV,_⟩:=id K9;refine rh QV O7 fun H10 Fp10 N1 u10=>⟨_,rfl,?_⟩;have K10:=K9.p N1 u10;obtain ⟨_,_,_,_,_,_,N2⟩:=id K10;refine rz N2 O7 fun H11 Fq11 N3 u11=>⟨_,rfl,?_⟩;have K11:=K10.r N3 u11;generalize (cU s9 v1 0 (4*oa)).2=s11 at *;obtain ⟨fK,_,_,_,_,N4,_⟩:=id K11;refine Ae N4 (ht.fr fK (by simp)) hT fun H12 f12=>⟨_,_,rfl,?_⟩;have K12:=K11.nil f12;obtain ⟨fK12,_,_,_,_,_,N5⟩:=id K12;refine xc N5 (ht.fr fK12 (by simp)) hT fun H13 f13=>⟨_,_,rfl,?_⟩;rw [fm,SB rfl];exact fQ rfl (li ⟨_,rfl,fQ (by decide) ⟨rfl,fK12.trans f13⟩⟩)
end
end Go.Proofs.YtcfmnlapccgllaaGreatDoor
namespace Kw
open Go
theorem qX {W W':World}{may:MemPlace->Prop} (hf:Fr [] W.heap W'.heap) (ho:W'.os=W.os) (hout:W'.output=W.output):W.keptBut W' may:=by
 refine ⟨ho,hout,fun i hi=>?_⟩;rw [hf.2 i hi (by simp)];cases h:W.heap[i]? with
 | none=>trivial
 | some o=>cases o <;> first | exact ⟨rfl,rfl,rfl,fun _ _=>rfl⟩ | exact .inr ⟨rfl,rfl⟩ | rfl
theorem post_law {H:Type}{enc:TypeId × Value->H}{P:Program}{f:Func}{s:ChangeSpec}{apart fresh handsOn:Bool}{W W':World}{args:Array Value}{v:Value}{ds gs:List (DataW H)}{before pa pv:List MemPlace}
  (hW:DataW.Whole enc P f.params.toList s.vars apart W args.toList ds gs before)
  (N6:∀ (b:Nat) (sp:Nat->Bool) (hd:Bool),DataW.TrodAll enc P W' b sp hd f.resultTypes.toList (v.resultList f.resultTypes.size) (s.fn H (ds++gs)).results [])
  (KU:∀ sp:Nat->Bool,(∀ p∈before,sp p.block=true)->DataW.TrodAll enc P W' 0 sp true f.params.toList args.toList (s.fn H (ds++gs)).args pa)
  (KW:∀ sp:Nat->Bool,(∀ p∈before,sp p.block=true)->DataW.TrodVars enc P W' sp s.vars (s.fn H (ds++gs)).vars pv)
  (hf:Fr [] W.heap W'.heap) (ho:W'.os=W.os) (hout:W'.output=W.output):s.post enc P f apart fresh handsOn false W args v W' :=
 ⟨ds,gs,before,[],pa,pv,hW,N6 _ _ _,KU _ (fun p hp=>by simpa using hW.lt p hp),KW _ (fun p hp=>by simpa using hW.lt p hp),qX hf ho hout,fun h=>by cases h⟩
end Kw
namespace Go.Proofs.YtcfmnlapccgllaaGreatDoor
open Kw
section
theorem Cg:ownKnob Tryz.prog.godebug=none:=by kernel_rfl
theorem uP : Tryz.prog.globalNamed "kiln/word.kinds" = some aP := by kernel_rfl
theorem BR : Tryz.prog.globalNamed "internal/strconv.uint64pow10" = some gP := by kernel_rfl
theorem xQ:(Tryz.prog.globals[aP]?).map (·.type)=some 184:=by kernel_rfl
theorem BV:(Tryz.prog.globals[gP]?).map (·.type)=some 255:=by kernel_rfl
theorem AQ:Tryz.prog.underlying 184=some (.array 4 3):=by kernel_rfl
theorem B7:Tryz.prog.underlying 255=some (.array 20 243):=by kernel_rfl
theorem B0:Tryz.prog.underlying 3=some (.int .i64):=by kernel_rfl
theorem Ca:Tryz.prog.underlying 243=some (.int .u64):=by kernel_rfl
theorem Ci:Tryz.prog.cellsOf 3=1:=by kernel_rfl
theorem Cf:Tryz.prog.cellsOf 243=1:=by kernel_rfl
theorem Ck:Tryz.prog.cellsOf 255=20:=by kernel_rfl
theorem uF : Tryz.prog.globalNamed "kiln/kilnref13.Names" = some cE := by kernel_rfl
theorem xN:(Tryz.prog.globals[cE]?).map (·.type)=some 87:=by kernel_rfl
theorem A1:Tryz.prog.underlying 87=some (.array 14 9):=by kernel_rfl
theorem Co:Tryz.prog.underlying 9=some .string:=by kernel_rfl
theorem B1:Tryz.prog.cellsOf 9=1:=by kernel_rfl
theorem qD {W:World}{n:String}{g:Nat}{cs:Array Value}{i:Nat}{v:Value} (hg:PP.globalNamed n=some g) (hv:W.var? PP n=some cs) (h:cs[i]?=some v):aj W.heap ⟨g,i,none⟩=some v:=by
 have:=World.var?_cell hg hv i;rw [h] at this;exact this
open Go.Lib in
theorem mL {L : List (String × DataW Unit)} (hm : ("kiln/word.kinds", Rows.laid_kiln_word_kinds) ∈ L) {W : World} (h : laidMet PP L W) : dG W.heap := by
 obtain ⟨g, t, cs, fuel, p, hg, ht, hv, hd⟩ := laidMet.reads h (n := "kiln/word.kinds") (d := Rows.laid_kiln_word_kinds) hm
 obtain rfl:=Option.some.inj (uP.symm.trans hg);obtain rfl:=Option.some.inj (xQ.symm.trans ht);have one:∀ i (k:Int),i<4->([3,1,2,1]:List Int)[i]?=some k->aj W.heap ⟨aP,i,none⟩=some (.int .i64 k):=by
  intro i k hi hk;obtain ⟨fuel',d,q,he,Eg⟩:=array_elem AQ hd i hi;rw [Ci,Rn] at Eg;obtain ⟨n,C1,hx,_⟩:=DataW.trod_int B0 Eg;obtain ⟨N7,_⟩:=Prod.mk.inj hx;have hc:cs.toList[i]?=some (.int .i64 n):=by
   have:=congrArg (·[0]?) C1;simpa [List.getElem?_take,List.getElem?_drop] using this
  have hs:n=k:=by
   have e:some d=some (.lit (.int .i64 k):DataW Unit):=by
    rw [←he];rcases i with _ | _ | _ | _ | i
    all_goals first | omega | (cases hk;rfl)
   rw [N7] at e;simpa using e
  have hf:=qD uP hv (i:=i) (v:=.int .i64 n) (by rw [←hc];simp);rw [hs] at hf;exact hf
 exact ⟨one 0 3 (by decide) rfl,one 1 1 (by decide) rfl,one 2 2 (by decide) rfl,one 3 1 (by decide) rfl⟩
open Go.Lib in
theorem qb {L : List (String × DataW Unit)} (hm : ("internal/strconv.uint64pow10", Rows.laid_internal_strconv_uint64pow10) ∈ L) {W : World} (h : laidMet PP L W) : eU W.heap := by
 obtain ⟨g, t, cs, fuel, p, hg, ht, hv, hd⟩ := laidMet.reads h (n := "internal/strconv.uint64pow10") (d := Rows.laid_internal_strconv_uint64pow10) hm
 obtain rfl:=Option.some.inj (BR.symm.trans hg);obtain rfl:=Option.some.inj (BV.symm.trans ht);have Eg:DataW.trod _ PP W _ _ _ fuel 255 cs.toList=some (tabData .u64 Lib.pow10Tab,p):=hd;have hc:=cells_of_tab B7 Ca Cf Ck Eg;unfold World.var? at hv;rw [BR] at hv;simp only [Option.bind_some] at hv;cases hb:W.heap[gP]? with
 | none=>rw [hb] at hv;simp at hv
 | some ob =>
  rw [hb] at hv;cases ob with
  | cells a b c =>
   simp only [Option.some.injEq] at hv;subst hv;refine ⟨(b,c),?_⟩;rw [hb,←hc]
  | _=>simp at hv
open Go.Lib in
theorem mY {L : List (String × DataW Unit)} (hm : ("kiln/kilnref13.Names", Rows.laid_kiln_kilnref13_Names) ∈ L) {W : World} (h : laidMet PP L W) : fI W.heap := by
 obtain ⟨g, t, cs, fuel, p, hg, ht, hv, hd⟩ := laidMet.reads h (n := "kiln/kilnref13.Names") (d := Rows.laid_kiln_kilnref13_Names) hm
 obtain rfl:=Option.some.inj (uF.symm.trans hg);obtain rfl:=Option.some.inj (xN.symm.trans ht);intro i hi;have GH:i<14:=hi;obtain ⟨fuel',d,q,he,Eg⟩:=array_elem A1 hd i GH;rw [B1,Rn] at Eg;obtain ⟨s,C1,hx,_⟩:=DataW.trod_string Co Eg;obtain ⟨N7,_⟩:=Prod.mk.inj hx;have hc:cs.toList[i]?=some (.string s):=by
  have:=congrArg (·[0]?) C1;simpa [List.getElem?_take,List.getElem?_drop] using this
 have hs:s=bQ[i]:=by
  have e:some d=some (.lit (.string (bQ[i]).data.toList):DataW Unit):=by
   rw [←he];rcases i with _ | _ | _ | _ | _ | _ | _ | _ | _ | _ | _ | _ | _ | _ | i
   all_goals first | rfl | omega
  rw [N7] at e;have e2:s.data.toList=(bQ[i]).data.toList:=by simpa using e
  cases s with
  | mk sd =>
   have e3:sd=(bQ[i]).data:=Array.ext' e2;rw [e3]
 have hf:=qD uF hv (i:=i) (v:=.string s) (by rw [←hc];simp);rw [hs] at hf;exact hf
end
end Go.Proofs.YtcfmnlapccgllaaGreatDoor
