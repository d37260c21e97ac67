/- Lemmas for RPP: functions of the program as predicate transformers, and their contracts. -/
import Derived.Test.YtgjfejoohojokaaGreatDoorZP1
import Derived.Shelf.SlSortCmp.Whole1
import Derived.Ground.SlsfProg
import Derived.Test.YtgjfejoohojokaaGreatDoorProg
import Derived.Shelf.Sort.Plain
import Derived.Ground.NamesProg
set_option linter.all false
set_option maxRecDepth 100000
set_option maxHeartbeats 4000000
namespace Go.Proofs.YtgjfejoohojokaaGreatDoor
open Kw
structure SimH (W T B:Int->Int) (low:Int) (r:RH):Prop where
 tab:∀ k,0<=k->k<=r.oops->T k=match aT r.objs k with
  | some o=>o.place
  | none=>-1
 bor:∀ o∈r.objs,B o.oop=o.born
 cls:∀ o∈r.objs,W o.place=o.cls
 shp:∀ o∈r.objs,W (o.place+1)=2*(o.slots.length:Int)+o.fmt
 wrd:∀ o∈r.objs,o.fmt=0->∀ i:Nat,i<o.slots.length->W (o.place+2+i)=o.slots.getD i 0
 byt:∀ o∈r.objs,o.fmt=1->∀ i:Nat,i<o.slots.length->W (o.place+2+(i / 4:Nat)) / ((2 ^ (i % 4*8):Nat):Int) % 256=o.slots.getD i 0
 byr:∀ o∈r.objs,o.fmt=1->∀ j,o.place+2<=j->j<o.place+o.len->0<=W j∧W j<4294967296
 low1:1<=low
 low2:low<=r.oops+1
 low3:∀ k,1<=k->k<low->aT r.objs k≠none
structure PHs (H:au) (hb wb tb bb:Nat) (W T B:Int->Int) (low:Int) (r:RH):Prop where
 hd:bI H hb #[.slice (some ⟨wb,0,none⟩) r.words.toNat r.words.toNat,.slice (some ⟨tb,0,none⟩) (r.oops+1).toNat (r.oops+1).toNat,.slice (some ⟨bb,0,none⟩) (r.oops+1).toNat (r.oops+1).toNat,ac (r.objs.length:Int),ac (bT r.objs),ac low,ac r.mark,ac r.born,ac r.turn]
 mw:fc H wb r.words.toNat W
 mt:fc H tb (r.oops+1).toNat T
 mb:fc H bb (r.oops+1).toNat B
 d:[hb,wb,tb,bb,bl].Nodup
 kinds:eM H
 wf:WFH r
 sim:SimH W T B low r
section
variable {H:au}{hb wb tb bb:Nat}{W T B:Int->Int}{low:Int}{r:RH}
theorem PHs.c0 (h:PHs H hb wb tb bb W T B low r):aq H ⟨hb,0,none⟩=some (.slice (some ⟨wb,0,none⟩) r.words.toNat r.words.toNat):=h.hd.cell 0
theorem PHs.c1 (h:PHs H hb wb tb bb W T B low r):aq H ⟨hb,1,none⟩=some (.slice (some ⟨tb,0,none⟩) (r.oops+1).toNat (r.oops+1).toNat):=h.hd.cell 1
theorem PHs.c2 (h:PHs H hb wb tb bb W T B low r):aq H ⟨hb,2,none⟩=some (.slice (some ⟨bb,0,none⟩) (r.oops+1).toNat (r.oops+1).toNat):=h.hd.cell 2
theorem PHs.c3 (h:PHs H hb wb tb bb W T B low r):aq H ⟨hb,3,none⟩=some (ac (r.objs.length:Int)):=h.hd.cell 3
theorem PHs.c4 (h:PHs H hb wb tb bb W T B low r):aq H ⟨hb,4,none⟩=some (ac (bT r.objs)):=h.hd.cell 4
theorem PHs.c5 (h:PHs H hb wb tb bb W T B low r):aq H ⟨hb,5,none⟩=some (ac low):=h.hd.cell 5
theorem PHs.c6 (h:PHs H hb wb tb bb W T B low r):aq H ⟨hb,6,none⟩=some (ac r.mark):=h.hd.cell 6
theorem PHs.c7 (h:PHs H hb wb tb bb W T B low r):aq H ⟨hb,7,none⟩=some (ac r.born):=h.hd.cell 7
theorem PHs.c8 (h:PHs H hb wb tb bb W T B low r):aq H ⟨hb,8,none⟩=some (ac r.turn):=h.hd.cell 8
theorem PHs.word (h:PHs H hb wb tb bb W T B low r){i:Int} (h0:0<=i) (h1:i<r.words):aq H ⟨wb,i.toNat,none⟩=some (ac (W i)):=h.mw.cell h0 (by omega)
theorem PHs.tabc (h:PHs H hb wb tb bb W T B low r){i:Int} (h0:0<=i) (h1:i<=r.oops):aq H ⟨tb,i.toNat,none⟩=some (ac (T i)):=h.mt.cell h0 (by omega)
end
def d9 (H:au) (hb:Nat) (F:aS) (r:RH):Prop:=∃ wb tb bb W T B low,F=[hb,wb,tb,bb]∧PHs H hb wb tb bb W T B low r
theorem PHs.rep {H:au}{hb wb tb bb:Nat}{W T B:Int->Int}{low:Int}{r:RH} (h:PHs H hb wb tb bb W T B low r):d9 H hb [hb,wb,tb,bb] r:=⟨_,_,_,_,_,_,_,rfl,h⟩
theorem d9.wf {H:au}{hb:Nat}{F:aS}{r:RH} (h:d9 H hb F r):WFH r:=by obtain ⟨_,_,_,_,_,_,_,_,h⟩:=h;exact h.wf
theorem d9.kinds {H:au}{hb:Nat}{F:aS}{r:RH} (h:d9 H hb F r):eM H:=by obtain ⟨_,_,_,_,_,_,_,_,h⟩:=h;exact h.kinds
theorem d9.lt {H:au}{hb:Nat}{F:aS}{r:RH} (h:d9 H hb F r):∀ b∈F,b<H.size:=by
 obtain ⟨wb,tb,bb,_,_,_,_,rfl,h⟩:=h;intro b hb;simp at hb;rcases hb with rfl | rfl | rfl | rfl
 ·exact h.hd.lt
 ·exact h.mw.lt
 ·exact h.mt.lt
 ·exact h.mb.lt
theorem d9.gk {H:au}{hb:Nat}{F:aS}{r:RH} (h:d9 H hb F r):bl∉F:=by
 obtain ⟨wb,tb,bb,_,_,_,_,rfl,h⟩:=h
 have:=h.d;simp only [a2R,a0E,a1l,a2h,a21] at this ⊢;obtain ⟨⟨_,_,_,h1⟩,⟨_,_,h2⟩,⟨_,h3⟩,h4,_⟩:=this;exact ⟨fun e=>h1 e.symm,fun e=>h2 e.symm,fun e=>h3 e.symm,fun e=>h4 e.symm⟩
theorem d9.fr {H H':au}{hb:Nat}{F G:aS}{r:RH} (h:d9 H hb F r) (hf:Fr G H H') (hd:bU F G) (hg:bl∉G):d9 H' hb F r:=by
 obtain ⟨wb,tb,bb,W,T,B,low,rfl,h⟩:=h;exact ⟨wb,tb,bb,W,T,B,low,rfl,{ hd:=h.hd.fr hf (hd _ (by simp)),mw:=h.mw.fr hf (hd _ (by simp)),mt:=h.mt.fr hf (hd _ (by simp)),mb:=h.mb.fr hf (hd _ (by simp)),d:=h.d,kinds:=h.kinds.fr hf hg,wf:=h.wf,sim:=h.sim }⟩
section
variable {H:au}{hb wb tb bb:Nat}{W T B:Int->Int}{low:Int}{r:RH}{Q:QT}
theorem qo {n m:Int} (h:Q (.bool (decide (0<=n∧n<=m))) H):ag PP 110 #[ac n,ac m] Q H:=by
 apply Dw;dsimp only [aP,ah];simp only [ae];split
 ·rename_i h1;have h1:0<=n:=h1;simpa [h1] using h
 ·rename_i h1;have h1:¬ 0<=n:=h1;simpa [h1] using h
theorem ov (hR:PHs H hb wb tb bb W T B low r) (h:Q (.bool false) H):ag PP 109 #[QW hb] Q H:=by
 apply Dh;dsimp only [aP,ah,aK,aE,cD];simp only [ae,a0P,a0f,a0l,a0L,bh,aV,bx,bA,bi,bB,bt,aW,bv,bu,bg,bz,a06,a1a,a1d,aB,a0K,a0y,aM,aG,aY,a0p,a0C,bq,bn,hR.c1];exact h
theorem vE {w:Int} (hk:eM H) (h:Q (.bool (decide (dL w))) H):ag PP 140 #[ac w] Q H:=by
 apply KL;dsimp only [aP,aC,ac];refine lm hk ⟨_,rfl,?_⟩
 have:(aU w != 0)=decide (dL w):=by rw [bn];rfl
 rw [this];exact h
theorem nA {n f:Int} (h0:0<=n) (h1:n<=1000000000) (h:Q (ac (lenOf n f)) H):ag PP 141 #[ac n,ac f] Q H:=by
 apply KZ;dsimp only [ah,ac,aI];simp only [ae,a0P,a0f,a0l,a0L,bh,aV,bx,bA,bi,bB,bt,aW,bv,bu,bg,bz,a06,a1a,a1d,aB,a0K,a0y,aM,aG,aY,a0p,a0C,bq,bn];unfold lenOf at h;split
 ·rename_i hf;rw [a0b hf] at h;rw [ao (n:=n+4) (by omega) (by omega),ao (n:=n+4-1) (by omega) (by omega),lM,a0b (by omega),ao (n:=(n+4-1) / 4) (by omega) (by omega),ao (by omega) (by omega)];rw [show n+4-1=n+3 by omega];exact h
 ·rename_i hf;rw [a0a hf] at h;rw [ao (by omega) (by omega)];exact h
theorem PHs.in_ (hR:PHs H hb wb tb bb W T B low r){o:RO} (ho:o∈r.objs):0<=o.place∧o.place+o.len<=r.words∧2<=o.len∧r.words<=1048576∧(o.fmt=0∨o.fmt=1)∧(o.slots.length:Int)<=8192:=by
 have hg:=hR.wf.objs.good o ho;exact ⟨hg.pl,hg.fits,o.len_pos,hR.wf.w1,hg.fmt,by have:=hg.many;omega⟩
theorem ud (hR:PHs H hb wb tb bb W T B low r){o:RO} (ho:o∈r.objs) (h:Q (.tuple #[ac (o.slots.length:Int),ac o.fmt]) H):ag PP 117 #[QW hb,ac o.place] Q H:=by
 obtain ⟨h1,h2,h3,h4,h5,h6⟩:=hR.in_ ho;apply zi;dsimp only [aA,ay,aK,bc,bf,aE,aI];rw [ao (n:=o.place+1) (by omega) (by omega)];simp only [ae,a0P,a0f,a0l,a0L,bh,aV,bx,bA,bi,bB,bt,aW,bv,bu,bg,bz,a06,a1a,a1d,aB,a0K,a0y,aM,aG,aY,a0p,a0C,bq,bn,hR.c0,hR.word (i:=o.place+1) (by omega) (by omega)];refine ⟨by omega,by omega,?_⟩;rw [hR.sim.shp o ho,IH,za];have e1:(2*(o.slots.length:Int)+o.fmt) / 2=o.slots.length:=by omega
 have e2:(2*(o.slots.length:Int)+o.fmt) % 2=o.fmt:=by omega
 rw [e1,e2];exact h
def sf (r:RH) (k:Int):Value:=match aT r.objs k with
 | none=>.tuple #[ac 0,ac 20]
 | some o=>.tuple #[ac o.place,ac 0]
theorem uA (hR:PHs H hb wb tb bb W T B low r){k:Int} (h:Q (sf r k) H):ag PP 116 #[QW hb,ac k] Q H:=by
 apply FL;dsimp only [aA,bk,ah,aX,ay,aK,bc,bf,aE,am];refine ov hR ⟨_,rfl,?_⟩;have Tm:=hR.wf.o0;have none_:(k<1∨r.oops<k)->aT r.objs k=none:=fun hk=>eB.2 fun o ho=>by
  have hg:=hR.wf.objs.good o ho;have:=hg.oop1;have:=hg.oop2;omega
 unfold sf at h;simp only [ae,a0P,a0f,a0l,a0L,bh,aV,bx,bA,bi,bB,bt,aW,bv,bu,bg,bz,a06,a1a,a1d,aB,a0K,a0y,aM,aG,aY,a0p,a0C,bq,bn,hR.c1];split
 ·rename_i hk;rw [none_ (.inl hk)] at h;exact h
 split
 ·rename_i hk;rw [none_ (.inr (by omega))] at h;exact h
 ·rename_i h1 h2;have ht:=hR.sim.tab k (by omega) (by omega);simp only [hR.tabc (i:=k) (by omega) (by omega),ae,a0P,a0f,a0l,a0L,bh,aV,bx,bA,bi,bB,bt,aW,bv,bu,bg,bz,a06,a1a,a1d,aB,a0K,a0y,aM,aG,aY,a0p,a0C,bq,bn];refine ⟨by omega,by omega,?_⟩;rw [ht];cases ho:aT r.objs k with
  | none=>rw [ho] at h;simpa using h
  | some o =>
   rw [ho] at h
   have:=(hR.in_ (aR ho).1).1;simp only;rw [a0a (by omega)];exact ⟨by omega,by omega,h⟩
def u9 (r:RH) (k i:Int):Value:=match aT r.objs k with
 | none=>.tuple #[ac 0,ac 0,ac 0,ac 20]
 | some o=>if i<0∨(o.slots.length:Int)<=i then .tuple #[ac 0,ac 0,ac 0,ac 21]
  else if o.fmt=1 then .tuple #[ac (o.place+2+i / 4),ac (i % 4*8),ac 1,ac 0]
  else .tuple #[ac (o.place+2+i),ac 0,ac o.fmt,ac 0]
theorem wP (hR:PHs H hb wb tb bb W T B low r){k i:Int} (h:Q (u9 r k i) H):ag PP 118 #[QW hb,ac k,ac i] Q H:=by
 apply Kj;dsimp only [ah,ak,aX,ac,am,ax,bJ,aI];refine uA hR ?_;unfold sf;unfold u9 at h;cases ho:aT r.objs k with
 | none=>rw [ho] at h;exact ⟨_,_,rfl,by simpa using h⟩
 | some o =>
  rw [ho] at h;have hm:=(aR ho).1;obtain ⟨h1,h2,h3,h4,h5,h6⟩:=hR.in_ hm;refine ⟨_,_,rfl,?_⟩;simp only [ae,a0P,a0f,a0l,a0L,bh,aV,bx,bA,bi,bB,bt,aW,bv,bu,bg,bz,a06,a1a,a1d,aB,a0K,a0y,aM,aG,aY,a0p,a0C,bq,bn,a3Q,not_true_eq_false,if_false];refine ud hR hm ⟨_,_,rfl,?_⟩;simp only at h;split
  ·rw [a0b (by omega)] at h;exact h
  split
  ·rw [a0b (by omega)] at h;exact h
  ·rename_i g1 g2;rw [a0a (by omega)] at h;split
   ·rename_i hf;rw [a0b hf] at h;rw [lM,a0b (by omega),pP _ _ (by decide),a0b (by omega),ao (n:=o.place+2) (by omega) (by omega),ao (n:=i / 4) (by omega) (by omega),ao (n:=i % 4*8) (by omega) (by omega),ao (by omega) (by omega),hf];exact h
   ·rename_i hf;rw [a0a hf] at h;rw [ao (n:=o.place+2) (by omega) (by omega),ao (by omega) (by omega)];exact h
theorem tO (hR:PHs H hb wb tb bb W T B low r){o:RO} (ho:o∈r.objs){i:Int} (h0:0<=i) (h1:i<o.slots.length):(o.fmt=1->o.place+2+i / 4<r.words∧o.place+2+i / 4<o.place+o.len)∧(o.fmt≠1->o.place+2+i<r.words∧o.place+2+i<o.place+o.len):=by
 obtain ⟨g1,g2,g3,g4,g5,g6⟩:=hR.in_ ho;have hl:o.len=lenOf o.slots.length o.fmt:=rfl;constructor
 ·intro hf;rw [lenOf,a0b hf] at hl;omega
 ·intro hf;rw [lenOf,a0a hf] at hl;omega
theorem PY (hR:PHs H hb wb tb bb W T B low r){k i:Int} (h:Q (wK (r.at k i)) H):ag PP 57 #[QW hb,ac k,ac i] Q H:=by
 apply NY;dsimp only [aA,ah,jM,aX,ay,aK,bc,ac,bf,aE,am];refine wP hR ?_;unfold u9;unfold RH.at at h;cases ho:aT r.objs k with
 | none=>rw [ho] at h;exact ⟨_,_,_,_,rfl,by simpa using h⟩
 | some o =>
  rw [ho] at h;have hm:=(aR ho).1;obtain ⟨h1,h2,h3,h4,h5,h6⟩:=hR.in_ hm;simp only at h ⊢;split
  ·rename_i hi;rw [a0b hi] at h;exact ⟨_,_,_,_,rfl,by simpa using h⟩
  ·rename_i hi;rw [a0a hi] at h;have hs:=tO hR hm (i:=i) (by omega) (by omega);split
   ·rename_i hf;have hs:=hs.1 hf;refine ⟨_,_,_,_,rfl,?_⟩;simp only [ae,a0P,a0f,a0l,a0L,bh,aV,bx,bA,bi,bB,bt,aW,bv,bu,bg,bz,a06,a1a,a1d,aB,a0K,a0y,aM,aG,aY,a0p,a0C,bq,bn,a3Q,not_true_eq_false,if_false,if_true,hR.c0,hR.word (i:=o.place+2+i / 4) (by omega) (by omega)];refine ⟨by omega,by omega,?_⟩;rw [a0a (by omega)];have e:i % 4*8=((i.toNat % 4*8:Nat):Int):=by omega
    have hb:=hR.sim.byt o hm hf i.toNat (by omega);have e2:((i.toNat / 4:Nat):Int)=i / 4:=by omega
    rw [e2] at hb;rw [e,lW _ _ (by omega),Hn,hb];exact h
   ·rename_i hf;have hs:=hs.2 hf;refine ⟨_,_,_,_,rfl,?_⟩;have w5:o.fmt=0:=by omega
    have hw:=hR.sim.wrd o hm w5 i.toNat (by omega);rw [a2E (by omega)] at hw;simp only [ae,a0P,a0f,a0l,a0L,bh,aV,bx,bA,bi,bB,bt,aW,bv,bu,bg,bz,a06,a1a,a1d,aB,a0K,a0y,aM,aG,aY,a0p,a0C,bq,bn,a3Q,not_true_eq_false,if_false,hf,hR.c0,hR.word (i:=o.place+2+i) (by omega) (by omega)];refine ⟨by omega,by omega,?_⟩;rw [hw];exact h
theorem Fx (hR:PHs H hb wb tb bb W T B low r){k:Int} (h:Q (wK (r.clsAt k)) H):ag PP 54 #[QW hb,ac k] Q H:=by
 apply Mc;dsimp only [aA,ah,ak,ay,aK,bc,ac,bf,aE,am];refine uA hR ?_;unfold sf;unfold RH.clsAt at h;cases ho:aT r.objs k with
 | none=>rw [ho] at h;exact ⟨_,_,rfl,by simpa using h⟩
 | some o =>
  rw [ho] at h;have hm:=(aR ho).1;obtain ⟨h1,h2,h3,h4,h5,h6⟩:=hR.in_ hm;refine ⟨_,_,rfl,?_⟩;simp only [ae,a0P,a0f,a0l,a0L,bh,aV,bx,bA,bi,bB,bt,aW,bv,bu,bg,bz,a06,a1a,a1d,aB,a0K,a0y,aM,aG,aY,a0p,a0C,bq,bn,a3Q,not_true_eq_false,if_false,hR.c0,hR.word (i:=o.place) (by omega) (by omega),hR.sim.cls o hm];exact ⟨by omega,by omega,h⟩
theorem M7 (hR:PHs H hb wb tb bb W T B low r){k:Int} (h:Q (nM (r.size k)) H):ag PP 55 #[QW hb,ac k] Q H:=by
 apply MV;dsimp only [ah,ak,ac,am,bJ];refine uA hR ?_;unfold sf;unfold RH.size at h;cases ho:aT r.objs k with
 | none=>rw [ho] at h;exact ⟨_,_,rfl,by simpa using h⟩
 | some o =>
  rw [ho] at h;have hm:=(aR ho).1;refine ⟨_,_,rfl,?_⟩;simp only [ae,a0P,a0f,a0l,a0L,bh,aV,bx,bA,bi,bB,bt,aW,bv,bu,bg,bz,a06,a1a,a1d,aB,a0K,a0y,aM,aG,aY,a0p,a0C,bq,bn,a3Q,not_true_eq_false,if_false];exact ud hR hm ⟨_,_,rfl,h⟩
theorem LH {w f:Int} (hk:eM H) (h:Q (.bool (decide (fv f w))) H):ag PP 269 #[ac w,ac f] Q H:=by
 apply IS;dsimp only [aP,bk,ah,ac];have fin:∀ b:Bool,b=decide (fv f w)->Q (.bool b) H:=fun b hb=>hb ▸ h;simp only [ae,a0P,a0f,a0l,a0L,bh,aV,bx,bA,bi,bB,bt,aW,bv,bu,bg,bz,a06,a1a,a1d,aB,a0K,a0y,aM,aG,aY,a0p,a0C,bq,bn];split
 ·rename_i hf;split
  ·exact fin _ (by simp [fv,hf];omega)
  ·exact fin _ (by simp [fv,hf];omega)
 ·rename_i hf;exact vE hk ⟨_,rfl,fin _ (by simp [fv,hf])⟩
theorem Cy (hR:PHs H hb wb tb bb W T B low r) (h:Q (ac r.mark) H):ag PP 60 #[QW hb] Q H:=by
 apply N4;dsimp only [ah,ay,ac,aE,cD];simp only [ae,a0P,a0f,a0l,a0L,bh,aV,bx,bA,bi,bB,bt,aW,bv,bu,bg,bz,a06,a1a,a1d,aB,a0K,a0y,aM,aG,aY,a0p,a0C,bq,bn,hR.c6];exact h
end
section
variable {H:au}{hb wb tb bb:Nat}{W T B:Int->Int}{low:Int}{r:RH}{Q:QT}
theorem Cx {F:aS} (hR:d9 H hb F r){k:Int} (h:∀ H',d9 H' hb F (r.marks k).2->Fr F H H'->Q (ac (r.marks k).1) H'):ag PP 45 #[QW hb,ac k] Q H:=by
 have w6:=hR;obtain ⟨wb,tb,bb,W,T,B,low,rfl,hR⟩:=hR;apply NK;dsimp only [bk,ah,ac,aE,am,bj];refine ov hR ⟨_,rfl,?_⟩;simp only [a0f];refine qo ⟨_,rfl,?_⟩;have hd:=hR.d;simp only [a2R,a0E,a1l,a2h,a21] at hd;unfold RH.marks at h;by_cases hk:0<=k∧k<=1073741824
 ·simp only [hk,and_self,if_true] at h;simp only [ae,a0P,a0f,a0l,a0L,bh,aV,bx,bA,bi,bB,bt,aW,bv,bu,bg,bz,a06,a1a,a1d,aB,a0K,a0y,aM,aG,aY,a0p,a0C,bq,bn,hk];refine ⟨hR.hd.wr (by simp),h _ ⟨wb,tb,bb,W,T,B,low,rfl,?_⟩ (Fr.set (by simp))⟩;exact { hd:=hR.hd.set 6 (ac k),mw:=hR.mw.set_ne (by simp;omega) _,mt:=hR.mt.set_ne (by simp;omega) _,mb:=hR.mb.set_ne (by simp;omega) _,d:=hR.d,kinds:=hR.kinds.fr (Fr.set (F:=[hb]) (by simp)) (by simp;omega),wf:={ hR.wf with m0:=hk.1,m1:=hk.2 },sim:={ hR.sim with } }
 ·simp only [hk,if_false] at h;simp only [ae,a0P,a0f,a0l,a0L,bh,aV,bx,bA,bi,bB,bt,aW,bv,bu,bg,bz,a06,a1a,a1d,aB,a0K,a0y,aM,aG,aY,a0p,a0C,bq,bn,hk];exact h H w6 (Fr.refl _ _)
theorem Pa (hw:WFH r) (hs:SimH W T B low r){o:RO}{k i w:Int} (ho:aT r.objs k=some o) (h0:0<=i) (h1:i<o.slots.length) (hf:o.fmt=0) :
  SimH (upd W (o.place+2+i) w) T B low { r with objs:=gX r.objs k (d8 i w) }:=by
 have Ry:=aR ho;have hlen:o.len=2+(o.slots.length:Int):=by unfold RO.len lenOf;rw [a0a (by omega)]
 have key:∀ o'∈gX r.objs k (d8 i w),∃ a∈r.objs,(a.oop=k∧a=o∧o'=d8 i w o)∨(a.oop≠k∧o'=a∧(a.place+a.len<=o.place∨o.place+o.len<=a.place)):=by
  intro o' xB;simp only [gX,a1n] at xB;obtain ⟨a,ha,rfl⟩:=xB;refine ⟨a,ha,?_⟩;split
  ·rename_i hk
   have:a=o:=by have:=cN hw.objs ha;rw [hk,ho] at this;exact (Option.some.inj this).symm
   exact .inl ⟨hk,this,by rw [this]⟩
  ·rename_i hk;exact .inr ⟨hk,rfl,apart hw.objs ha Ry.1 (by rw [Ry.2];exact hk)⟩
 refine { tab:=fun j g0 g1=>?_,bor:=fun o' xB=>?_,cls:=fun o' xB=>?_,shp:=fun o' xB=>?_,wrd:=fun o' xB s7 j hj=>?_,byt:=fun o' xB s7 j hj=>?_,byr:=fun o' xB s7 j RY JD=>?_,low1:=hs.low1,low2:=hs.low2,low3:=fun j g0 g1=>?_ }
 ·rw [hs.tab j g0 g1];have e:=dH (l:=r.objs) (k:=k) (j:=j) (f:=d8 i w) fun _=>rfl;simp only [e];cases aT r.objs j with
  | none=>rfl
  | some a=>simp only [a2Q];split <;> rfl
 ·obtain ⟨a,ha,⟨hk,rfl,rfl⟩ | ⟨hk,rfl,hd⟩⟩:=key o' xB
  ·exact hs.bor a ha
  ·exact hs.bor _ ha
 ·obtain ⟨a,ha,⟨hk,rfl,rfl⟩ | ⟨hk,rfl,hd⟩⟩:=key o' xB
  ·show upd W _ w a.place=a.cls;rw [upd,a0a (by omega)];exact hs.cls _ ha
  ·have:=o'.len_pos;rw [upd,a0a (by omega)];exact hs.cls _ ha
 ·obtain ⟨a,ha,⟨hk,rfl,rfl⟩ | ⟨hk,rfl,hd⟩⟩:=key o' xB
  ·show upd W _ w (a.place+1)=2*(((a.slots.set i.toNat w).length:Nat):Int)+a.fmt;rw [upd,a0a (by omega),a33];exact hs.shp _ ha
  ·have:=o'.len_pos;rw [upd,a0a (by omega)];exact hs.shp _ ha
 ·obtain ⟨a,ha,⟨hk,rfl,rfl⟩ | ⟨hk,rfl,hd⟩⟩:=key o' xB
  ·have Sa:j<a.slots.length:=by simpa [d8] using hj
   show upd W _ w (a.place+2+j)=(a.slots.set i.toNat w).getD j 0;unfold upd;split
   ·rename_i he
    have:i.toNat=j:=by omega
    simp [this,Sa]
   ·rename_i he;have ic:i.toNat≠j:=by omega
    rw [hs.wrd _ ha hf j Sa];simp [a3N,ic]
  ·have hl:o'.len=2+(o'.slots.length:Int):=by unfold RO.len lenOf;rw [a0a (by omega)]
   rw [upd,a0a (by omega)];exact hs.wrd _ ha s7 j hj
 ·obtain ⟨a,ha,⟨hk,rfl,rfl⟩ | ⟨hk,rfl,hd⟩⟩:=key o' xB
  ·have:a.fmt=1:=s7;omega
  ·have hl:o'.len=2+((o'.slots.length:Int)+3) / 4:=by unfold RO.len lenOf;rw [a0b s7]
   rw [upd,a0a (by omega)];exact hs.byt _ ha s7 j hj
 ·obtain ⟨a,ha,⟨hk,rfl,rfl⟩ | ⟨hk,rfl,hd⟩⟩:=key o' xB
  ·have:a.fmt=1:=s7;omega
  ·rw [upd,a0a (by omega)];exact hs.byr _ ha s7 j RY JD
 ·have:=hs.low3 j g0 g1;have e:=dH (l:=r.objs) (k:=k) (j:=j) (f:=d8 i w) fun _=>rfl;simp only [e];cases hj:aT r.objs j with
  | none=>exact absurd hj this
  | some a=>simp
theorem rz {F:aS} (hR:d9 H hb F r){k i w:Int} (hf:∀ o,aT r.objs k=some o->o.fmt=0) (h:∀ H',d9 H' hb F (r.put k i w).2->Fr F H H'->Q (ac (r.put k i w).1) H'):ag PP 148 #[QW hb,ac k,ac i,ac w] Q H:=by
 have w6:=hR;obtain ⟨wb,tb,bb,W,T,B,low,rfl,hR⟩:=hR;apply yY;dsimp only [bk,ah,jM,aX,ay,aK,bc,ac,bf,aE,am,bj];refine wP hR ?_;unfold u9;have pe:=kW hR.wf k i w;unfold RH.put at h pe;cases ho:aT r.objs k with
 | none=>rw [ho] at h;exact ⟨_,_,_,_,rfl,by simpa using h H w6 (Fr.refl _ _)⟩
 | some o =>
  rw [ho] at h pe;have hm:=(aR ho).1;obtain ⟨h1,h2,h3,h4,h5,h6⟩:=hR.in_ hm;simp only at h pe ⊢;split
  ·rename_i hi;simp only [a0b hi] at h;exact ⟨_,_,_,_,rfl,by simpa using h H w6 (Fr.refl _ _)⟩
  ·rename_i hi;simp only [a0a hi] at h pe;have hs:=tO hR hm (i:=i) (by omega) (by omega);have w5:=hf o ho;rw [a0a (by omega)];have hs:=hs.2 (by omega);refine ⟨_,_,_,_,rfl,?_⟩;simp only [ae,a0P,a0f,a0l,a0L,bh,aV,bx,bA,bi,bB,bt,aW,bv,bu,bg,bz,a06,a1a,a1d,aB,a0K,a0y,aM,aG,aY,a0p,a0C,bq,bn,a3Q,not_true_eq_false,if_false];refine LH hR.kinds ⟨_,rfl,?_⟩;by_cases JE:fv o.fmt w
   ·simp only [JE,not_true_eq_false,if_false] at h pe;have Oa:fv 0 w:=w5 ▸ JE;simp only [ae,a0P,a0f,a0l,a0L,bh,aV,bx,bA,bi,bB,bt,aW,bv,bu,bg,bz,a06,a1a,a1d,aB,a0K,a0y,aM,aG,aY,a0p,a0C,bq,bn,w5,Oa,decide_true,hR.c0];rw [a0a (by decide)];refine ⟨by omega,by omega,hR.mw.wr (by omega) (by omega),h _ ⟨wb,tb,bb,upd W (o.place+2+i) w,T,B,low,rfl,?_⟩ (Fr.set (by simp))⟩;have hd:=hR.d;simp only [a2R,a0E,a1l,a2h,a21] at hd;refine { hd:=?_,mw:=hR.mw.set (by omega) w,mt:=hR.mt.set_ne (by simp;omega) _,mb:=hR.mb.set_ne (by simp;omega) _,d:=hR.d,kinds:=hR.kinds.fr (Fr.set (F:=[wb]) (by simp)) (by simp;omega),wf:=pe,sim:=Pa hR.wf hR.sim ho (by omega) (by omega) w5 }
    have:=hR.hd.set_ne (a:=⟨wb,(o.place+2+i).toNat,none⟩) (by simp;omega) (ac w);simp only [vN,tm (k:=k) (f:=d8 i w) (l:=r.objs) (fun _=>rfl) (lG i w)];exact this
   ·simp only [JE,not_false_eq_true,if_true] at h;simp only [ae,a0P,a0f,a0l,a0L,bh,aV,bx,bA,bi,bB,bt,aW,bv,bu,bg,bz,a06,a1a,a1d,aB,a0K,a0y,aM,aG,aY,a0p,a0C,bq,bn,JE,decide_false];exact h H w6 (Fr.refl _ _)
end
structure PV where
 W:Int->Int
 T:Int->Int
 B:Int->Int
 count:Int
 en:Int
 low:Int
 mark:Int
 ever:Int
 turn:Int
structure Raw (H:au) (hb wb tb bb nw nt:Nat) (p:PV):Prop where
 hd:bI H hb #[.slice (some ⟨wb,0,none⟩) nw nw,.slice (some ⟨tb,0,none⟩) nt nt,.slice (some ⟨bb,0,none⟩) nt nt,ac p.count,ac p.en,ac p.low,ac p.mark,ac p.ever,ac p.turn]
 mw:fc H wb nw p.W
 mt:fc H tb nt p.T
 mb:fc H bb nt p.B
 d:[hb,wb,tb,bb,bl].Nodup
section
variable {H:au}{hb wb tb bb nw nt:Nat}{p:PV}{W T B:Int->Int}{low:Int}{r:RH}{Q:QT}
theorem PHs.raw (h:PHs H hb wb tb bb W T B low r):Raw H hb wb tb bb r.words.toNat (r.oops+1).toNat ⟨W,T,B,r.objs.length,bT r.objs,low,r.mark,r.born,r.turn⟩:=⟨h.hd,h.mw,h.mt,h.mb,h.d⟩
theorem Raw.phs (h:Raw H hb wb tb bb nw nt p) (hk:eM H) (hw:WFH r) (hs:SimH p.W p.T p.B p.low r) (e1:nw=r.words.toNat) (e2:nt=(r.oops+1).toNat) (e3:p.count=r.objs.length) (e4:p.en=bT r.objs) (e5:p.mark=r.mark) (e6:p.ever=r.born) (e7:p.turn=r.turn):PHs H hb wb tb bb p.W p.T p.B p.low r:=by
 subst e1;subst e2;have h1:=h.hd;rw [e3,e4,e5,e6,e7] at h1;exact ⟨h1,h.mw,h.mt,h.mb,h.d,hk,hw,hs⟩
theorem Raw.c0 (h:Raw H hb wb tb bb nw nt p):aq H ⟨hb,0,none⟩=some (.slice (some ⟨wb,0,none⟩) nw nw):=h.hd.cell 0
theorem Raw.c1 (h:Raw H hb wb tb bb nw nt p):aq H ⟨hb,1,none⟩=some (.slice (some ⟨tb,0,none⟩) nt nt):=h.hd.cell 1
theorem Raw.c2 (h:Raw H hb wb tb bb nw nt p):aq H ⟨hb,2,none⟩=some (.slice (some ⟨bb,0,none⟩) nt nt):=h.hd.cell 2
theorem Raw.c3 (h:Raw H hb wb tb bb nw nt p):aq H ⟨hb,3,none⟩=some (ac p.count):=h.hd.cell 3
theorem Raw.c4 (h:Raw H hb wb tb bb nw nt p):aq H ⟨hb,4,none⟩=some (ac p.en):=h.hd.cell 4
theorem Raw.c5 (h:Raw H hb wb tb bb nw nt p):aq H ⟨hb,5,none⟩=some (ac p.low):=h.hd.cell 5
theorem Raw.c6 (h:Raw H hb wb tb bb nw nt p):aq H ⟨hb,6,none⟩=some (ac p.mark):=h.hd.cell 6
theorem Raw.c7 (h:Raw H hb wb tb bb nw nt p):aq H ⟨hb,7,none⟩=some (ac p.ever):=h.hd.cell 7
theorem Raw.c8 (h:Raw H hb wb tb bb nw nt p):aq H ⟨hb,8,none⟩=some (ac p.turn):=h.hd.cell 8
theorem Raw.word (h:Raw H hb wb tb bb nw nt p){i:Int} (h0:0<=i) (h1:i<nw):aq H ⟨wb,i.toNat,none⟩=some (ac (p.W i)):=h.mw.cell h0 h1
theorem Raw.tabc (h:Raw H hb wb tb bb nw nt p){i:Int} (h0:0<=i) (h1:i<nt):aq H ⟨tb,i.toNat,none⟩=some (ac (p.T i)):=h.mt.cell h0 h1
theorem Raw.ne (h:Raw H hb wb tb bb nw nt p):(hb≠wb∧hb≠tb∧hb≠bb∧hb≠bl)∧(wb≠tb∧wb≠bb∧wb≠bl)∧(tb≠bb∧tb≠bl)∧bb≠bl:=by
 have hd:=h.d;simpa only [a2R,a0E,a1l,a2h,a21,not_false_eq_true,List.nodup_nil,a1d] using hd
theorem Raw.setW (h:Raw H hb wb tb bb nw nt p){i:Int} (h0:0<=i) (v:Int):Raw (aQ H ⟨wb,i.toNat,none⟩ (ac v)) hb wb tb bb nw nt { p with W:=upd p.W i v }:=by
 obtain ⟨⟨n1,n2,n3,n4⟩,⟨n5,n6,n7⟩,⟨n8,n9⟩,n10⟩:=h.ne;exact ⟨h.hd.set_ne n1 _,h.mw.set h0 v,h.mt.set_ne n5.symm _,h.mb.set_ne n6.symm _,h.d⟩
theorem Raw.setT (h:Raw H hb wb tb bb nw nt p){i:Int} (h0:0<=i) (v:Int):Raw (aQ H ⟨tb,i.toNat,none⟩ (ac v)) hb wb tb bb nw nt { p with T:=upd p.T i v }:=by
 obtain ⟨⟨n1,n2,n3,n4⟩,⟨n5,n6,n7⟩,⟨n8,n9⟩,n10⟩:=h.ne;exact ⟨h.hd.set_ne n2 _,h.mw.set_ne n5 _,h.mt.set h0 v,h.mb.set_ne n8.symm _,h.d⟩
theorem Raw.setB (h:Raw H hb wb tb bb nw nt p){i:Int} (h0:0<=i) (v:Int):Raw (aQ H ⟨bb,i.toNat,none⟩ (ac v)) hb wb tb bb nw nt { p with B:=upd p.B i v }:=by
 obtain ⟨⟨n1,n2,n3,n4⟩,⟨n5,n6,n7⟩,⟨n8,n9⟩,n10⟩:=h.ne;exact ⟨h.hd.set_ne n3 _,h.mw.set_ne n6 _,h.mt.set_ne n8 _,h.mb.set h0 v,h.d⟩
theorem Raw.set3 (h:Raw H hb wb tb bb nw nt p) (v:Int):Raw (aQ H ⟨hb,3,none⟩ (ac v)) hb wb tb bb nw nt { p with count:=v }:=by
 obtain ⟨⟨n1,n2,n3,n4⟩,_⟩:=h.ne;exact ⟨h.hd.set 3 (ac v),h.mw.set_ne n1.symm _,h.mt.set_ne n2.symm _,h.mb.set_ne n3.symm _,h.d⟩
theorem Raw.set4 (h:Raw H hb wb tb bb nw nt p) (v:Int):Raw (aQ H ⟨hb,4,none⟩ (ac v)) hb wb tb bb nw nt { p with en:=v }:=by
 obtain ⟨⟨n1,n2,n3,n4⟩,_⟩:=h.ne;exact ⟨h.hd.set 4 (ac v),h.mw.set_ne n1.symm _,h.mt.set_ne n2.symm _,h.mb.set_ne n3.symm _,h.d⟩
theorem Raw.set5 (h:Raw H hb wb tb bb nw nt p) (v:Int):Raw (aQ H ⟨hb,5,none⟩ (ac v)) hb wb tb bb nw nt { p with low:=v }:=by
 obtain ⟨⟨n1,n2,n3,n4⟩,_⟩:=h.ne;exact ⟨h.hd.set 5 (ac v),h.mw.set_ne n1.symm _,h.mt.set_ne n2.symm _,h.mb.set_ne n3.symm _,h.d⟩
theorem Raw.set6 (h:Raw H hb wb tb bb nw nt p) (v:Int):Raw (aQ H ⟨hb,6,none⟩ (ac v)) hb wb tb bb nw nt { p with mark:=v }:=by
 obtain ⟨⟨n1,n2,n3,n4⟩,_⟩:=h.ne;exact ⟨h.hd.set 6 (ac v),h.mw.set_ne n1.symm _,h.mt.set_ne n2.symm _,h.mb.set_ne n3.symm _,h.d⟩
theorem Raw.set7 (h:Raw H hb wb tb bb nw nt p) (v:Int):Raw (aQ H ⟨hb,7,none⟩ (ac v)) hb wb tb bb nw nt { p with ever:=v }:=by
 obtain ⟨⟨n1,n2,n3,n4⟩,_⟩:=h.ne;exact ⟨h.hd.set 7 (ac v),h.mw.set_ne n1.symm _,h.mt.set_ne n2.symm _,h.mb.set_ne n3.symm _,h.d⟩
theorem Raw.set8 (h:Raw H hb wb tb bb nw nt p) (v:Int):Raw (aQ H ⟨hb,8,none⟩ (ac v)) hb wb tb bb nw nt { p with turn:=v }:=by
 obtain ⟨⟨n1,n2,n3,n4⟩,_⟩:=h.ne;exact ⟨h.hd.set 8 (ac v),h.mw.set_ne n1.symm _,h.mt.set_ne n2.symm _,h.mb.set_ne n3.symm _,h.d⟩
theorem Raw.wrh (h:Raw H hb wb tb bb nw nt p){i:Nat} (hi:i<9):Wr H ⟨hb,i,none⟩:=h.hd.wr hi
theorem Raw.keep (h:Raw H hb wb tb bb nw nt p){F:aS}{H':au} (hf:Fr F H H') (hd:bU [hb,wb,tb,bb] F):Raw H' hb wb tb bb nw nt p :=
 ⟨h.hd.fr hf (hd _ (by simp)),h.mw.fr hf (hd _ (by simp)),h.mt.fr hf (hd _ (by simp)),h.mb.fr hf (hd _ (by simp)),h.d⟩
theorem Raw.fset (h:Raw H hb wb tb bb nw nt p){b o:Nat}{v:Value} (k9:b∈[hb,wb,tb,bb]):Fr [hb,wb,tb,bb] H (aQ H ⟨b,o,none⟩ v):=Fr.set k9
def Pp (p:PV) (oop cls n f:Int):PV:={ p with W:=upd (upd p.W p.en cls) (p.en+1) (2*n+f),T:=upd p.T oop p.en,B:=upd p.B oop p.ever,en:=p.en+lenOf n f,ever:=IntKind.wrap .i64 (p.ever+1),count:=p.count+1 }
theorem PB (hR:Raw H hb wb tb bb nw nt p){oop cls n f:Int} (h0:0<=p.en) (h1:p.en+2<=nw) (UT:nw<=1048576) (h2:0<=oop) (h3:oop<nt) (h4:0<=n) (h5:n<=8192) (h6:f=0∨f=1) (h7:0<=p.count) (h8:p.count<=100000)
  (h:∀ H',Raw H' hb wb tb bb nw nt (Pp p oop cls n f)->Fr [hb,wb,tb,bb] H H'->Q (ac p.en) H'):ag PP 142 #[QW hb,ac oop,ac cls,ac n,ac f] Q H:=by
 apply EO;dsimp only [aC,ay,aK,bc,ac,bf,aE,bj,aI];have e1:fu .i64 n 1=2*n:=by
  have:=mX n 1 (by decide) ⟨by simp;omega,by simp;omega⟩;simpa [a3i] using this
 have e2:wJ .i64 (2*n) f=2*n+f:=by
  have:=qe (2*n) 1 f.toNat (by decide) (by omega) ⟨by omega,by omega⟩ (by simp);rw [a2E (by omega)] at this;exact this
 have e3:IntKind.wrap .i64 (p.en+1)=p.en+1:=ao (by omega) (by omega);have r1:=hR.setW (i:=p.en) h0 cls;have r2:=r1.setW (i:=p.en+1) (by omega) (2*n+f);have r3:=r2.setT (i:=oop) h2 p.en;have r4:=r3.setB (i:=oop) h2 p.ever;have hl:=jg (n:=n) (fmt:=f) h4;have K2:=jP (n:=n) (fmt:=f) h4;have e4:IntKind.wrap .i64 (p.en+lenOf n f)=p.en+lenOf n f:=ao (by omega) (by omega);have e5:IntKind.wrap .i64 (p.count+1)=p.count+1:=ao (by omega) (by omega);have r5:=r4.set4 (p.en+lenOf n f);have r6:=r5.set7 (IntKind.wrap .i64 (p.ever+1));have r7:=r6.set3 (p.count+1);simp only [ae,a0P,a0f,a0l,a0L,bh,aV,bx,bA,bi,bB,bt,aW,bv,bu,bg,bz,a06,a1a,a1d,aB,a0K,a0y,aM,aG,aY,a0p,a0C,bq,bn,e1,e2,e3,hR.c4,hR.c0,r2.c1,r2.c2,r2.c7,r4.c4];refine ⟨by omega,by omega,hR.mw.wr h0 (by omega),by omega,by omega,r1.mw.wr (by omega) (by omega),by omega,by omega,r2.mt.wr h2 h3,h2,h3,r3.mb.wr h2 h3,?_⟩;refine nA h4 (by omega) ?_;simp only [ae,a0P,a0f,a0l,a0L,bh,aV,bx,bA,bi,bB,bt,aW,bv,bu,bg,bz,a06,a1a,a1d,aB,a0K,a0y,aM,aG,aY,a0p,a0C,bq,bn,r4.c4,e4,r5.c7,r6.c3,e5];refine ⟨r4.wrh (by decide),r5.wrh (by decide),r6.wrh (by decide),h _ r7 ?_⟩
 ·exact ((((((((Fr.refl _ _).step (by simp)).step (by simp)).step (by simp)).step (by simp)).step (by simp)).step (by simp)).step (by simp))
end
section
variable {H:au}{hb wb tb bb:Nat}{W T B:Int->Int}{low:Int}{r:RH}{Q:QT}
theorem LW (hw:WFH r) (hs:SimH W T B low r){cls n f m' ev':Int}{W':Int->Int} (hn:0<=n) (hf:f=0∨f=1) (an:(r.objs.length:Int)<r.oops)
  (h0:∀ i,i<bT r.objs->W' i=W i) (h1:W' (bT r.objs)=cls) (h2:W' (bT r.objs+1)=2*n+f) (h3:∀ i,bT r.objs+2<=i->i<bT r.objs+lenOf n f->W' i=if f=1 then 0 else 4) :
  SimH W' (upd T (cQ r.objs) (bT r.objs)) (upd B (cQ r.objs) r.born) (cQ r.objs+1) { r with mark:=m',born:=ev',objs:=r.objs++[ft r cls n f] }:=by
 have hl:=eX hw.objs hw.o1 an;have Rv:=cJ hw.objs hw.w0;have key:∀ o∈r.objs++[ft r cls n f],(o∈r.objs∧o.place+o.len<=bT r.objs∧o.oop≠cQ r.objs)∨o=ft r cls n f:=by
  intro o ho;rcases a0T.1 ho with ho | ho
  ·exact .inl ⟨ho,mT hw.objs ho,eB.1 hl.2.2.1 o ho⟩
  ·exact .inr (by simpa using ho)
 have X6:((ft r cls n f).slots.length:Int)=n:=by simp only [ft,a3f];omega
 have Ub:(ft r cls n f).len=lenOf n f:=by simp only [RO.len,X6];rfl
 have JF:∀ i:Nat,i<(ft r cls n f).slots.length->(ft r cls n f).slots.getD i 0=if f=1 then 0 else 4:=by
  intro i hi;simp only [ft,a3f] at hi;simp [ft,hi]
 refine { tab:=fun j g0 g1=>?_,bor:=fun o ho=>?_,cls:=fun o ho=>?_,shp:=fun o ho=>?_,wrd:=fun o ho s7 j hj=>?_,byt:=fun o ho s7 j hj=>?_,byr:=fun o ho s7 j RY JD=>?_,low1:=by omega,low2:=by show cQ r.objs+1<=r.oops+1;omega,low3:=fun j g0 g1=>?_ }
 ·have e:=fS (l:=r.objs) (x:=ft r cls n f) (k:=j);simp only [e];unfold upd;by_cases hj:j=cQ r.objs
  ·subst hj;rw [a0b rfl,hl.2.2.1];simp [ft]
  ·rw [a0a hj,hs.tab j g0 g1];cases aT r.objs j with
   | some o=>rfl
   | none =>
    simp only;rw [a0a];exact fun e=>hj e.symm
 ·rcases key o ho with ⟨h4,h5,h6⟩ | rfl
  ·rw [upd,a0a h6];exact hs.bor o h4
  ·simp [ft,upd]
 ·rcases key o ho with ⟨h4,h5,h6⟩ | rfl
  ·have:=o.len_pos;rw [h0 _ (by omega)];exact hs.cls o h4
  ·exact h1
 ·rcases key o ho with ⟨h4,h5,h6⟩ | rfl
  ·have:=o.len_pos;rw [h0 _ (by omega)];exact hs.shp o h4
  ·rw [X6];exact h2
 ·rcases key o ho with ⟨h4,h5,h6⟩ | rfl
  ·have J5:o.len=2+(o.slots.length:Int):=by unfold RO.len lenOf;rw [a0a (by omega)]
   rw [h0 _ (by omega)];exact hs.wrd o h4 s7 j hj
  ·rw [JF j hj];have w5:f=0:=s7;have J5:lenOf n f=2+n:=by unfold lenOf;rw [a0a (by omega)]
   exact h3 _ (by simp only [ft];omega) (by simp only [ft];rw [J5];omega)
 ·rcases key o ho with ⟨h4,h5,h6⟩ | rfl
  ·have J5:o.len=2+((o.slots.length:Int)+3) / 4:=by unfold RO.len lenOf;rw [a0b s7]
   rw [h0 _ (by omega)];exact hs.byt o h4 s7 j hj
  ·rw [JF j hj];have bw:f=1:=s7;have J5:lenOf n f=2+(n+3) / 4:=by unfold lenOf;rw [a0b bw]
   rw [h3 _ (by simp only [ft];omega) (by simp only [ft];rw [J5];omega),a0b bw];simp
 ·rcases key o ho with ⟨h4,h5,h6⟩ | rfl
  ·rw [h0 _ (by omega)];exact hs.byr o h4 s7 j RY JD
  ·have bw:f=1:=s7;rw [Ub] at JD;rw [h3 _ RY JD,a0b bw];simp
 ·have e:=fS (l:=r.objs) (x:=ft r cls n f) (k:=j);simp only [e];by_cases hj:j=cQ r.objs
  ·subst hj;rw [hl.2.2.1];simp [ft]
  ·have:=hl.2.2.2 j g0 (by omega);cases hj:aT r.objs j with
   | none=>exact absurd hj this
   | some o=>simp
theorem tQ {F:aS} (hR:d9 H hb F r){cls n f:Int} (h:∀ H',d9 H' hb F (r.alloc cls n f).2->Fr F H H'->Q (wK (r.alloc cls n f).1) H'):ag PP 72 #[QW hb,ac cls,ac n,ac f] Q H:=by
 have w6:=hR;obtain ⟨wb,tb,bb,W,T,B,low,rfl,hR⟩:=hR;apply Mu;dsimp only [aA,pz,bk,aC,ah,bP,aX,ay,aK,bc,ac,bf,mS,bX,av,bm,aE,am,ax,bj,aI];have pe:=hR.wf;have Tn:=cJ pe.objs pe.w0;have JY:=pe.w1;have Tm:=pe.o0;have IN:=pe.o1;have VQ:=pe.m0;have CO:=pe.m1;have ic:=hR.raw.ne;refine ⟨fun w H'=>w=[]∧PHs H' hb wb tb bb W T B low { r with mark:=if 0<r.mark then r.mark-1 else r.mark }∧Fr [hb,wb,tb,bb] H H'∧dL cls∧(f=0∨f=1)∧0<=n∧n<=8192∧(r.objs.length:Int)<r.oops∧bT r.objs+lenOf n f<=r.words∧r.mark≠1,?_,?_⟩
 ·refine ov hR ⟨_,rfl,?_⟩;simp only [a0f];refine vE hR.kinds ⟨_,rfl,?_⟩;unfold RH.alloc at h;by_cases D7:dL cls
  ·by_cases hf:f=0∨f=1
   ·simp only [ae,a0P,a0f,a0l,a0L,bh,aV,bx,bA,bi,bB,bt,aW,bv,bu,bg,bz,a06,a1a,a1d,aB,a0K,a0y,aM,aG,aY,a0p,a0C,bq,bn,D7,decide_true];have hX:∀ {X Y:Prop},X->(if f≠0 then if f≠1 then Y else X else X):=fun {X Y} hx=>by
     split
     ·rw [a0a (by omega)];exact hx
     ·exact hx
    refine hX ?_;split
    ·rename_i hn;simp only [D7,not_true_eq_false,false_or,hn,or_true,if_true] at h;exact h H w6 (Fr.refl _ _)
    ·rename_i hn;have n1:¬ (¬ dL cls∨f<0∨1<f∨n<0):=fun hh=>hh.elim (fun hh=>hh D7) (by omega);rw [a0a n1] at h;split
     ·rename_i Oc;rw [a0b (by omega)] at h;exact h H w6 (Fr.refl _ _)
     ·rename_i Oc;rw [a0a (by omega)] at h;have hl:=jg (n:=n) (fmt:=f) (by omega);have K2:=jP (n:=n) (fmt:=f) (by omega);simp only [ae,a0P,a0f,a0l,a0L,bh,aV,bx,bA,bi,bB,bt,aW,bv,bu,bg,bz,a06,a1a,a1d,aB,a0K,a0y,aM,aG,aY,a0p,a0C,bq,bn,hR.c3,hR.c1,hR.c0,hR.c4];rw [ao (n:=((r.oops+1).toNat:Int)-1) (by omega) (by omega)];split
      ·rename_i hc;rw [a0b (.inl (by omega))] at h;exact h H w6 (Fr.refl _ _)
      ·rename_i hc;refine nA (by omega) (by omega) ⟨_,rfl,hR.c4,hR.c0,?_⟩;rw [ao (n:=(r.words.toNat:Int)-bT r.objs) (by omega) (by omega)];simp only [ae,a0P,a0f,a0l,a0L,bh,aV,bx,bA,bi,bB,bt,aW,bv,bu,bg,bz,a06,a1a,a1d,aB,a0K,a0y,aM,aG,aY,a0p,a0C,bq,bn,hR.c6];split
       ·rename_i Tk;rw [a0b (.inr (by omega))] at h;exact h H w6 (Fr.refl _ _)
       ·rename_i Tk;rw [a0a (by omega)] at h;split
        ·rename_i hm;rw [a0b hm] at h;have r1:=hR.raw.set6 0;exact ⟨hR.raw.wrh (by decide),h _ ⟨wb,tb,bb,W,T,B,low,rfl,r1.phs (hR.kinds.fr (Fr.set (F:=[hb]) (by simp)) (by simp;omega)) { pe with m0:=by simp,m1:=by simp } { hR.sim with } rfl rfl rfl rfl rfl rfl rfl⟩ (Fr.set (by simp))⟩
        ·rename_i hm;split
         ·rename_i Rx;have r1:=hR.raw.set6 (r.mark-1);rw [ao (n:=r.mark-1) (by omega) (by omega)];refine ⟨hR.raw.wrh (by decide),?_,Fr.set (by simp),hf,by omega,by omega,by omega,by omega,hm⟩;exact r1.phs (hR.kinds.fr (Fr.set (F:=[hb]) (by simp)) (by simp;omega)) { pe with m0:=by simp;omega,m1:=by simp;omega } { hR.sim with } rfl rfl rfl rfl rfl rfl rfl
         ·rename_i Rx;refine ⟨?_,Fr.refl _ _,hf,by omega,by omega,by omega,by omega,hm⟩;exact hR
   ·simp only [ae,a0P,a0f,a0l,a0L,bh,aV,bx,bA,bi,bB,bt,aW,bv,bu,bg,bz,a06,a1a,a1d,aB,a0K,a0y,aM,aG,aY,a0p,a0C,bq,bn,D7,decide_true];rw [a0b (by omega),a0b (by omega)];rw [a0b (by omega)] at h;exact h H w6 (Fr.refl _ _)
  ·simp only [ae,a0P,a0f,a0l,a0L,bh,aV,bx,bA,bi,bB,bt,aW,bv,bu,bg,bz,a06,a1a,a1d,aB,a0K,a0y,aM,aG,aY,a0p,a0C,bq,bn,D7,decide_false];rw [a0b (.inl D7)] at h;exact h H w6 (Fr.refl _ _)
 ·rintro w H1 ⟨rfl,If,Jx,D7,hf,hn,Oc,an,Ja,hm⟩ _;have Ov:=eX pe.objs IN an;have J5:=hR.sim.low3;have We:low<=cQ r.objs:=by
   refine a0v fun hc=>?_;exact J5 _ Ov.1 (by omega) Ov.2.2.1
  have hl:=jg (n:=n) (fmt:=f) (by omega);have K2:=jP (n:=n) (fmt:=f) (by omega);have J9:=hR.sim.low1;refine ⟨rfl,?_⟩;simp only [ae,a0P,a0f,a0l,a0L,bh,aV,bx,bA,bi,bB,bt,aW,bv,bu,bg,bz,a06,a1a,a1d,aB,a0K,a0y,aM,aG,aY,a0p,a0C,bq,bn,If.c5];refine ⟨fun w H'=>H'=H1∧∃ k,w=[ac k]∧low<=k∧k<=cQ r.objs,fun w _=>match w with
   | [.int _ k]=>(cQ r.objs-k).toNat
   | _=>0,⟨rfl,low,rfl,a1F _,We⟩,?_⟩
  rintro w H2 ⟨rfl,k,rfl,JC,OU⟩ _;refine ⟨k,rfl,?_⟩;have lj:=hR.sim.tab k (by omega) (by omega);have e1:IntKind.wrap .i64 (k+1)=k+1:=ao (by omega) (by omega);simp only [ae,a0P,a0f,a0l,a0L,bh,aV,bx,bA,bi,bB,bt,aW,bv,bu,bg,bz,a06,a1a,a1d,aB,a0K,a0y,aM,aG,aY,a0p,a0C,bq,bn,e1,If.c1,If.tabc (i:=k) (by omega) (by show k<=r.oops;omega)];refine ⟨by omega,by show k<((r.oops+1).toNat:Int);omega,?_⟩;split
  ·rename_i hT;have hne2:k≠cQ r.objs:=by
    rintro rfl;rw [lj,Ov.2.2.1] at hT;simp at hT
   exact ⟨⟨k+1,rfl,by omega,by omega⟩,by simp;omega⟩
  ·rename_i hT;have Od:k=cQ r.objs:=by
    refine a0v fun hc=>?_;cases ho:aT r.objs k with
    | none=>exact Ov.2.2.2 k (by omega) (by omega) ho
    | some o =>
     rw [ho] at lj;simp only at lj
     have:=(hR.wf.objs.good o (aR ho).1).pl;omega
   have r1:=If.raw.set5 (k+1);refine ⟨If.raw.wrh (by decide),?_⟩;simp only [r1.c0,r1.c4,ae,a0P,a0f,a0l,a0L,bh,aV,bx,bA,bi,bB,bt,aW,bv,bu,bg,bz,a06,a1a,a1d,aB,a0K,a0y,aM,aG,aY,a0p,a0C,bq,bn];refine nA (by omega) (by omega) ?_;simp only [r1.c0,r1.c4,ae,a0P,a0f,a0l,a0L,bh,aV,bx,bA,bi,bB,bt,aW,bv,bu,bg,bz,a06,a1a,a1d,aB,a0K,a0y,aM,aG,aY,a0p,a0C,bq,bn];have ew1:IntKind.wrap .i64 (bT r.objs+lenOf n f)=bT r.objs+lenOf n f:=ao (by omega) (by omega);have ew2:IntKind.wrap .i64 (bT r.objs+2)=bT r.objs+2:=ao (by omega) (by omega);simp only [ew1,ew2];have last:∀ H' W',Raw H' hb wb tb bb r.words.toNat (r.oops+1).toNat ⟨W',T,B,r.objs.length,bT r.objs,k+1,if 0<r.mark then r.mark-1 else r.mark,r.born,r.turn⟩->Fr [hb,wb,tb,bb] H2 H'->(∀ i,i<bT r.objs->W' i=W i)->(∀ i,bT r.objs+2<=i->i<bT r.objs+lenOf n f->W' i=if f=1 then 0 else 4) ->
     ag PP 142 #[QW hb,ac k,ac cls,ac n,ac f] (fun v H10=>∃ m:Int,v=ac m∧Q (.tuple #[ac k,ac 0]) H10) H':=by
    intro H' W' hr o3 Z0 Z1;refine PB hr Tn.1 (by show bT r.objs+2<=(r.words.toNat:Int);omega) (by omega) (by omega) (by omega) hn Oc hf (by show (0:Int)<=(r.objs.length:Int);omega) (by show (r.objs.length:Int)<=100000;omega) fun H3 Jc SR=>⟨_,rfl,?_⟩;have OJ:r.alloc cls n f=((cQ r.objs,0),{ r with mark:=if 0<r.mark then r.mark-1 else r.mark,born:=IntKind.wrap .i64 (r.born+1),objs:=r.objs++[ft r cls n f] }):=by
     unfold RH.alloc;rw [a0a (fun hh=>hh.elim (fun hh=>hh D7) (by omega)),a0a (by omega),a0a (by omega),a0a hm]
    have OW:=ke pe cls n f;rw [OJ] at h OW;rw [Od];have Ub:(ft r cls n f).len=lenOf n f:=by simp only [RO.len,ft,a3f];congr 1;omega
    have Wf:=LW (T:=T) (B:=B) (low:=low) pe hR.sim (m':=if 0<r.mark then r.mark-1 else r.mark) (ev':=IntKind.wrap .i64 (r.born+1)) (W':=upd (upd W' (bT r.objs) cls) (bT r.objs+1) (2*n+f)) hn hf an
     (cls:=cls) (fun i hi=>by rw [upd,a0a (by omega),upd,a0a (by omega)];exact Z0 i hi) (by rw [upd,a0a (by omega)];simp [upd]) (by simp [upd]) (fun i g1 g2=>by rw [upd,a0a (by omega),upd,a0a (by omega)];exact Z1 i g1 g2)
    rw [←Od] at Wf;have hkinds:eM H3:=If.kinds.fr (F:=[hb,wb,tb,bb]) (o3.trans SR) (by simp only [a0E,a1l,a2h,a21];exact ⟨fun e=>ic.1.2.2.2 e.symm,fun e=>ic.2.1.2.2 e.symm,fun e=>ic.2.2.1.2 e.symm,fun e=>ic.2.2.2 e.symm⟩);exact h H3 ⟨wb,tb,bb,_,_,_,_,rfl,Jc.phs hkinds OW Wf rfl rfl (by simp [Pp]) (by show bT r.objs+lenOf n f=bT (r.objs++[ft r cls n f]);rw [eS,Ub];rfl) rfl rfl rfl⟩ (Jx.trans (o3.trans SR))
   refine ⟨by omega,by omega,by omega,by omega,?_⟩;have SS:(bT r.objs+lenOf n f).toNat-(bT r.objs+2).toNat=(lenOf n f-2).toNat:=by omega
   rw [SS];refine nK (bs:=8) (by kernel_rfl) r1.mw (by omega) (by omega) fun H3 UP VO TE=>?_;have SR:Fr [hb,wb,tb,bb] H2 H3:=(Fr.set (by simp)).trans ⟨by omega,fun b k9 Z2=>TE b (fun e=>Z2 (by simp [e]))⟩;have Jc:Raw H3 hb wb tb bb r.words.toNat (r.oops+1).toNat ⟨fun i=>if bT r.objs+2<=i∧i<bT r.objs+2+((lenOf n f-2).toNat:Int) then 0 else W i,T,B,r.objs.length,bT r.objs,k+1,if 0<r.mark then r.mark-1 else r.mark,r.born,r.turn⟩ :=
    ⟨r1.hd.of_eq (TE _ ic.1.1),UP,r1.mt.of_eq (TE _ ic.2.1.1.symm),r1.mb.of_eq (TE _ ic.2.1.2.1.symm),r1.d⟩
   split
   ·rename_i w5;have J5:lenOf n f=2+n:=by unfold lenOf;rw [a0a (by omega)]
    refine ⟨fun w H'=>∃ i:Int,w=[ac i]∧0<=i∧i<=n∧Fr [hb,wb,tb,bb] H2 H'∧Raw H' hb wb tb bb r.words.toNat (r.oops+1).toNat ⟨fun j=>if bT r.objs+2<=j∧j<bT r.objs+2+n then if j<bT r.objs+2+i then 4 else 0 else W j,T,B,r.objs.length,bT r.objs,k+1,if 0<r.mark then r.mark-1 else r.mark,r.born,r.turn⟩,
     fun w _=>match w with
      | [.int _ i]=>(n-i).toNat
      | _=>0,⟨0,rfl,by omega,hn,SR,?_⟩,?_⟩
    ·refine ⟨Jc.hd,Jc.mw.congr fun j _ _=>?_,Jc.mt,Jc.mb,Jc.d⟩;show (if bT r.objs+2<=j∧j<bT r.objs+2+((lenOf n f-2).toNat:Int) then (0:Int) else W j)=if bT r.objs+2<=j∧j<bT r.objs+2+n then if j<bT r.objs+2+0 then 4 else 0 else W j;by_cases hj:bT r.objs+2<=j∧j<bT r.objs+2+n
     ·rw [a0b (by omega),a0b hj,a0a (by omega)]
     ·rw [a0a (by omega),a0a hj]
    ·rintro w H4 ⟨i,rfl,Sy,VM,Wg,OD⟩ _;refine ⟨i,rfl,?_⟩;split
     ·rename_i hi;have hi':i<n:=by omega
      rw [pO (by omega)];simp only [ae,a0P,a0f,a0l,a0L,bh,aV,bx,bA,bi,bB,bt,aW,bv,bu,bg,bz,a06,a1a,a1d,aB,a0K,a0y,aM,aG,aY,a0p,a0C,bq,bn];have eo:(bT r.objs+2).toNat+i.toNat=(bT r.objs+2+i).toNat:=by omega
      rw [eo,ao (n:=i+1) (by omega) (by omega)];refine ⟨by omega,hi,OD.mw.wr (by omega) (by omega),⟨i+1,rfl,by omega,by omega,Wg.step (by simp),?_⟩,by simp;omega⟩;have RZ:=OD.setW (i:=bT r.objs+2+i) (by omega) 4;refine ⟨RZ.hd,RZ.mw.congr fun j _ _=>?_,RZ.mt,RZ.mb,RZ.d⟩;show upd (fun j=>if bT r.objs+2<=j∧j<bT r.objs+2+n then if j<bT r.objs+2+i then 4 else 0 else W j) (bT r.objs+2+i) 4 j=if bT r.objs+2<=j∧j<bT r.objs+2+n then if j<bT r.objs+2+(i+1) then 4 else 0 else W j;unfold upd;by_cases hj:j=bT r.objs+2+i
      ·rw [a0b hj,a0b (by omega),a0b (by omega)]
      ·rw [a0a hj];show (if bT r.objs+2<=j∧j<bT r.objs+2+n then if j<bT r.objs+2+i then 4 else 0 else W j)=_;by_cases JD:bT r.objs+2<=j∧j<bT r.objs+2+n
       ·rw [a0b JD,a0b JD];by_cases hj3:j<bT r.objs+2+i
        ·rw [a0b hj3,a0b (by omega)]
        ·rw [a0a hj3,a0a (by omega)]
       ·rw [a0a JD,a0a JD]
     ·rename_i hi;refine last H4 _ OD Wg (fun j hj=>?_) (fun j RY JD=>?_)
      ·rw [a0a (by omega)]
      ·rw [a0b (by omega),a0b (by omega),a0a (by omega)]
   ·rename_i w5;refine last H3 _ Jc SR (fun j hj=>?_) (fun j RY JD=>?_)
    ·rw [a0a (by omega)]
    ·rw [a0b (by omega),a0b (by omega)]
end
end Go.Proofs.YtgjfejoohojokaaGreatDoor
namespace Kw
open Go
theorem i6 (l m:List RO) (k:Int):aT (l++m) k=(aT l k).or (aT m k):=by
 unfold aT;exact List.find?_append
theorem ko (o:RO) (l:List RO) (k:Int):aT (o :: l) k=if o.oop=k then some o else aT l k:=by
 unfold aT;simp only [a3u];by_cases h:o.oop=k <;> simp [h]
theorem fH {words oops:Int}{l:List RO} (hw:WFO words oops l):2*(l.length:Int)<=bT l:=by
 generalize hn:l.length=n
 induction n generalizing l with
 | zero =>
  have:l=[]:=a1o hn;subst this;simp [bT]
 | succ n ih =>
  rcases a2G l with rfl | ⟨m,x,rfl⟩
  ·cases hn
  ·simp only [a2P] at *;have hm:m.length=n:=by simpa using hn
   have Z3:WFO words oops m:=⟨fun o ho=>hw.good o (by simp [ho]),(a3b.1 hw.pw).1⟩;have h1:=ih Z3 hm;have hx:=x.len_pos;have JG:=(hw.good x (by simp)).pl;rw [eS]
   have:bT m<=x.place:=by
    rcases a2G m with rfl | ⟨m2,y,rfl⟩
    ·simpa [bT] using JG
    ·simp only [a2P] at *;rw [eS];exact ((a3b.1 hw.pw).2.2 y (by simp) x (by simp)).2
   push_cast
   omega
theorem RH.all_nodup (r:RH):r.all.Nodup:=by
 unfold RH.all RH.upto;exact (a4v.map (fun (i:Nat)=>(i:Int)) fun a b Tl h=>Tl (by omega)).filter _
theorem RH.all_perm {r:RH} (hw:WFH r):r.all.Perm (r.objs.map (·.oop)):=by
 have hn:(r.objs.map (·.oop)).Nodup:=by
  rw [a2A,a2M];exact hw.objs.pw.imp fun h=>h.1
 rw [a3p r.all_nodup hn];intro k;rw [RH.mem_all hw,a1n];constructor
 ·intro h;cases ho:aT r.objs k with
  | none=>exact absurd ho h
  | some o=>exact ⟨o,(aR ho).1,(aR ho).2⟩
 ·rintro ⟨o,ho,he⟩;rw [←he,cN hw.objs ho];simp
theorem RH.all_len {r:RH} (hw:WFH r):r.all.length=r.objs.length:=by
 have:=(RH.all_perm hw).length_eq;simpa using this
theorem RH.upto_prefix (r:RH) (n:Nat):∀ m,n<=m->∃ t,r.upto m=r.upto n++t
 | 0,h=>⟨[],by have:n=0:=by omega
               subst this;simp⟩
 | m+1,h=>by
  by_cases hm:n=m+1
  ·subst hm;exact ⟨[],by simp⟩
  ·obtain ⟨t,ht⟩:=RH.upto_prefix r n m (by omega);exact ⟨t++if (aT r.objs m).isSome then [(m:Int)] else [],by rw [RH.upto_succ,ht,a18]⟩
def bV (a:Int):List RO->Int
 | []=>a
 | o :: l=>bV (a+o.len) l
theorem gL (a:Int) (l:List RO) (o:RO):bV a (l++[o])=bV a l+o.len:=by
 induction l generalizing a with
 | nil=>rfl
 | cons x l ih=>simp [bV,ih]
theorem eW (a:Int) (l:List RO) (o:RO):cF a (l++[o])=cF a l++[{ o with place:=bV a l }]:=by
 induction l generalizing a with
 | nil=>rfl
 | cons x l ih=>simp [cF,ih,bV]
theorem jd (l:List RO):bT (cF 0 l)=bV 0 l:=by
 rcases a2G l with rfl | ⟨m,x,rfl⟩
 ·rfl
 ·simp only [a2P];rw [eW,eS,gL];rfl
theorem qC {words oops:Int}:∀ (l:List RO) (a:Int),WFO words oops l->(∀ o∈l,a<=o.place)->∀ x∈cF a l,∃ o∈l,x={ o with place:=x.place }∧x.place<=o.place
 | [],_,_,_,x,hx=>by cases hx
 | o :: l,a,h,HS,x,hx=>by
  rcases a0E.1 hx with rfl | hx
  ·exact ⟨o,by simp,rfl,HS o (by simp)⟩
  ·have hp:=a2z.1 h.pw;obtain ⟨o',h1,h2,h3⟩:=qC l (a+o.len) ⟨fun y hy=>h.good y (by simp [hy]),hp.2⟩ (fun y hy=>by have:=(hp.1 y hy).2;have:=HS o (by simp);omega) x hx;exact ⟨o',by simp [h1],h2,h3⟩
structure KeepSt (W0:Int->Int) (words oops:Int) (keep:RO->Bool) (done rest:List RO) (W T:Int->Int) (low:Int):Prop where
 wf:WFO words oops (done++rest)
 regK:∀ x∈cF 0 (done.filter keep),∃ o∈done,x={ o with place:=x.place }∧∀ i,0<=i->i<o.len->W (x.place+i)=W0 (o.place+i)
 regR:∀ o∈rest,∀ i,0<=i->i<o.len->W (o.place+i)=W0 (o.place+i)
 tab:∀ k,0<=k->k<=oops->T k=match aT (cF 0 (done.filter keep)++rest) k with
  | some x=>x.place
  | none=>-1
 low1:1<=low
 low2:low<=oops+1
 low3:∀ k,1<=k->k<low->aT (cF 0 (done.filter keep)++rest) k≠none
section
variable {W0:Int->Int}{words oops:Int}{keep:RO->Bool}{done rest:List RO}{o:RO}{W T:Int->Int}{low:Int}
theorem KeepSt.wfd (h:KeepSt W0 words oops keep done rest W T low):WFO words oops (done.filter keep) :=
 WFO.filter ⟨fun x hx=>h.wf.good x (by simp [hx]),(a3b.1 h.wf.pw).1⟩ keep
theorem KeepSt.ends (h:KeepSt W0 words oops keep done (o :: rest) W T low):0<=bV 0 (done.filter keep)∧bV 0 (done.filter keep)<=o.place∧(∀ x∈cF 0 (done.filter keep),0<=x.place∧x.place+x.len<=bV 0 (done.filter keep)∧x.oop≠o.oop)∧∀ y∈rest,o.place+o.len<=y.place∧y.oop≠o.oop:=by
 have JG:∀ x∈done.filter keep,(0:Int)<=x.place:=fun x hx=>(h.wfd.good x hx).pl;have hs:=nJ _ 0 h.wfd (a1F _) JG;have hb:0<=bT (cF 0 (done.filter keep)):=by
  have:=fH hs.1;omega
 have ST:=a3b.1 h.wf.pw;rw [jd] at hb;refine ⟨hb,?_,fun x hx=>?_,fun y hy=>?_⟩
 ·rcases a2G (done.filter keep) with he | ⟨m,x,he⟩
  ·rw [he];exact (h.wf.good o (by simp)).pl
  ·simp only [a2P] at he;have hx:x∈done.filter keep:=by rw [he];simp
   have h1:({ x with place:=bV 0 m }:RO)∈cF 0 (done.filter keep):=by rw [he,eW];simp
   obtain ⟨o',g1,g2,g3⟩:=qC _ 0 h.wfd JG _ h1;have hax:=ST.2.2 x (a2l.1 hx).1 o (by simp);have JM:o'.oop=x.oop:=(congrArg RO.oop g2).symm;have Z4:o'=x:=by
    rcases xH h.wfd.pw g1 hx with e | e | e
    ·exact e
    ·exact absurd JM e.1
    ·exact absurd JM.symm e.1
   have g4:bV 0 m<=x.place:=Z4 ▸ g3
   have:=hax.2;rw [he,gL];omega
 ·have h1:=hs.2 x hx;have h2:=mT hs.1 hx;rw [jd] at h2;obtain ⟨o',g1,g2,_⟩:=i8 hx;refine ⟨h1,h2,?_⟩;rw [g2];exact (ST.2.2 o' (a2l.1 g1).1 o (by simp)).1
 ·have:=(a2z.1 ST.2.1).1 y hy;exact ⟨this.2,fun e=>this.1 e.symm⟩
theorem KeepSt.wf' (h:KeepSt W0 words oops keep done (o :: rest) W T low):WFO words oops ((done++[o])++rest):=by
 have:=h.wf;simpa using this
theorem KeepSt.stay (h:KeepSt W0 words oops keep done (o :: rest) W T low) (hk:keep o=true){W':Int->Int}
  (hW:∀ i,W' i=if bV 0 (done.filter keep)<=i∧i<bV 0 (done.filter keep)+o.len then W (i-bV 0 (done.filter keep)+o.place) else W i) :
  KeepSt W0 words oops keep (done++[o]) rest W' (upd T o.oop (bV 0 (done.filter keep))) low:=by
 obtain ⟨e1,e2,e3,e4⟩:=h.ends;have hf:(done++[o]).filter keep=done.filter keep++[o]:=by simp [hk]
 have Rz:∀ k,aT (cF 0 ((done++[o]).filter keep)++rest) k=if k=o.oop then some { o with place:=bV 0 (done.filter keep) } else aT (cF 0 (done.filter keep)++(o :: rest)) k:=by
  intro k;rw [hf,eW,i6,i6,i6,ko,ko];by_cases Jy:k=o.oop
  ·subst Jy;have hn:aT (cF 0 (done.filter keep)) o.oop=none:=eB.2 fun x hx=>(e3 x hx).2.2;rw [hn];simp
  ·have TF:¬ o.oop=k:=fun e=>Jy e.symm;rw [a0a Jy,a0a TF,a0a TF]
   have:aT [] k=none:=rfl;rw [this,Option.or_none]
 have hg:=h.wf.good o (by simp);refine { wf:=h.wf',regK:=fun x hx=>?_,regR:=fun y hy i h0 h1=>?_,tab:=fun k h0 h1=>?_,low1:=h.low1,low2:=h.low2,low3:=fun k h0 h1=>?_ }
 ·rw [hf,eW] at hx;rcases a0T.1 hx with hx | hx
  ·obtain ⟨a,ha,Wh,UU⟩:=h.regK x hx;have hlen:x.len=a.len:=by rw [Wh];rfl
   refine ⟨a,by simp [ha],Wh,fun i h0 h1=>?_⟩;rw [hW,a0a (by have:=(e3 x hx).2.1;omega)];exact UU i h0 h1
  ·simp at hx;subst hx;refine ⟨o,by simp,rfl,fun i h0 h1=>?_⟩;rw [hW,a0b (by simp only;omega),show bV 0 (done.filter keep)+i-bV 0 (done.filter keep)+o.place=o.place+i by omega];exact h.regR o (by simp) i h0 h1
 ·rw [hW,a0a (by have:=(e4 y hy).1;omega)];exact h.regR y (by simp [hy]) i h0 h1
 ·rw [Rz];unfold upd;by_cases hk:k=o.oop
  ·rw [a0b hk,a0b hk]
  ·rw [a0a hk,a0a hk];exact h.tab k h0 h1
 ·rw [Rz];by_cases hk:k=o.oop
  ·rw [a0b hk];simp
  ·rw [a0a hk];exact h.low3 k h0 h1
theorem KeepSt.drop (h:KeepSt W0 words oops keep done (o :: rest) W T low) (hk:keep o=false) :
  KeepSt W0 words oops keep (done++[o]) rest (upd W o.place 0) (upd T o.oop (-1)) (if o.oop<low then o.oop else low):=by
 obtain ⟨e1,e2,e3,e4⟩:=h.ends;have hf:(done++[o]).filter keep=done.filter keep:=by simp [hk]
 have Sb:aT (cF 0 (done.filter keep)) o.oop=none:=eB.2 fun x hx=>(e3 x hx).2.2;have Oc:aT rest o.oop=none:=eB.2 fun x hx=>(e4 x hx).2;have Rz:∀ k,aT (cF 0 ((done++[o]).filter keep)++rest) k=if k=o.oop then none else aT (cF 0 (done.filter keep)++(o :: rest)) k:=by
  intro k;rw [hf,i6,i6,ko];by_cases Jy:k=o.oop
  ·subst Jy;rw [Sb,Oc];simp
  ·have TF:¬ o.oop=k:=fun e=>Jy e.symm;rw [a0a Jy,a0a TF]
 have hg:=h.wf.good o (by simp);have hlow1:=h.low1;have hlow2:=h.low2;have IN:=hg.oop1;refine { wf:=h.wf',regK:=fun x hx=>?_,regR:=fun y hy i h0 h1=>?_,tab:=fun k h0 h1=>?_,low1:=by split <;> omega,low2:=by split <;> omega,low3:=fun k h0 h1=>?_ }
 ·rw [hf] at hx;obtain ⟨a,ha,Wh,UU⟩:=h.regK x hx;have hlen:x.len=a.len:=by rw [Wh];rfl
  refine ⟨a,by simp [ha],Wh,fun i h0 h1=>?_⟩;rw [upd,a0a (by have:=(e3 x hx).2.1;omega)];exact UU i h0 h1
 ·rw [upd,a0a (by have:=(e4 y hy).1;have:=o.len_pos;omega)];exact h.regR y (by simp [hy]) i h0 h1
 ·rw [Rz];unfold upd;by_cases hk:k=o.oop
  ·rw [a0b hk,a0b hk]
  ·rw [a0a hk,a0a hk];exact h.tab k h0 h1
 ·rw [Rz];have an:k<o.oop∨k≠o.oop∧k<low:=by
   by_cases hc:o.oop<low
   ·rw [a0b hc] at h1;exact .inl h1
   ·rw [a0a hc] at h1;exact .inl (by omega)
  have Ov:k<low:=by
   by_cases hc:o.oop<low
   ·rw [a0b hc] at h1;omega
   ·rw [a0a hc] at h1;exact h1
  rw [a0a (by rcases an with h | h <;> omega)];exact h.low3 k h0 Ov
end
end Kw
namespace Go.Proofs.YtgjfejoohojokaaGreatDoor
open Kw
def jU (words oops:Int):RH:=⟨words,oops,0,0,0,[]⟩
theorem BT {words oops:Int} (h0:0<=words) (h1:words<=1048576) (h2:0<=oops) (h3:oops<=65536):WFH (jU words oops) :=
 ⟨h0,h1,h2,h3,by simp [jU],by simp [jU],⟨by simp [jU],by simp [jU]⟩⟩
section
variable {H:au}{hb wb tb bb nw nt:Nat}{p:PV}{W T B:Int->Int}{low:Int}{r:RH}{Q:QT}
theorem AN {words oops:Int} (hk:eM H) (gw:¬ (0<=words∧words<=1048576∧0<=oops∧oops<=65536)->Q (.tuple #[.pointer none,ac 1]) H)
  (h:(0<=words∧words<=1048576∧0<=oops∧oops<=65536)->∀ hb F H',d9 H' hb F (jU words oops)->Fr [] H H'->(∀ b∈F,H.size<=b)->Q (.tuple #[QW hb,ac 0]) H'):ag PP 139 #[ac words,ac oops] Q H:=by
 apply GQ;dsimp only [aL,bk,ah,aX,aK,bc,ac,bf,Pg,bX,av,bm,aE,am,aJ,bM,ax,bj,bJ,aI];refine qo ⟨_,rfl,?_⟩;by_cases h1:0<=words∧words<=1048576
 ·simp only [ae,a0P,a0f,a0l,a0L,bh,aV,bx,bA,bi,bB,bt,aW,bv,bu,bg,bz,a06,a1a,a1d,aB,a0K,a0y,aM,aG,aY,a0p,a0C,bq,bn,h1,decide_true];refine qo ⟨_,rfl,?_⟩;by_cases h2:0<=oops∧oops<=65536
  ·simp only [ae,a0P,a0f,a0l,a0L,bh,aV,bx,bA,bi,bB,bt,aW,bv,bu,bg,bz,a06,a1a,a1d,aB,a0K,a0y,aM,aG,aY,a0p,a0C,bq,bn,h2,decide_true];have e1:IntKind.wrap .i64 (oops+1)=oops+1:=ao (by omega) (by omega);have hg:bl<H.size:=by
    have h0:=hk.1;unfold aq at h0;rcases a2t bl H.size with h1 | h1
    ·exact h1
    ·simp only [a2u h1] at h0;cases h0
   have i7:bd PP 30=some (1,8,some (ac 0)):=by kernel_rfl
   have Jw:bd PP 25=some (1,8,some (ac 0)):=by kernel_rfl
   simp only [e1];have mk:∀ (T:TypeId) (n:Int) (K:Option Addr->Nat->Nat->au->Prop) (G:au),bd PP T=some (1,8,some (ac 0))->0<=n->n<=1048576 ->
     (∀ e,K (some ⟨G.size,0,none⟩) n.toNat n.toNat (G.push (.cells (Array.replicate n.toNat (ac 0)) e))) ->
     cB PP (Instr.makeSlice T (ac n) (ac n)) (fun v H3=>∃ a:Option Addr,∃ l:Nat,∃ c:Nat,v=.slice a l c∧K a l c H3) G :=
    fun T n K G hT g0 g1 hK=>dQ hT rfl g0 (a1F _) (by omega) (by decide) fun e=>⟨_,_,_,rfl,hK e⟩
   have fin:∀ (G:au) (wb tb bb:Nat) (e:TypeId),Fr [] H G->fc G wb words.toNat (fun _=>0)->fc G tb (oops+1).toNat (fun _=>0)->fc G bb (oops+1).toNat (fun _=>0)->wb≠tb->wb≠bb->tb≠bb->H.size<=wb->H.size<=tb->H.size<=bb ->
     ∃ hb wb' tb' bb',[Value.pointer (some ⟨G.size,0,none⟩)]=[QW hb]∧Fr [] H (G.push (.cells #[.slice (some ⟨wb,0,none⟩) words.toNat words.toNat,.slice (some ⟨tb,0,none⟩) (oops+1).toNat (oops+1).toNat,.slice (some ⟨bb,0,none⟩) (oops+1).toNat (oops+1).toNat,ac 0,ac 0,ac 1,ac 0,ac 0,ac 0] e))∧H.size<=hb∧H.size<=wb'∧H.size<=tb'∧H.size<=bb' ∧
      Raw (G.push (.cells #[.slice (some ⟨wb,0,none⟩) words.toNat words.toNat,.slice (some ⟨tb,0,none⟩) (oops+1).toNat (oops+1).toNat,.slice (some ⟨bb,0,none⟩) (oops+1).toNat (oops+1).toNat,ac 0,ac 0,ac 1,ac 0,ac 0,ac 0] e)) hb wb' tb' bb' words.toNat (oops+1).toNat ⟨fun _=>0,fun _=>0,fun _=>0,0,0,1,0,0,0⟩:=by
    intro G wb tb bb e hf m1 m2 m3 n1 n2 n3 g1 g2 g3
    have:=m1.lt
    have:=m2.lt
    have:=m3.lt
    have:=hf.1;have nd:[G.size,wb,tb,bb,bl].Nodup:=by
     simp only [a2R,a0E,a1l,a2h,a21,List.nodup_nil,a1d,not_false_eq_true];exact ⟨⟨by omega,by omega,by omega,by omega⟩,⟨n1,n2,by omega⟩,⟨n3,by omega⟩,by omega⟩
    exact ⟨G.size,wb,tb,bb,rfl,hf.more,hf.1,g1,g2,g3,⟨bI.new _ _ _,m1.push _,m2.push _,m3.push _,nd⟩⟩
   have OX:∀ (G:au) (o:Obj),Fr [] H G->Fr [] H (G.push o):=fun G o hG=>hG.more;have zw:∀ (G:au) (o:Obj),(G.push o).size=G.size+1:=fun G o=>by simp
   refine ⟨fun w H'=>∃ hb wb tb bb,w=[QW hb]∧Fr [] H H'∧H.size<=hb∧H.size<=wb∧H.size<=tb∧H.size<=bb∧Raw H' hb wb tb bb words.toNat (oops+1).toNat ⟨fun _=>0,fun _=>0,fun _=>0,0,0,1,0,0,0⟩,?A,?B,?C,?D⟩
   case A =>
    refine mk 30 words _ H i7 h1.1 h1.2 fun e=>?_;refine ⟨mk 25 (oops+1) _ _ Jw (by omega) (by omega) fun e2=>?_,mk 25 (oops+1) _ _ Jw (by omega) (by omega) fun e2=>?_⟩
    ·refine mk 25 (oops+1) _ _ Jw (by omega) (by omega) fun e3=>?_;exact fin _ _ _ _ _ (((Fr.refl _ _).more).more.more) (((fc.new _ _ _).push _).push _) ((fc.new _ _ _).push _) (fc.new _ _ _) (by (try simp only [a1e]);omega) (by (try simp only [a1e]);omega) (by (try simp only [a1e]);omega) (by (try simp only [a1e]);omega) (by (try simp only [a1e]);omega) (by (try simp only [a1e]);omega)
    ·refine mk 25 (oops+1) _ _ Jw (by omega) (by omega) fun e3=>?_;exact fin _ _ _ _ _ (((Fr.refl _ _).more).more.more) (((fc.new _ _ _).push _).push _) (fc.new _ _ _) ((fc.new _ _ _).push _) (by (try simp only [a1e]);omega) (by (try simp only [a1e]);omega) (by (try simp only [a1e]);omega) (by (try simp only [a1e]);omega) (by (try simp only [a1e]);omega) (by (try simp only [a1e]);omega)
   case B =>
    refine mk 25 (oops+1) _ H Jw (by omega) (by omega) fun e=>?_;refine ⟨mk 30 words _ _ i7 h1.1 h1.2 fun e2=>?_,mk 25 (oops+1) _ _ Jw (by omega) (by omega) fun e2=>?_⟩
    ·refine mk 25 (oops+1) _ _ Jw (by omega) (by omega) fun e3=>?_;exact fin _ _ _ _ _ (((Fr.refl _ _).more).more.more) ((fc.new _ _ _).push _) (((fc.new _ _ _).push _).push _) (fc.new _ _ _) (by (try simp only [a1e]);omega) (by (try simp only [a1e]);omega) (by (try simp only [a1e]);omega) (by (try simp only [a1e]);omega) (by (try simp only [a1e]);omega) (by (try simp only [a1e]);omega)
    ·refine mk 30 words _ _ i7 h1.1 h1.2 fun e3=>?_;exact fin _ _ _ _ _ (((Fr.refl _ _).more).more.more) (fc.new _ _ _) (((fc.new _ _ _).push _).push _) ((fc.new _ _ _).push _) (by (try simp only [a1e]);omega) (by (try simp only [a1e]);omega) (by (try simp only [a1e]);omega) (by (try simp only [a1e]);omega) (by (try simp only [a1e]);omega) (by (try simp only [a1e]);omega)
   case C =>
    refine mk 25 (oops+1) _ H Jw (by omega) (by omega) fun e=>?_;refine ⟨mk 30 words _ _ i7 h1.1 h1.2 fun e2=>?_,mk 25 (oops+1) _ _ Jw (by omega) (by omega) fun e2=>?_⟩
    ·refine mk 25 (oops+1) _ _ Jw (by omega) (by omega) fun e3=>?_;exact fin _ _ _ _ _ (((Fr.refl _ _).more).more.more) ((fc.new _ _ _).push _) (fc.new _ _ _) (((fc.new _ _ _).push _).push _) (by (try simp only [a1e]);omega) (by (try simp only [a1e]);omega) (by (try simp only [a1e]);omega) (by (try simp only [a1e]);omega) (by (try simp only [a1e]);omega) (by (try simp only [a1e]);omega)
    ·refine mk 30 words _ _ i7 h1.1 h1.2 fun e3=>?_;exact fin _ _ _ _ _ (((Fr.refl _ _).more).more.more) (fc.new _ _ _) ((fc.new _ _ _).push _) (((fc.new _ _ _).push _).push _) (by (try simp only [a1e]);omega) (by (try simp only [a1e]);omega) (by (try simp only [a1e]);omega) (by (try simp only [a1e]);omega) (by (try simp only [a1e]);omega) (by (try simp only [a1e]);omega)
   case D =>
    rintro w H1 ⟨hb,wb,tb,bb,rfl,hf,g1,g2,g3,g4,hr⟩ _;refine ⟨_,rfl,?_⟩;simp only [ae,a0P,a0f,a0l,a0L,bh,aV,bx,bA,bi,bB,bt,aW,bv,bu,bg,bz,a06,a1a,a1d,aB,a0K,a0y,aM,aG,aY,a0p,a0C,bq,bn,hr.c1];refine ⟨fun w H'=>∃ i:Int,w=[ac i]∧0<=i∧i<=oops+1∧Fr [] H H'∧Raw H' hb wb tb bb words.toNat (oops+1).toNat ⟨fun _=>0,fun k=>if k<i then -1 else 0,fun _=>0,0,0,1,0,0,0⟩,
     fun w _=>match w with
      | [.int _ i]=>(oops+1-i).toNat
      | _=>0,⟨0,rfl,by omega,by omega,hf,?_⟩,?_⟩
    ·refine ⟨hr.hd,hr.mw,hr.mt.congr fun i h0 _=>?_,hr.mb,hr.d⟩;show (0:Int)=if i<0 then -1 else 0;rw [a0a (by omega)]
    ·rintro w H2 ⟨i,rfl,Sy,VM,fa,Sw⟩ _;refine ⟨i,rfl,?_⟩;split
     ·rename_i hi;simp only [ae,a0P,a0f,a0l,a0L,bh,aV,bx,bA,bi,bB,bt,aW,bv,bu,bg,bz,a06,a1a,a1d,aB,a0K,a0y,aM,aG,aY,a0p,a0C,bq,bn,Sw.c1];rw [ao (n:=i+1) (by omega) (by omega)];have Jc:=Sw.setT (i:=i) Sy (-1);refine ⟨by omega,by omega,Sw.mt.wr Sy (by omega),⟨i+1,rfl,by omega,by omega,?_,?_⟩,by simp;omega⟩
      ·exact ⟨by rw [ck];exact fa.1,fun b k9 hn=>by rw [cP (by simp;omega)];exact fa.2 b k9 hn⟩
      ·refine ⟨Jc.hd,Jc.mw,Jc.mt.congr fun j h0 _=>?_,Jc.mb,Jc.d⟩;show upd (fun k=>if k<i then -1 else 0) i (-1) j=if j<i+1 then -1 else 0;unfold upd;by_cases hj:j=i
       ·rw [a0b hj,a0b (by omega)]
       ·rw [a0a hj];show (if j<i then (-1:Int) else 0)=_;by_cases JD:j<i
        ·rw [a0b JD,a0b (by omega)]
        ·rw [a0a JD,a0a (by omega)]
     ·rename_i hi;have RA:i=oops+1:=by omega
      subst RA;have hw:=BT h1.1 h1.2 h2.1 h2.2;refine h (by omega) hb [hb,wb,tb,bb] H2 ⟨wb,tb,bb,_,_,_,_,rfl,Sw.phs (hk.fr fa (by simp)) hw ?_ rfl rfl rfl rfl rfl rfl rfl⟩ fa (by simp;omega);refine { tab:=fun k h0 h1=>?_,bor:=by simp [jU],cls:=by simp [jU],shp:=by simp [jU],wrd:=by simp [jU],byt:=by simp [jU],byr:=by simp [jU],low1:=by simp,low2:=by simp [jU];omega,low3:=fun k h0 h1=>by simp at h1;omega }
      have:k<=oops:=h1;show (if k<oops+1 then (-1:Int) else 0)=_;rw [a0b (by omega)];rfl
  ·simp only [ae,a0P,a0f,a0l,a0L,bh,aV,bx,bA,bi,bB,bt,aW,bv,bu,bg,bz,a06,a1a,a1d,aB,a0K,a0y,aM,aG,aY,a0p,a0C,bq,bn,h2,decide_false];exact gw (by omega)
 ·simp only [ae,a0P,a0f,a0l,a0L,bh,aV,bx,bA,bi,bB,bt,aW,bv,bu,bg,bz,a06,a1a,a1d,aB,a0K,a0y,aM,aG,aY,a0p,a0C,bq,bn,h1,decide_false];exact gw (by omega)
theorem P9 (hR:PHs H hb wb tb bb W T B low r) (h:∀ a l c F H',bZ 1 H' a l c (az r.all) F->Fr [] H H'->(∀ b∈F,H.size<=b)->F≠[]->Q (.slice a l c) H'):ag PP 283 #[QW hb] Q H:=by
 apply DS;dsimp only [aL,bk,ah,aX,ay,aK,bc,ac,bf,cL,av,bm,aE,am,aJ,bM,ax,aI];have Tm:=hR.wf.o0;have IN:=hR.wf.o1;have Jw:bd PP 25=some (1,8,some (ac 0)):=by kernel_rfl
 refine ov hR ⟨_,rfl,?_⟩;simp only [ae,a0P,a0f,a0l,a0L,bh,aV,bx,bA,bi,bB,bt,aW,bv,bu,bg,bz,a06,a1a,a1d,aB,a0K,a0y,aM,aG,aY,a0p,a0C,bq,bn,hR.c3];have hcount:(r.objs.length:Int)<=1048576:=by
  have h1:=fH hR.wf.objs;have h2:=cJ hR.wf.objs hR.wf.w0;have h3:=hR.wf.w1;omega
 refine dQ Jw rfl (a1F _) (by omega) (by omega) (by decide) fun e=>?_;have w5:Fr [] H (H.push (.cells (Array.replicate (r.objs.length:Int).toNat (ac 0)) e)):=Fr.push _ _ _;have uF:aq (H.push (.cells (Array.replicate (r.objs.length:Int).toNat (ac 0)) e)) ⟨hb,1,none⟩=some (.slice (some ⟨tb,0,none⟩) (r.oops+1).toNat (r.oops+1).toNat):=(eD hR.hd.lt).trans hR.c1;simp only [ae,a0P,a0f,a0l,a0L,bh,aV,bx,bA,bi,bB,bt,aW,bv,bu,bg,bz,a06,a1a,a1d,aB,a0K,a0y,aM,aG,aY,a0p,a0C,bq,bn,uF];refine ⟨fun w H'=>∃ a l c F,∃ i:Int,w=[.slice a l c,ac i]∧0<=i∧i<=r.oops+1∧bZ 1 H' a l c (az (r.upto i.toNat)) F∧Fr [] H H'∧(∀ b∈F,H.size<=b)∧F≠[],fun w _=>match w with
  | [_,.int _ i]=>(r.oops+1-i).toNat
  | _=>0,⟨_,_,_,_,0,rfl,by omega,by omega,bZ.newMem _ _ _,w5,by simp,by simp⟩,?_⟩
 rintro w H1 ⟨a,l,c,F,i,rfl,Sy,VM,ho,hf,hF,ic⟩ _;refine ⟨a,l,c,i,rfl,?_⟩;have ZV:=hR.mt.fr hf (by simp);have hl:=ho.len;simp only [az,a1p] at hl;have Z5:=r.upto_len i.toNat;split
 ·rename_i hi;simp only [ae,a0P,a0f,a0l,a0L,bh,aV,bx,bA,bi,bB,bt,aW,bv,bu,bg,bz,a06,a1a,a1d,aB,a0K,a0y,aM,aG,aY,a0p,a0C,bq,bn,ZV.cell Sy (by omega)];rw [ao (n:=i+1) (by omega) (by omega)];have ht:=hR.sim.tab i Sy (by omega);have TG:=r.upto_succ i.toNat;have ei:(i.toNat:Int)=i:=a2E Sy;have e1:(i+1).toNat=i.toNat+1:=by omega
  rw [ei] at TG;refine ⟨by omega,by omega,?_⟩;split
  ·rename_i hp;have hs:(aT r.objs i).isSome=true:=by
    cases ho:aT r.objs i with
    | none=>rw [ht,ho] at hp;simp at hp
    | some o=>rfl
   refine bK Jw rfl (by kernel_rfl) ho rfl (by simp [dJ]) (by omega) (by decide) (by decide) fun a' c' F' H2 h1 h2 h3=>⟨_,_,_,rfl,?_⟩;have o3:=Up.fresh hf h2 hF;refine ⟨⟨_,_,_,F',i+1,rfl,by omega,by omega,?_,o3.1,o3.2,fun e=>by subst e;rcases h1.2.2 with ⟨_,hc,_⟩ | ⟨b,cs,_,hF',_⟩;(have:=h1.2.1;omega);cases hF'⟩,by simp;omega⟩;rw [e1,TG,a0b hs,bR];exact h1
  ·rename_i hp;have hs:¬ (aT r.objs i).isSome=true:=by
    cases ho:aT r.objs i with
    | none=>simp
    | some o =>
     rw [ht,ho] at hp;exact absurd (hR.in_ (aR ho).1).1 hp
   refine ⟨⟨_,_,_,F,i+1,rfl,by omega,by omega,?_,hf,hF,ic⟩,by simp;omega⟩;rw [e1,TG,a0a hs,a2S];exact ho
 ·rename_i hi;have e:i=r.oops+1:=by omega
  subst e;exact h a l c F H1 ho hf hF ic
end
section
variable {H:au}{hb wb tb bb nw nt:Nat}{p:PV}{W T B:Int->Int}{low:Int}{r:RH}{Q:QT}
theorem Mk (hR:Raw H hb wb tb bb nw nt p){k:Int} (h0:0<=k) (h1:k<nt) (h2:0<=p.T k) (h3:p.T k<nw) (h4:0<=p.count) (h5:p.count<=1000000000)
  (h:∀ H',Raw H' hb wb tb bb nw nt { p with W:=upd p.W (p.T k) 0,T:=upd p.T k (-1),low:=if k<p.low then k else p.low,count:=p.count-1 }->Fr [hb,wb,tb,bb] H H'->Q (.tuple #[]) H'):ag PP 169 #[QW hb,ac k] Q H:=by
 apply Dj;dsimp only [ay,aK,bc,ac,bf,aE,bj,bJ,aI];have e1:IntKind.wrap .i64 (p.count-1)=p.count-1:=ao (by omega) (by omega);have r1:=hR.setW (i:=p.T k) h2 0;have r2:=r1.setT (i:=k) h0 (-1);have r3:=r2.set5 (if k<p.low then k else p.low);have r4:=r3.set3 (p.count-1);simp only [ae,a0P,a0f,a0l,a0L,bh,aV,bx,bA,bi,bB,bt,aW,bv,bu,bg,bz,a06,a1a,a1d,aB,a0K,a0y,aM,aG,aY,a0p,a0C,bq,bn,hR.c0,hR.c1,hR.tabc h0 h1,r1.c1,r2.c5,r3.c3,e1];refine ⟨h0,h1,h2,h3,hR.mw.wr h2 h3,h0,h1,r1.mt.wr h0 h1,r2.wrh (by decide),r3.wrh (by decide),h _ r4 ?_⟩;exact (((Fr.refl _ _).step (by simp)).step (by simp)).step (by simp) |>.step (by simp)
theorem D8 (hw:WFH r) (hs:SimH W T B low r) (keep:RO->Bool):KeepSt W r.words r.oops keep [] r.objs W T low :=
 { wf:=by simpa using hw.objs,regK:=by simp [cF],regR:=fun _ _ _ _ _=>rfl,tab:=fun k h0 h1=>by rw [hs.tab k h0 h1];rfl,low1:=hs.low1,low2:=hs.low2,low3:=fun k h0 h1=>hs.low3 k h0 h1 }
theorem Fe (hs:SimH W T B low r){keep:RO->Bool}{W' T':Int->Int}{low' tn:Int} (h:KeepSt W r.words r.oops keep r.objs [] W' T' low') :
  SimH W' T' B low' { r with objs:=cF 0 (r.objs.filter keep),turn:=tn }:=by
 have key:∀ x∈cF 0 (r.objs.filter keep),∃ o∈r.objs,x.oop=o.oop∧x.fmt=o.fmt∧x.born=o.born∧x.cls=o.cls∧x.slots=o.slots∧x.len=o.len∧∀ i,0<=i->i<o.len->W' (x.place+i)=W (o.place+i):=by
  intro x hx;obtain ⟨o,h1,h2,h3⟩:=h.regK x hx;exact ⟨o,h1,by rw [h2],by rw [h2],by rw [h2],by rw [h2],by rw [h2],by rw [h2];rfl,h3⟩
 have e:cF 0 (r.objs.filter keep)++[]=cF 0 (r.objs.filter keep):=a2S _;refine { tab:=fun k h0 h1=>by have:=h.tab k h0 h1;rw [e] at this;exact this,bor:=fun x hx=>?_,cls:=fun x hx=>?_,shp:=fun x hx=>?_,wrd:=fun x hx hf j hj=>?_,byt:=fun x hx hf j hj=>?_,byr:=fun x hx hf j h0 h1=>?_,low1:=h.low1,low2:=h.low2,low3:=fun k h0 h1=>by have:=h.low3 k h0 h1;rw [e] at this;exact this }
 all_goals obtain ⟨o,ho,k1,k2,k3,k4,k5,k6,k7⟩:=key x hx
 ·rw [k1,k3];exact hs.bor o ho
 ·have:=k7 0 (a1F _) (by have:=o.len_pos;omega);rw [a4w,a4w] at this;rw [this,k4];exact hs.cls o ho
 ·rw [k7 1 (by omega) (by have:=o.len_pos;omega),k5,k2];exact hs.shp o ho
 ·have J5:o.len=2+(o.slots.length:Int):=by unfold RO.len lenOf;rw [a0a (by omega)]
  rw [k5] at hj ⊢;rw [a4l,k7 (2+(j:Int)) (by omega) (by omega),←a4l];exact hs.wrd o ho (k2 ▸ hf) j hj
 ·have s7:o.fmt=1:=k2 ▸ hf;have J5:o.len=2+((o.slots.length:Int)+3) / 4:=by unfold RO.len lenOf;rw [a0b s7]
  rw [k5] at hj ⊢;rw [a4l,k7 (2+((j / 4:Nat):Int)) (by omega) (by omega),←a4l];exact hs.byt o ho s7 j hj
 ·have s7:o.fmt=1:=k2 ▸ hf
  have:=k7 (j-x.place) (by omega) (by omega);rw [show x.place+(j-x.place)=j by omega] at this;rw [this];exact hs.byr o ho s7 _ (by omega) (by omega)
theorem Cd (hR:Raw H hb wb tb bb nw nt p){pl n f:Int} (h0:0<=pl) (h1:pl+1<nw) (hw:nw<=1048576) (he:p.W (pl+1)=2*n+f) (hf:f=0∨f=1) (h:Q (.tuple #[ac n,ac f]) H):ag PP 117 #[QW hb,ac pl] Q H:=by
 apply zi;dsimp only [aA,ay,aK,bc,bf,aE,aI];rw [ao (n:=pl+1) (by omega) (by omega)];simp only [ae,a0P,a0f,a0l,a0L,bh,aV,bx,bA,bi,bB,bt,aW,bv,bu,bg,bz,a06,a1a,a1d,aB,a0K,a0y,aM,aG,aY,a0p,a0C,bq,bn,hR.c0,hR.word (i:=pl+1) (by omega) (by omega)];refine ⟨by omega,by omega,?_⟩;rw [he,IH,za];have e1:(2*n+f) / 2=n:=by omega
 have e2:(2*n+f) % 2=f:=by omega
 rw [e1,e2];exact h
theorem vA (hR:Raw H hb wb tb bb nw nt p){pl n f:Int} (h0:0<=pl) (h1:pl+1<nw) (hw:nw<=1048576) (he:p.W (pl+1)=2*n+f) (hf:f=0∨f=1) (hn:0<=n) (Oc:n<=8192) (h:Q (ac (lenOf n f)) H):ag PP 170 #[QW hb,ac pl] Q H:=by
 apply Fo;dsimp only [aC,ak,ac,am];exact Cd hR h0 h1 hw he hf ⟨_,_,rfl,nA hn (by omega) ⟨_,rfl,h⟩⟩
def uo (hb:Nat) (r:RH):Prop:=∀ {H:au}{wb tb bb:Nat}{W T B:Int->Int}{low:Int}{Q:QT},PHs H hb wb tb bb W T B low r->(∀ a l c F H',bZ 1 H' a l c (az (r.objs.map (·.oop))) F->Fr [] H H'->(∀ b∈F,H.size<=b)->Q (.slice a l c) H')->ag PP 168 #[QW hb] Q H
theorem Nb {F:aS} (hR:d9 H hb F r) (Wi:uo hb r){a2:Option Addr}{l2 c2:Nat}{ks:List Int} (hk:Rd 1 H a2 l2 (az ks)) (hd:∀ p,a2=some p->p.block∉F) (I6:l2<=1099511627776)
  (h:∀ H',d9 H' hb F (r.keep ks).2->Fr F H H'->Q (nM (r.keep ks).1) H'):ag PP 83 #[QW hb,.slice a2 l2 c2] Q H:=by
 have w6:=hR;obtain ⟨wb,tb,bb,W,T,B,low,rfl,hR⟩:=hR;apply Ng;dsimp only [pz,bk,aC,cq,ah,ak,fe,aX,ay,aK,bc,ac,bf,bX,js,av,bm,aE,am,zz,bM,ax,bj,bJ,aI];have pe:=hR.wf;have X7:=pe.w0;have JY:=pe.w1;have Tm:=pe.o0;have IN:=pe.o1;have ic:=hR.raw.ne;have Tn:=cJ pe.objs pe.w0;have Sc:=fH pe.objs;have Jw:bd PP 25=some (1,8,some (ac 0)):=by kernel_rfl
 have i7:bd PP 30=some (1,8,some (ac 0)):=by kernel_rfl
 have K2:l2=ks.length:=by have:=hk.1;simpa [az] using this.symm
 refine ov hR ⟨_,rfl,?_⟩;simp only [ae,a0P,a0f,a0l,a0L,bh,aV,bx,bA,bi,bB,bt,aW,bv,bu,bg,bz,a06,a1a,a1d,aB,a0K,a0y,aM,aG,aY,a0p,a0C,bq,bn,hR.c1];refine dQ Jw rfl (by omega) (a1F _) (by omega) (by decide) fun e=>?_;simp only [a0j];have Wj:∀ b∈[hb,wb,tb,bb],b<H.size:=w6.lt;have R1:H.size∉[hb,wb,tb,bb]:=fun hm=>absurd (Wj _ hm) (by omega);simp only [ae,a0P,a0f,a0l,a0L,bh,aV,bx,bA,bi,bB,bt,aW,bv,bu,bg,bz,a06,a1a,a1d,aB,a0K,a0y,aM,aG,aY,a0p,a0C,bq,bn];refine ⟨fun w H'=>∃ i:Int,w=[ac i]∧0<=i∧i<=l2∧PHs H' hb wb tb bb W T B low r∧Fr [] H H'∧fc H' H.size (r.oops+1).toNat (fun k=>if k∈ks.take i.toNat then 1 else 0)∧∀ k∈ks.take i.toNat,aT r.objs k≠none,fun w _=>match w with
  | [.int _ i]=>(l2-i).toNat
  | _=>0,⟨0,rfl,by omega,by omega,?_,Fr.push _ _ _,?_,by simp⟩,?_⟩
 ·obtain ⟨wb',tb',bb',W',T',B',low',e1,h1⟩:=w6.fr (Fr.push [] H (.cells (Array.replicate (r.oops+1).toNat (ac 0)) e)) (bU.nil_right _) (by simp);exact { hR with hd:=hR.hd.push _,mw:=hR.mw.push _,mt:=hR.mt.push _,mb:=hR.mb.push _,kinds:=h1.kinds }
 ·exact (fc.new _ _ _).congr fun k _ _=>by simp
 rintro w H1 ⟨i,rfl,Sy,VM,If,bw,CO,b8⟩ _;refine ⟨i,rfl,?_⟩;split
 ·rename_i hi;have JC:=hk.fr' bw (by simp);obtain ⟨pa,ST,aj,an⟩:=JC.int Sy (by omega);subst ST;simp only [ae,a0P,a0f,a0l,a0L,bh,aV,bx,bA,bi,bB,bt,aW,bv,bu,bg,bz,a06,a1a,a1d,aB,a0K,a0y,aM,aG,aY,a0p,a0C,bq,bn,aj];refine ⟨Sy,hi,uA If ?_⟩;have lj:ks.take (i+1).toNat=ks.take i.toNat++[ks.getD i.toNat 0]:=by
   rw [show (i+1).toNat=i.toNat+1 by omega,a1i];simp [an]
  unfold sf;cases ho:aT r.objs (ks.getD i.toNat 0) with
  | none =>
   refine ⟨_,_,rfl,?_⟩;rw [a0b (by decide)];have hmem:ks.getD i.toNat 0∈ks:=by
    have:ks.getD i.toNat 0=ks[i.toNat]:=by simp [an]
    rw [this];exact a04 an
   have TH:r.keep ks=((0,0,20),r):=by unfold RH.keep;rw [a0b ⟨_,hmem,ho⟩]
   rw [TH] at h;exact h H1 ⟨wb,tb,bb,W,T,B,low,rfl,If⟩ bw.of_nil
  | some o =>
   have O7:=pe.objs.good o (aR ho).1;have JM:=(aR ho).2;have UV:=O7.oop1;have Z6:=O7.oop2;rw [JM] at UV Z6;refine ⟨_,_,rfl,?_⟩;simp only [ae,a0P,a0f,a0l,a0L,bh,aV,bx,bA,bi,bB,bt,aW,bv,bu,bg,bz,a06,a1a,a1d,aB,a0K,a0y,aM,aG,aY,a0p,a0C,bq,bn,a3Q,not_true_eq_false,if_false];rw [ao (n:=i+1) (by omega) (by omega)];refine ⟨by omega,by omega,CO.wr (by omega) (by omega),⟨i+1,rfl,by omega,by omega,?_,?_,?_,?_⟩,by simp;omega⟩
   ·have Sd:Fr [H.size] H1 (aQ H1 ⟨H.size,(ks.getD i.toNat 0).toNat,none⟩ (ac 1)):=Fr.set (by simp);have X8:∀ b∈[hb,wb,tb,bb],b∉[H.size]:=fun b k9 hn=>by simp at hn;subst hn;exact R1 k9
    have Wk:bl<H.size:=by
     have h0:=hR.kinds.1;unfold aq at h0;rcases a2t bl H.size with h1 | h1
     ·exact h1
     ·simp only [a2u h1] at h0;cases h0
    exact { If with hd:=If.hd.fr Sd (X8 _ (by simp)),mw:=If.mw.fr Sd (X8 _ (by simp)),mt:=If.mt.fr Sd (X8 _ (by simp)),mb:=If.mb.fr Sd (X8 _ (by simp)),kinds:=If.kinds.fr Sd (by simp;omega) }
   ·exact ⟨by rw [ck];exact bw.1,fun b k9 hn=>by rw [cP (by simp;omega)];exact bw.2 b k9 hn⟩
   ·refine (CO.set (i:=ks.getD i.toNat 0) (by omega) 1).congr fun k _ _=>?_;unfold upd;rw [lj];by_cases TI:k=ks.getD i.toNat 0
    ·rw [a0b TI,a0b (by simp [TI])]
    ·rw [a0a TI];simp only [a0T,a0A,TI,a2h]
   ·rw [lj];intro k RB;rcases a0T.1 RB with RB | RB
    ·exact b8 k RB
    ·simp only [a0A] at RB;rw [RB,ho];simp
 ·rename_i hi;have ui:i.toNat=ks.length:=by omega
  have Oe:ks.take i.toNat=ks:=by rw [ui,a29]
  rw [Oe] at CO b8;have TH:r.keep ks=(((r.objs.length:Int)-((r.keepO ks).length:Int),bT r.objs-bT (r.keepO ks),0),{ r with objs:=r.keepO ks,turn:=IntKind.wrap .i64 (r.turn+1) }):=by
   unfold RH.keep;rw [a0a];rintro ⟨k,JC,OU⟩;exact b8 k JC OU
  have OW:=fT pe ks;rw [TH] at h OW;simp only [ae,a0P,a0f,a0l,a0L,bh,aV,bx,bA,bi,bB,bt,aW,bv,bu,bg,bz,a06,a1a,a1d,aB,a0K,a0y,aM,aG,aY,a0p,a0C,bq,bn,If.c3,If.c4];refine Wi If fun ab lb cb Fb H2 OQ fa hFb=>?_;simp only [ae,a0P,a0f,a0l,a0L,bh,aV,bx,bA,bi,bB,bt,aW,bv,bu,bg,bz,a06,a1a,a1d,aB,a0K,a0y,aM,aG,aY,a0p,a0C,bq,bn];have hkeepf:∃ kf:RO->Bool,kf=fun o=>decide (o.oop∈ks):=⟨_,rfl⟩;obtain ⟨kf,UX⟩:=hkeepf;have Jy:r.keepO ks=cF 0 (r.objs.filter kf):=by rw [UX];rfl
  have Wl:lb=r.objs.length:=by have:=OQ.1;simpa [az] using this.symm
  have yB:Fr [] H H2:=bw.trans fa;have Z7:∀ b∈Fb,b∉[hb,wb,tb,bb]:=fun b k9 hn=>absurd (Wj b hn) (by have:=hFb b k9;have:=bw.1;omega);have hsbF:H.size∉Fb:=fun hm=>by have:=hFb _ hm;have:=CO.lt;omega
  have ff:∀ {H'},Fr [hb,wb,tb,bb] H2 H'->Fr [hb,wb,tb,bb] H H':=fun hf=>(yB.of_nil).trans hf;refine ⟨fun w H'=>∃(j:Nat) (W' T':Int->Int) (low':Int),w=[ac (bV 0 ((r.objs.take j).filter kf)),ac j]∧j<=r.objs.length∧KeepSt W r.words r.oops kf (r.objs.take j) (r.objs.drop j) W' T' low' ∧
    Raw H' hb wb tb bb r.words.toNat (r.oops+1).toNat ⟨W',T',B,((cF 0 ((r.objs.take j).filter kf)).length:Int)+((r.objs.length-j:Nat):Int),bT r.objs,low',r.mark,r.born,r.turn⟩∧Fr [hb,wb,tb,bb] H2 H',fun w _=>match w with
   | [_,.int _ i]=>(r.objs.length-i).toNat
   | _=>0,⟨0,W,T,low,by simp [bV],by omega,?_,?_,Fr.refl _ _⟩,?_⟩
  ·have:=D8 pe hR.sim kf;simpa using this
  ·have Jn:=If.raw.keep fa (bU.nil_right _);simpa [cF] using Jn
  rintro w H3 ⟨j,W',T',low',rfl,hj,s8,Jc,l7⟩ _;refine ⟨_,_,rfl,?_⟩;have Z8:=OQ.fr l7 Z7;have UP:fc H3 H.size (r.oops+1).toNat (fun k=>if k∈ks then 1 else 0):=(CO.fr fa (by simp)).fr l7 R1;split
  ·rename_i OR;have OR:j<r.objs.length:=by omega
   obtain ⟨pa,ST,aj,an⟩:=(Z8.rd).int (i:=(j:Int)) (by omega) (by omega);have ho:r.objs.drop j=r.objs[j] :: r.objs.drop (j+1):=a1S OR;have Ry:r.objs[j]∈r.objs:=a04 OR;have Z9:(r.objs.map (·.oop)).getD (j:Int).toNat 0=r.objs[j].oop:=by simp [OR]
   rw [Z9] at aj;have lj:r.objs.take (j+1)=r.objs.take j++[r.objs[j]]:=by rw [a1i];simp [OR]
   generalize hoe:r.objs[j]=o at *;have hg:=pe.objs.good o Ry;have UV:=hg.oop1;have Z6:=hg.oop2;have hg3:=hg.pl;have hg4:=hg.fits;have hg5:=o.len_pos;have hg6:=hg.many;rw [ho] at s8;obtain ⟨e1,e2,e3,e4⟩:=s8.ends;have hT:T' o.oop=o.place:=by
    rw [s8.tab o.oop (by omega) (by omega),i6,ko,a0b rfl];have hn:aT (cF 0 ((r.objs.take j).filter kf)) o.oop=none:=eB.2 fun x hx=>(e3 x hx).2.2;rw [hn];rfl
   have hWs:W' (o.place+1)=2*(o.slots.length:Int)+o.fmt:=by
    rw [s8.regR o (by simp) 1 (by omega) (by omega)];exact hR.sim.shp o Ry
   subst ST;have ej:IntKind.wrap .i64 ((j:Int)+1)=((j+1:Nat):Int):=by rw [ao (by omega) (by omega)];omega
   simp only [ae,a0P,a0f,a0l,a0L,bh,aV,bx,bA,bi,bB,bt,aW,bv,bu,bg,bz,a06,a1a,a1d,aB,a0K,a0y,aM,aG,aY,a0p,a0C,bq,bn,aj,Jc.c1,Jc.tabc (i:=o.oop) (by omega) (by omega),UP.cell (i:=o.oop) (by omega) (by omega),hT,ej];refine ⟨by omega,by omega,by omega,by omega,by omega,by omega,?_⟩;by_cases TI:o.oop∈ks
   ·have uD:kf o=true:=by rw [UX];simpa using TI
    simp only [TI,if_true];rw [a0a (by decide)];have hlen:o.len=lenOf o.slots.length o.fmt:=rfl;refine vA Jc hg3 (by omega) (by omega) hWs hg.fmt (by omega) (by omega) ?_;rw [←hlen];have e5:IntKind.wrap .i64 (o.place+o.len)=o.place+o.len:=ao (by omega) (by omega);have e6:IntKind.wrap .i64 (bV 0 ((r.objs.take j).filter kf)+o.len)=bV 0 ((r.objs.take j).filter kf)+o.len:=ao (by omega) (by omega);simp only [ae,a0P,a0f,a0l,a0L,bh,aV,bx,bA,bi,bB,bt,aW,bv,bu,bg,bz,a06,a1a,a1d,aB,a0K,a0y,aM,aG,aY,a0p,a0C,bq,bn,Jc.c0,e5,e6];refine ⟨by omega,by omega,by omega,by omega,by omega,by omega,?_⟩;refine wg i7 Jc.mw e1 (by omega) (by omega) hg3 (by omega) (by omega) (by omega) fun H4 UN T9 Rw=>?_;have OD:Raw H4 hb wb tb bb r.words.toNat (r.oops+1).toNat ⟨fun i=>if bV 0 ((r.objs.take j).filter kf)<=i∧i<bV 0 ((r.objs.take j).filter kf)+(((o.place+o.len).toNat-o.place.toNat:Nat):Int) then W' (i-bV 0 ((r.objs.take j).filter kf)+o.place) else W' i,T',B,((cF 0 ((r.objs.take j).filter kf)).length:Int)+((r.objs.length-j:Nat):Int),bT r.objs,low',r.mark,r.born,r.turn⟩:=⟨Jc.hd.of_eq (Rw _ ic.1.1),UN,Jc.mt.of_eq (Rw _ ic.2.1.1.symm),Jc.mb.of_eq (Rw _ ic.2.1.2.1.symm),Jc.d⟩;have uH:Fr [hb,wb,tb,bb] H2 H4:=l7.trans ⟨by omega,fun b _ hn=>Rw b fun e=>hn (by simp [e])⟩;simp only [ae,a0P,a0f,a0l,a0L,bh,aV,bx,bA,bi,bB,bt,aW,bv,bu,bg,bz,a06,a1a,a1d,aB,a0K,a0y,aM,aG,aY,a0p,a0C,bq,bn,OD.c1];have RZ:=OD.setT (i:=o.oop) (by omega) (bV 0 ((r.objs.take j).filter kf));have UY:=s8.stay uD (W':=fun i=>if bV 0 ((r.objs.take j).filter kf)<=i∧i<bV 0 ((r.objs.take j).filter kf)+(((o.place+o.len).toNat-o.place.toNat:Nat):Int) then W' (i-bV 0 ((r.objs.take j).filter kf)+o.place) else W' i) fun i=>by
     have:(((o.place+o.len).toNat-o.place.toNat:Nat):Int)=o.len:=by omega
     rw [this]
    have Jz:(r.objs.take (j+1)).filter kf=(r.objs.take j).filter kf++[o]:=by rw [lj,a2T];simp [uD]
    refine ⟨by omega,by omega,OD.mt.wr (by omega) (by omega),⟨j+1,_,_,_,?_,by omega,by rw [lj];exact UY,?_,uH.step (by simp)⟩,by simp;omega⟩
    ·rw [Jz,gL]
    ·rw [Jz,eW,a1h];have hc:((cF 0 ((r.objs.take j).filter kf)).length:Int)+((r.objs.length-j:Nat):Int)=((cF 0 ((r.objs.take j).filter kf)).length+([({ o with place:=bV 0 ((r.objs.take j).filter kf) }:RO)].length:Nat):Nat)+((r.objs.length-(j+1):Nat):Int):=by
      simp only [List.length_singleton];omega
     have:=RZ;simp only [hc] at this;exact this
   ·have uD:kf o=false:=by rw [UX];simpa using TI
    simp only [TI,if_false];rw [a0b trivial];have Jz:(r.objs.take (j+1)).filter kf=(r.objs.take j).filter kf:=by rw [lj,a2T];simp [uD]
    have SS:((cF 0 ((r.objs.take j).filter kf)).length:Int)<=r.objs.length:=by
     rw [lO];have h1:=a2w kf (r.objs.take j);have h2:=List.length_take_le j r.objs;rw [a1q] at h1;omega
    refine Mk Jc (by omega) (by omega) (by show 0<=T' o.oop;rw [hT];exact hg3) (by show T' o.oop<_;rw [hT];omega) (by simp only;omega) (by simp only;omega) fun H4 OD uH=>?_;have UY:=s8.drop uD;refine ⟨rfl,⟨j+1,_,_,_,by rw [Jz],by omega,by rw [lj];exact UY,?_,l7.trans uH⟩,by simp;omega⟩;rw [Jz];have hc:((cF 0 ((r.objs.take j).filter kf)).length:Int)+((r.objs.length-j:Nat):Int)-1=((cF 0 ((r.objs.take j).filter kf)).length:Int)+((r.objs.length-(j+1):Nat):Int):=by omega
    have:=OD;simp only [hc,hT] at this;exact this
  ·rename_i OR;have TJ:j=r.objs.length:=by omega
   subst TJ;have TK:r.objs.take r.objs.length=r.objs:=a29;have Uc:r.objs.drop r.objs.length=[]:=a3l;rw [TK,Uc] at s8;rw [TK] at Jc;rw [TK];rw [←Jy] at Jc;have hek:bV 0 (r.objs.filter kf)=bT (r.keepO ks):=by rw [Jy,jd]
   rw [hek];have O8:=qh pe ks;have hkb:=cJ O8 pe.w0;have hkc:=fH O8;have HS:bT (r.keepO ks)<=bT r.objs:=by
    rcases a2G (r.keepO ks) with he | ⟨m,x,he⟩
    ·rw [he];simpa [bT] using Tn.1
    ·simp only [a2P] at he;have hx:x∈r.keepO ks:=by rw [he];simp
     rw [Jy] at hx;obtain ⟨o,g1,g2,g3⟩:=qC _ 0 s8.wfd (fun o ho=>(s8.wfd.good o ho).pl) x hx;have hxl:x.len=o.len:=by rw [g2];rfl
     have:=mT pe.objs (a2l.1 g1).1;rw [he,eS];omega
   have Od:((r.keepO ks).length:Int)<=r.objs.length:=by
    rw [Jy,lO]
    have:=a2w kf r.objs;omega
   simp only [ae,a0P,a0f,a0l,a0L,bh,aV,bx,bA,bi,bB,bt,aW,bv,bu,bg,bz,a06,a1a,a1d,aB,a0K,a0y,aM,aG,aY,a0p,a0C,bq,bn,Jc.c0,Jc.c4];refine ⟨by omega,by omega,by omega,by omega,?_⟩;refine nK i7 Jc.mw (by omega) (by omega) fun H4 UN T9 Rw=>?_;have OD:Raw H4 hb wb tb bb r.words.toNat (r.oops+1).toNat ⟨fun i=>if bT (r.keepO ks)<=i∧i<bT (r.keepO ks)+(((bT r.objs).toNat-(bT (r.keepO ks)).toNat:Nat):Int) then 0 else W' i,T',B,((r.keepO ks).length:Int)+((r.objs.length-r.objs.length:Nat):Int),bT r.objs,low',r.mark,r.born,r.turn⟩:=⟨Jc.hd.of_eq (Rw _ ic.1.1),UN,Jc.mt.of_eq (Rw _ ic.2.1.1.symm),Jc.mb.of_eq (Rw _ ic.2.1.2.1.symm),Jc.d⟩;have uH:Fr [hb,wb,tb,bb] H2 H4:=l7.trans ⟨by omega,fun b _ hn=>Rw b fun e=>hn (by simp [e])⟩;have RZ:=OD.set4 (bT (r.keepO ks));have VR:=RZ.set8 (IntKind.wrap .i64 (r.turn+1));simp only [ae,a0P,a0f,a0l,a0L,bh,aV,bx,bA,bi,bB,bt,aW,bv,bu,bg,bz,a06,a1a,a1d,aB,a0K,a0y,aM,aG,aY,a0p,a0C,bq,bn,RZ.c8,VR.c3];have e7:IntKind.wrap .i64 ((r.objs.length:Int)-(((r.keepO ks).length:Int)+((r.objs.length-r.objs.length:Nat):Int)))=(r.objs.length:Int)-((r.keepO ks).length:Int):=by rw [ao (by omega) (by omega)];omega
   have e8:IntKind.wrap .i64 (bT r.objs-bT (r.keepO ks))=bT r.objs-bT (r.keepO ks):=ao (by omega) (by omega);rw [e7,e8];have Jo:Fr [hb,wb,tb,bb] H (aQ (aQ H4 ⟨hb,4,none⟩ (ac (bT (r.keepO ks)))) ⟨hb,8,none⟩ (ac (IntKind.wrap .i64 (r.turn+1)))):=((ff uH).step (by simp)).step (by simp);refine ⟨OD.wrh (by decide),RZ.wrh (by decide),h _ ⟨wb,tb,bb,_,_,_,_,rfl,VR.phs (hR.kinds.fr Jo w6.gk) OW (r:={ r with objs:=r.keepO ks,turn:=IntKind.wrap .i64 (r.turn+1) }) ?_ rfl rfl (by simp) rfl rfl rfl rfl⟩ Jo⟩;have a0c:KeepSt W r.words r.oops kf r.objs [] (fun i=>if bT (r.keepO ks)<=i∧i<bT (r.keepO ks)+(((bT r.objs).toNat-(bT (r.keepO ks)).toNat:Nat):Int) then 0 else W' i) T' low' :=
    { wf:=s8.wf,regK:=fun x hx=>by
       obtain ⟨o,g1,g2,g3⟩:=s8.regK x hx;refine ⟨o,g1,g2,fun i h0 h1=>?_⟩;have JH:x∈r.keepO ks:=by rw [Jy];exact hx
       have:=mT O8 JH;have hxl:x.len=o.len:=by rw [g2];rfl
       rw [a0a (by omega)];exact g3 i h0 h1
      regR:=fun y hy=>by cases hy
      tab:=s8.tab,low1:=s8.low1,low2:=s8.low2,low3:=s8.low3 }
   have:=Fe hR.sim a0c (tn:=IntKind.wrap .i64 (r.turn+1));rw [←Jy] at this;exact this
end
end Go.Proofs.YtgjfejoohojokaaGreatDoor
namespace Kw
section
open Go Go.Proofs Go.Shelf Go.Sort Go.RowKit Go.Lib
variable {P:Program}{α:Type} [Inhabited α]
theorem vu {enc:α->Value}{w:World}{b:Nat}{d:Array α}{cs:Array Value}{t:TypeId}{fr:Nat × Nat} (hb:w.heap[b]?=some (.cells cs t fr)) :
  (putRow enc w b 0 d).heap[b]?=some (.cells (putCells enc 0 d cs) t fr)∧(putRow enc w b 0 d).heap.size=w.heap.size∧∀ b',b'≠b->(putRow enc w b 0 d).heap[b']?=w.heap[b']?:=by
 refine ⟨?_,by simp [putRow,mapBlock],fun b' hn=>?_⟩
 ·simp only [putRow,mapBlock,a2a,if_true,hb,a2Q];rfl
 ·simp only [putRow,mapBlock,a2a];rw [a0a (a3t hn)]
theorem lu {enc:α->Value}{w:World}{b m:Nat}{d:Array α}{os:Array Obj}{cs:Array Value}{t:TypeId}{fr:Nat × Nat} (hb:w.heap[b]?=some (.cells cs t fr)) :
  (sortWorld enc w b 0 m d os).heap[b]?=some (.cells (putCells enc 0 d cs) t fr)∧Fr [b] w.heap (sortWorld enc w b 0 m d os).heap:=by
 have h:=vu (enc:=enc) (w:=Sort.ahead w m) (d:=d) (b:=b) (cs:=cs) (t:=t) (fr:=fr) hb;have an:b<w.heap.size:=(a1j.1 hb).1;have hs:(Sort.ahead w m).heap.size=w.heap.size:=rfl;unfold sortWorld Sort.grow;refine ⟨?_,?_,fun b' k9 hn=>?_⟩
 ·simp only;rw [a2Y (by rw [h.2.1];exact an)];exact h.1
 ·simp only [a3y];rw [h.2.1];exact a3V _ _
 ·simp only;rw [a2Y (by rw [h.2.1];exact k9)];exact h.2.2 b' (by simpa using hn)
theorem ru {ρ:Ren} (L:SlLaysF.n6 P ρ) (enc:α->Int) (cf:α->α->Int) (hO:SWO (ltOf cf)) (hT:∀ x y,(ltOf cf) x y=false->(ltOf cf) y x=false->x=y){g:Nat}{cb:Array Value}
  (hfn:∃ fn,P.funcs[ρ.f 6]?=some fn∧fn.body.isSome=true) (eg:∀ args w,(callFunc g args).run P w=.ok (.enter g args) w){b l c:Nat}{H:au}{d:List α}{Q:Value->au->Prop} (ho:bZ 1 H (some ⟨b,0,none⟩) l c (az (d.map enc)) [b]) (zw:l<4611686018427387904)
  (D7:∀ x y H',Fr [b] H H'->ag P g (#[.int .i64 (enc x),.int .i64 (enc y)]++cb) (fun v H''=>v=.int .i64 (cf x y)∧H''=H') H')
  (h:∀ H',bZ 1 H' (some ⟨b,0,none⟩) l c (az ((d.mergeSort fun x y=>!(ltOf cf) y x).map enc)) [b]->Fr [b] H H'->Q (.tuple #[]) H') :
  ag P (ρ.f 6) #[.slice (some ⟨b,0,none⟩) l c,.func (.func g) #[] cb] Q H:=by
 refine ⟨hfn,?_⟩;intro w hw;subst hw;rcases ho.2.2 with ⟨h0,_,_⟩ | ⟨b',cs,cj,_,⟨t,Sz⟩,hcs,lj⟩
 ·cases h0
 cases cj;have hl:l=d.length:=by have:=ho.1;simpa [az] using this.symm
 subst hl;have Uc:(d.toArray).size=d.length:=by simp
 have HS:d.length<=c:=ho.2.1;have aj:∀ j,j<d.length->cs[j]?=some (.int .i64 (enc d.toArray[j]!)):=by
  intro j hj;have h1:(cs.toList.take (d.length*1))[j]?=(az (d.map enc))[j]?:=by rw [lj]
  rw [a27 (by omega)] at h1;rw [←a2C,h1];simp [az,hj]
 have hH:Go.Sort.Holds (fun x=>Value.int .i64 (enc x)) w b 0 d.toArray:=by
  intro j hj;rw [Uc] at hj;refine ⟨?_,?_⟩
  ·rw [a0K,←aj j hj];unfold World.cell?;simp only [Sz];rfl
  ·unfold World.frozen?;simp only [Sz];simp
 have JZ:=Any.slices_SortFunc L (fun x=>Value.int .i64 (enc x)) (fun _=>rfl) cf hO g cb b 0 c d.toArray w eg (fun m os dk hdk x y=>?_) hH (a1j.1 Sz).1 (by simpa using zw)
 ·rw [Uc] at JZ;refine JZ.mono ?_;rintro e w' ⟨rfl,d',n,os,hp,hs,rfl⟩;have hd':d'=(d.mergeSort fun x y=>!(ltOf cf) y x).toArray:=by
   have h1:=sorted_unique_holds hO hT d.toArray d' (by simpa using hp) (by simpa using hs);rw [←h1]
  subst hd';have hh:=lu (enc:=fun x=>Value.int .i64 (enc x)) (m:=n) (os:=os) (d:=(d.mergeSort fun x y=>!(ltOf cf) y x).toArray) Sz;refine ⟨_,rfl,h _ ⟨by simp [az,a2H],HS,.inr ⟨b,_,rfl,rfl,⟨t,hh.1⟩,by simp [putCells,hcs],?_⟩⟩ hh.2,rfl,rfl,rfl,?_⟩
  ·apply a2V
   ·simp [az,putCells,a2H];omega
   ·intro j h1 h2;have hj:j<d.length:=by simpa [az,a2H] using h2
    have JD:j<(d.mergeSort fun x y=>!(ltOf cf) y x).length:=by rw [a2H];exact hj
    simp only [a3M,az,a3e,Array.getElem_toList,putCells,Array.getElem_mapIdx,a07,a1a,a0K,a1D,a2H,hj,if_true,a3Z]
    congr 2
    rw [List.getElem!_toArray,a34,a0Q JD];rfl
  ·refine ⟨by show w.drawn<=w.drawn+n;omega,hh.2.1,fun b' ds k9=>?_⟩;have b9:b'<w.heap.size:=(a1j.1 k9).1;have ic:b'≠b:=fun e=>by subst e;rw [Sz] at k9;cases k9
   exact (hh.2.2 b' b9 (by simpa using ic)).trans k9
 ·have hh:=lu (enc:=fun x=>Value.int .i64 (enc x)) (m:=m) (os:=os) (d:=dk) Sz;refine ((D7 x y _ hh.2).2 _ rfl).mono ?_;rintro e w' ⟨v,rfl,⟨rfl,Ud⟩,h1,h2,h3,h4,h5⟩;refine ⟨rfl,w'.drawn-(sortWorld (fun x=>Value.int .i64 (enc x)) w b 0 m dk os).drawn,#[],?_⟩;rw [Sort.grow_empty];cases w';simp only at Ud h1 h2 h3 h4;subst Ud;subst h1;subst h2;subst h3;rename_i dr;have e:dr=(sortWorld (fun x=>Value.int .i64 (enc x)) w b 0 m dk os).drawn+(dr-(sortWorld (fun x=>Value.int .i64 (enc x)) w b 0 m dk os).drawn):=by omega
  unfold World.drewN;show World.mk _ _ _ _ _=World.mk _ _ _ _ _
  congr 1
end
end Kw
namespace Go.Proofs
open Go.Shelf
def Tryz.sortL_ren:Go.Shelf.Ren:=⟨fun | 6=>284 | 15=>282 | 14=>350 | 28=>348 | 29=>349 | 20=>374 | 21=>375 | 22=>376 | 23=>377 | 24=>378 | 25=>379 | 26=>380 | 27=>381 | 46=>392 | 47=>370 | 48=>371 | 49=>393 | 50=>394 | 57=>398 | n=>n,fun | 22=>25 | 24=>3 | 25=>182 | 3=>3 | 39=>79 | 0=>0 | 53=>286 | 55=>288 | 4=>4 | 46=>280 | 45=>279 | 50=>180 | 5=>5 | 9=>9 | 66=>313 | 70=>317 | 76=>329 | 77=>88 | n=>n,fun | n=>n⟩
theorem Tryz.sortL:Go.Proofs.SlLaysF.n6 Tryz.prog Tryz.sortL_ren:={
 mixed:=by kernel_rfl
 f6:=⟨Tryz.f284.name,by decide,Tryz.func284.trans (congrArg some (by kernel_rfl))⟩
 f14:=⟨Tryz.f350.name,by decide,Tryz.func350.trans (congrArg some (by kernel_rfl))⟩
 f15:=Tryz.func282.trans (congrArg some (by kernel_rfl))
 f20:=⟨Tryz.f374.name,by decide,Tryz.func374.trans (congrArg some (by kernel_rfl))⟩
 f21:=⟨Tryz.f375.name,by decide,Tryz.func375.trans (congrArg some (by kernel_rfl))⟩
 f22:=⟨Tryz.f376.name,by decide,Tryz.func376.trans (congrArg some (by kernel_rfl))⟩
 f23:=⟨Tryz.f377.name,by decide,Tryz.func377.trans (congrArg some (by kernel_rfl))⟩
 f24:=⟨Tryz.f378.name,by decide,Tryz.func378.trans (congrArg some (by kernel_rfl))⟩
 f25:=⟨Tryz.f379.name,by decide,Tryz.func379.trans (congrArg some (by kernel_rfl))⟩
 f26:=⟨Tryz.f380.name,by decide,Tryz.func380.trans (congrArg some (by kernel_rfl))⟩
 f27:=⟨Tryz.f381.name,by decide,Tryz.func381.trans (congrArg some (by kernel_rfl))⟩
 f28:=Tryz.func348.trans (congrArg some (by kernel_rfl))
 f29:=Tryz.func349.trans (congrArg some (by kernel_rfl))
 f46:=⟨Tryz.f392.name,by decide,Tryz.func392.trans (congrArg some (by kernel_rfl))⟩
 f47:=Tryz.func370.trans (congrArg some (by kernel_rfl))
 f48:=Tryz.func371.trans (congrArg some (by kernel_rfl))
 f49:=⟨Tryz.f393.name,by decide,Tryz.func393.trans (congrArg some (by kernel_rfl))⟩
 f50:=⟨Tryz.f394.name,by decide,Tryz.func394.trans (congrArg some (by kernel_rfl))⟩
 f57:=⟨Tryz.f398.name,by decide,Tryz.func398.trans (congrArg some (by kernel_rfl))⟩
 t0:=Tryz.underlying0
 a0:=Tryz.isAgg0
 z0:=Tryz.sizeOf0
 v0:=Tryz.zeroValue0
 t3:=Tryz.underlying3
 a3:=Tryz.isAgg3
 z3:=Tryz.sizeOf3
 v3:=Tryz.zeroValue3
 t4:=Tryz.underlying4
 a4:=Tryz.isAgg4
 z4:=Tryz.sizeOf4
 v4:=Tryz.zeroValue4
 t5:=Tryz.underlying5
 a5:=Tryz.isAgg5
 z5:=Tryz.sizeOf5
 v5:=Tryz.zeroValue5
 t9:=Tryz.underlying9
 a9:=Tryz.isAgg9
 z9:=Tryz.sizeOf9
 v9:=Tryz.zeroValue9
 t22:=Tryz.underlying25
 a22:=Tryz.isAgg25
 z22:=Tryz.sizeOf25
 v22:=Tryz.zeroValue25
 a24:=Tryz.isAgg3
 z24:=Tryz.sizeOf3
 t25:=Tryz.underlying182
 a25:=Tryz.isAgg182
 z25:=Tryz.sizeOf182
 v25:=Tryz.zeroValue182
 t39:=Tryz.underlying79
 a39:=Tryz.isAgg79
 z39:=Tryz.sizeOf79
 v39:=Tryz.zeroValue79
 t45:=Tryz.underlying279
 a45:=Tryz.isAgg279
 z45:=Tryz.sizeOf279
 v45:=Tryz.zeroValue279
 t46:=Tryz.underlying280
 a46:=Tryz.isAgg280
 z46:=Tryz.sizeOf280
 v46:=Tryz.zeroValue280
 t50:=Tryz.underlying180
 a50:=Tryz.isAgg180
 z50:=Tryz.sizeOf180
 v50:=Tryz.zeroValue180
 t53:=Tryz.underlying286
 a53:=Tryz.isAgg286
 z53:=Tryz.sizeOf286
 v53:=Tryz.zeroValue286
 t55:=Tryz.underlying288
 a55:=Tryz.isAgg288
 z55:=Tryz.sizeOf288
 v55:=Tryz.zeroValue288
 t66:=Tryz.underlying313
 a66:=Tryz.isAgg313
 z66:=Tryz.sizeOf313
 v66:=Tryz.zeroValue313
 t70:=Tryz.underlying317
 a70:=Tryz.isAgg317
 z70:=Tryz.sizeOf317
 v70:=Tryz.zeroValue317
 t76:=Tryz.underlying329
 a76:=Tryz.isAgg329
 z76:=Tryz.sizeOf329
 v76:=Tryz.zeroValue329
 t77:=Tryz.underlying88
 a77:=Tryz.isAgg88
 z77:=Tryz.sizeOf88
 v77:=Tryz.zeroValue88 }
def Tryz.sortI_ren:Go.Shelf.Ren:=⟨fun | 189=>167 | 125=>282 | 257=>281 | 128=>348 | 129=>349 | 294=>340 | 295=>341 | 296=>342 | 297=>343 | 298=>344 | 299=>345 | 216=>246 | 300=>346 | 301=>347 | 328=>369 | 329=>370 | 330=>371 | 331=>372 | 332=>373 | 215=>317 | 343=>391 | n=>n,fun | 28=>25 | 3=>3 | 46=>79 | 0=>0 | 51=>286 | 53=>288 | 4=>4 | 183=>280 | 182=>279 | 131=>180 | 5=>5 | 9=>9 | 218=>313 | 222=>317 | 228=>329 | 229=>88 | n=>n,fun | n=>n⟩
theorem Tryz.sortI:Go.Proofs.Lays.n189 Tryz.prog Tryz.sortI_ren:={
 mixed:=by kernel_rfl
 f125:=Tryz.func282.trans (congrArg some (by kernel_rfl))
 f128:=Tryz.func348.trans (congrArg some (by kernel_rfl))
 f129:=Tryz.func349.trans (congrArg some (by kernel_rfl))
 f189:=Tryz.func167.trans (congrArg some (by kernel_rfl))
 f215:=Tryz.func317.trans (congrArg some (by kernel_rfl))
 f216:=Tryz.func246.trans (congrArg some (by kernel_rfl))
 f257:=Tryz.func281.trans (congrArg some (by kernel_rfl))
 f294:=Tryz.func340.trans (congrArg some (by kernel_rfl))
 f295:=Tryz.func341.trans (congrArg some (by kernel_rfl))
 f296:=Tryz.func342.trans (congrArg some (by kernel_rfl))
 f297:=Tryz.func343.trans (congrArg some (by kernel_rfl))
 f298:=Tryz.func344.trans (congrArg some (by kernel_rfl))
 f299:=Tryz.func345.trans (congrArg some (by kernel_rfl))
 f300:=Tryz.func346.trans (congrArg some (by kernel_rfl))
 f301:=Tryz.func347.trans (congrArg some (by kernel_rfl))
 f328:=Tryz.func369.trans (congrArg some (by kernel_rfl))
 f329:=Tryz.func370.trans (congrArg some (by kernel_rfl))
 f330:=Tryz.func371.trans (congrArg some (by kernel_rfl))
 f331:=Tryz.func372.trans (congrArg some (by kernel_rfl))
 f332:=Tryz.func373.trans (congrArg some (by kernel_rfl))
 f343:=Tryz.func391.trans (congrArg some (by kernel_rfl))
 t0:=Tryz.underlying0
 a0:=Tryz.isAgg0
 z0:=Tryz.sizeOf0
 v0:=Tryz.zeroValue0
 t3:=Tryz.underlying3
 a3:=Tryz.isAgg3
 z3:=Tryz.sizeOf3
 v3:=Tryz.zeroValue3
 t4:=Tryz.underlying4
 a4:=Tryz.isAgg4
 z4:=Tryz.sizeOf4
 v4:=Tryz.zeroValue4
 t5:=Tryz.underlying5
 a5:=Tryz.isAgg5
 z5:=Tryz.sizeOf5
 v5:=Tryz.zeroValue5
 t9:=Tryz.underlying9
 a9:=Tryz.isAgg9
 z9:=Tryz.sizeOf9
 v9:=Tryz.zeroValue9
 t28:=Tryz.underlying25
 a28:=Tryz.isAgg25
 z28:=Tryz.sizeOf25
 v28:=Tryz.zeroValue25
 t46:=Tryz.underlying79
 a46:=Tryz.isAgg79
 z46:=Tryz.sizeOf79
 v46:=Tryz.zeroValue79
 t51:=Tryz.underlying286
 a51:=Tryz.isAgg286
 z51:=Tryz.sizeOf286
 v51:=Tryz.zeroValue286
 t53:=Tryz.underlying288
 a53:=Tryz.isAgg288
 z53:=Tryz.sizeOf288
 v53:=Tryz.zeroValue288
 t131:=Tryz.underlying180
 a131:=Tryz.isAgg180
 z131:=Tryz.sizeOf180
 v131:=Tryz.zeroValue180
 t182:=Tryz.underlying279
 a182:=Tryz.isAgg279
 z182:=Tryz.sizeOf279
 v182:=Tryz.zeroValue279
 t183:=Tryz.underlying280
 a183:=Tryz.isAgg280
 z183:=Tryz.sizeOf280
 v183:=Tryz.zeroValue280
 t218:=Tryz.underlying313
 a218:=Tryz.isAgg313
 z218:=Tryz.sizeOf313
 v218:=Tryz.zeroValue313
 t222:=Tryz.underlying317
 a222:=Tryz.isAgg317
 z222:=Tryz.sizeOf317
 v222:=Tryz.zeroValue317
 t228:=Tryz.underlying329
 a228:=Tryz.isAgg329
 z228:=Tryz.sizeOf329
 v228:=Tryz.zeroValue329
 t229:=Tryz.underlying88
 a229:=Tryz.isAgg88
 z229:=Tryz.sizeOf88
 v229:=Tryz.zeroValue88 }
end Go.Proofs
namespace Go.Proofs.YtgjfejoohojokaaGreatDoor
section
open Kw Go.Sort
theorem CX {H:au}{hb:Nat}{r:RH}{Q:QT}{F:aS} (Wi:uo hb r) (hR:d9 H hb F r){a2:Option Addr}{l2 c2:Nat}{ks:List Int} (hk:Rd 1 H a2 l2 (az ks)) (hd:∀ p,a2=some p->p.block∉F) (I6:l2<=1099511627776)
  (h:∀ H',d9 H' hb F (r.keep ks).2->Fr F H H'->Q (nM (r.keep ks).1) H'):ag PP 83 #[QW hb,.slice a2 l2 c2] Q H:=Nb hR Wi hk hd I6 h
def gH (r:RH) (k:Int):Int:=match aT r.objs k with
 | some o=>o.place
 | none=>-1
abbrev jO (r:RH):Type:={ k:Int // aT r.objs k≠none∨k=0 }
instance (r:RH):Inhabited (jO r):=⟨⟨0,.inr rfl⟩⟩
theorem vj {r:RH} (hw:WFH r){x y:jO r} (h:gH r x.1=gH r y.1):x=y:=by
 have h0:∀ z:jO r,aT r.objs z.1=none->z.1=0:=fun z hz=>z.2.resolve_left fun hn=>hn hz;have hp:∀ z o,aT r.objs z=some o->o∈r.objs∧o.oop=z∧0<=o.place:=fun z o ho=>⟨(aR ho).1,(aR ho).2,(hw.objs.good o (aR ho).1).pl⟩;apply Subtype.ext;unfold gH at h;cases hx:aT r.objs x.1 with
 | none =>
  cases hy:aT r.objs y.1 with
  | none=>rw [h0 x hx,h0 y hy]
  | some o=>rw [hx,hy] at h;have:=(hp _ o hy).2.2;simp only at h;omega
 | some o =>
  cases hy:aT r.objs y.1 with
  | none=>rw [hx,hy] at h;have:=(hp _ o hx).2.2;simp only at h;omega
  | some o' =>
   rw [hx,hy] at h;simp only at h;obtain ⟨k1,k2,k3⟩:=hp _ o hx;obtain ⟨k4,k5,k6⟩:=hp _ o' hy;refine a0v fun ic=>?_
   have:=o.len_pos
   have:=o'.len_pos;rcases apart hw.objs k1 k4 (by rw [k2,k5];exact ic) with h1 | h1 <;> omega
def Ai (r:RH) (x y:jO r):Int:=gH r x.1-gH r y.1
theorem nr {r:RH} (x y:jO r):ltOf (Ai r) x y=decide (gH r x.1<gH r y.1):=by
 unfold ltOf Ai;by_cases h:gH r x.1<gH r y.1
 ·simp [h];omega
 ·simp [h];omega
theorem vJ {r:RH} (hw:WFH r){d:List (jO r)} (hd:d.map (·.1)=r.all):(d.mergeSort fun x y=>!(ltOf (Ai r)) y x).map (·.1)=r.objs.map (·.oop):=by
 have hmem:∀ o∈r.objs,aT r.objs o.oop≠none∨o.oop=0:=fun o ho=>.inl (by rw [cN hw.objs ho];simp);obtain ⟨t,ht⟩:∃ t:List (jO r),t.map (·.1)=r.objs.map (·.oop):=⟨r.objs.attach.map fun o=>⟨o.1.oop,hmem o.1 o.2⟩,by
  simp only [a3n];exact List.attach_map_val (f:=fun o:RO=>o.oop) (l:=r.objs)⟩
 have HS:∀ x y:jO r,(!(ltOf (Ai r)) y x)=decide (gH r x.1<=gH r y.1):=fun x y=>by
  rw [nr];by_cases h:gH r y.1<gH r x.1
  ·simp [h]
  ·simp [h];omega
 rw [←ht]
 congr 1
 have a0d:(fun x y:jO r=>!(ltOf (Ai r)) y x)=fun x y=>decide (gH r x.1<=gH r y.1):=by funext x y;exact HS x y
 rw [a0d];have hnd:d.Nodup:=by
  have h1:(r.all).Nodup:=by
   unfold RH.all RH.upto;exact (a4v.map (fun (i:Nat)=>(i:Int)) fun a b Tl h=>Tl (by omega)).filter _
  rw [←hd] at h1;rw [a2A,a2M] at h1;exact a2A.2 (h1.imp fun h e=>h (congrArg _ e))
 have hnt:t.Nodup:=by
  have h1:(r.objs.map (·.oop)).Nodup:=by
   rw [a2A,a2M];exact hw.objs.pw.imp fun h=>h.1
  rw [←ht] at h1;rw [a2A,a2M] at h1;exact a2A.2 (h1.imp fun h e=>h (congrArg _ e))
 have OY:d.Perm t:=by
  rw [a3p hnd hnt];intro x;have e1:x∈d↔x.1∈r.all:=by
   rw [←hd,a1n];constructor
   ·exact fun h=>⟨x,h,rfl⟩
   ·rintro ⟨y,hy,he⟩;rw [←Subtype.ext he];exact hy
  have e2:x∈t↔x.1∈r.objs.map (·.oop):=by
   rw [←ht,a1n];constructor
   ·exact fun h=>⟨x,h,rfl⟩
   ·rintro ⟨y,hy,he⟩;rw [←Subtype.ext he];exact hy
  rw [e1,e2,RH.mem_all hw,a1n];constructor
  ·intro h;cases ho:aT r.objs x.1 with
   | none=>exact absurd ho h
   | some o=>exact ⟨o,(aR ho).1,(aR ho).2⟩
  ·rintro ⟨o,ho,he⟩;rw [←he,cN hw.objs ho];simp
 have i7:=List.pairwise_mergeSort (le:=fun x y:jO r=>decide (gH r x.1<=gH r y.1)) (fun a b c h1 h2=>by simp at *;omega) (fun a b=>by simp;omega) d;have Jw:t.Pairwise fun x y=>decide (gH r x.1<=gH r y.1)=true:=by
  have h1:(r.objs.map fun o=>gH r o.oop).Pairwise (·<=·):=by
   rw [a2M];have h2:∀ o∈r.objs,gH r o.oop=o.place:=fun o ho=>by unfold gH;rw [cN hw.objs ho]
   refine List.Pairwise.imp_of_mem ?_ hw.objs.pw;intro a b ha hb Tl;rw [h2 a ha,h2 b hb]
   have:=Tl.2
   have:=a.len_pos;omega
  have h2:(t.map fun x=>gH r x.1)=r.objs.map fun o=>gH r o.oop:=by
   have:=congrArg (List.map (gH r)) ht;rw [a3n,a3n] at this;exact this
  rw [←h2,a2M] at h1;exact h1.imp fun h=>by simpa using h
 exact List.Perm.eq_of_pairwise (fun a b _ _ h1 h2=>vj hw (by simp at h1 h2;omega)) i7 Jw ((List.mergeSort_perm d _).trans OY)
theorem sM (hb:Nat) (r:RH):uo hb r:=by
 intro H wb tb bb W T B low Q hR h;have hw:=hR.wf;have Tm:=hw.o0;have IN:=hw.o1;apply Lr;dsimp only [aL,cq,fe,aF,av,am,aJ,ax];have Wk:bl<H.size:=by
  have h0:=hR.kinds.1;unfold aq at h0;rcases a2t bl H.size with h1 | h1
  ·exact h1
  ·simp only [a2u h1] at h0;cases h0
 have OX:Fr [] H (H.push (.cells #[QW hb] 66)):=Fr.push _ _ _;obtain ⟨wb',tb',bb',W',T',B',low',e,UZ⟩:=hR.rep.fr OX (bU.nil_right _) (by simp);have If:PHs (H.push (.cells #[QW hb] 66)) hb wb tb bb W T B low r:={ hR with hd:=hR.hd.push _,mw:=hR.mw.push _,mt:=hR.mt.push _,mb:=hR.mb.push _,kinds:=UZ.kinds };simp only [ae,a0P,a0f,a0l,a0L,bh,aV,bx,bA,bi,bB,bt,aW,bv,bu,bg,bz,a06,a1a,a1d,aB,a0K,a0y,aM,aG,aY,a0p,a0C,bq,bn,a1w,a2q,a2r,a1D,a1b,a1s,a1O,a1y,a1C];refine P9 If fun a l c F H1 ho hf hF hFn=>?_;simp only [ae,a0P,a0f,a0l,a0L,bh,aV,bx,bA,bi,bB,bt,aW,bv,bu,bg,bz,a06,a1a,a1d,aB,a0K,a0y,aM,aG,aY,a0p,a0C,bq,bn];have an:=ho.lt;have R9:aq H1 ⟨H.size,0,none⟩=some (QW hb):=((bI.new H #[QW hb] 66).fr hf (by simp)).cell 0;have hlen:=ho.len;simp only [az,a1p] at hlen;have Z5:=r.upto_len (r.oops+1).toNat
 let d:List (jO r):=r.all.attach.map fun k=>⟨k.1,.inl ((RH.mem_all hw).1 k.2)⟩
 have hd:d.map (·.1)=r.all:=by
  simp only [d,a3n];exact List.attach_map_val (f:=fun k:Int=>k) (l:=r.all) |>.trans (List.map_id _)
 rcases ho.2.2 with ⟨ha,hc,VS⟩ | ⟨b,cs,ha,VS,_⟩
 ·exact absurd VS hFn
 ·subst ha;subst VS;have RX:b≠H.size:=by
   have:=hF b (by simp);simp only [a1e] at this;omega
  have hbt:∀ x∈[hb,wb,tb,bb],x∉[b]:=fun x hx hn=>by
   simp only [a0A] at hn;have h1:=hF b (by simp);have h2:=hR.rep.lt x hx;simp only [a1e] at h1;omega
  have zw:l<4611686018427387904:=by
   have h1:r.all.length<=(r.oops+1).toNat:=Z5;omega
  refine ru (α:=jO r) Tryz.sortL (fun x=>x.1) (Ai r) ?_ ?_ ⟨_,Tryz.func284,rfl⟩ (enters_of Tryz.func285 (by kernel_rfl) rfl) (d:=d) (by rw [hd];exact ho) zw (fun x y H2 fa=>?_) fun H2 JN fa=>?_
  ·refine ⟨fun x=>?_,fun x y z h1 h2=>?_,fun x y z h1 h2=>?_⟩
   ·rw [nr];simp
   ·rw [nr] at *;simp at *;omega
   ·rw [nr] at *;simp at *;omega
  ·intro x y h1 h2;rw [nr] at h1 h2;simp at h1 h2;exact vj hw (by omega)
  ·have Jn:Raw H2 hb wb tb bb r.words.toNat (r.oops+1).toNat _:=(If.raw.keep hf (bU.nil_right _)).keep fa hbt;have Ue:aq H2 ⟨H.size,0,none⟩=some (QW hb):=(((bI.new H #[QW hb] 66).fr hf (by simp)).fr fa (by simp;omega)).cell 0;have TL:∀ z:jO r,0<=z.1∧z.1<=r.oops∧T z.1=gH r z.1∧-1<=gH r z.1∧gH r z.1<=r.words:=by
    intro z;have hz:0<=z.1∧z.1<=r.oops:=by
     rcases z.2 with h1 | h1
     ·cases ho:aT r.objs z.1 with
      | none=>exact absurd ho h1
      | some o =>
       have hg:=hw.objs.good o (aR ho).1;have h2:=hg.oop1;have h3:=hg.oop2;rw [(aR ho).2] at h2 h3;omega
     ·omega
    refine ⟨hz.1,hz.2,hR.sim.tab z.1 hz.1 hz.2,?_⟩;unfold gH;have X7:=hw.w0;cases ho:aT r.objs z.1 with
    | none=>simp;omega
    | some o =>
     have hg:=hw.objs.good o (aR ho).1;have h2:=hg.pl;have h3:=hg.fits;have h4:=o.len_pos;simp only;omega
   obtain ⟨x1,x2,x3,x4,x5⟩:=TL x;obtain ⟨y1,y2,y3,y4,y5⟩:=TL y;have JY:=hw.w1;show ag PP 285 #[ac x.1,ac y.1,.pointer (some ⟨H.size,0,none⟩)] _ H2;apply D1;dsimp only [ay,aK,aF,bc,ac,bf,aE,aI];simp only [ae,a0P,a0f,a0l,a0L,bh,aV,bx,bA,bi,bB,bt,aW,bv,bu,bg,bz,a06,a1a,a1d,aB,a0K,a0y,aM,aG,aY,a0p,a0C,bq,bn,Ue,Jn.c1,Jn.tabc (i:=x.1) (by omega) (by omega),Jn.tabc (i:=y.1) (by omega) (by omega)];refine ⟨by omega,by omega,by omega,by omega,?_⟩;rw [x3,y3,ao (by omega) (by omega)];rfl
  ·have hs:=vJ hw hd;rw [hs] at JN;refine ⟨rfl,h _ _ _ [b] H2 JN ⟨?_,fun x hx _=>?_⟩ (fun x hx=>?_)⟩
   ·exact a0O (OX.trans hf).1 fa.1
   ·rw [fa.2 x (a0X hx (OX.trans hf).1) (fun hn=>by
     simp only [a0A] at hn
     have:=hF b (by simp);simp only [a1e] at this;omega),(OX.trans hf).2 x hx (by simp)]
   ·have:=hF x hx;simp only [a1e] at this;omega
end
end Go.Proofs.YtgjfejoohojokaaGreatDoor
namespace Go.Proofs.YtgjfejoohojokaaGreatDoor
open Kw
section
variable {Q:QT}{H:au}
variable {a b c d A B D P:Option Addr}{i j k m n x y z I J K M N:Int}{l o r s u v L O R S U V:Nat}{t w T W:ByteArray}{e E g:Bool}{q:Option Nat}{p X Y Z:Value}{F G:Addr}
theorem PD (h:bk 27 #[am a] H fun b c=>ah b (Q (ac 2) c) (ah (aX i 0) (Q (ac 28) c) (aE a fun b=>aK c (b.add 2) fun _ b _=>ah (bP i (b:Int)) (Q (ac 28) c) (aE a fun b=>aK c (b.add 2) fun b _ d=>aE a fun e=>aK c (e.add 2) fun _ e _=>ax (aI ((e:Int)-i)) fun e=>((0:Int)<=e∧e<=(d:Int))∧aE a fun a=>bj c (a.add 2) (av b (Int.toNat e) d) fun a=>True∧Q (ac 0) a)))):ag PP 8 #[.pointer a,ac i] Q H :=
 okF Tryz.func8 rfl h
theorem MC (h:bk 27 #[am a] H fun b c=>ah b (Q (bJ #[ac 0,ac 0,ac 2]) c) (aE a fun b=>C6 c (b.add 3) fun b=>ah b (Q (bJ #[ac 0,ac 0,ac 25]) c) (aE a fun b=>aF c b fun d=>cq 29 #[am a] c fun a c e f=>((aq f b=some (am d)∧True)∧True)∧bW 28 #[am d,av a c e] f fun a b c d=>True∧Q (bJ #[ac a,ac b,ac c]) d))):ag PP 10 #[.pointer a] Q H :=
 okF Tryz.func10 rfl h
theorem Nw (h:ah (cD a) (Q (aP true) H) (aE a fun a=>aF H a fun a=>Q (aP (cD a)) H)):ag PP 27 #[.pointer a] Q H :=
 okF Tryz.func27 rfl h
theorem LZ (h:dM 82 #[am a,av b l o] H fun b c d e f=>ah (e != 0) (Q (bJ #[ac 0,ac 0,ac e]) f) (bW 83 #[am a,av b c d] f fun a b c d=>Q (bJ #[ac a,ac b,ac c]) d)):ag PP 28 #[.pointer a,.slice b l o] Q H :=
 okF Tryz.func28 rfl h
theorem MK (h:aE a fun b=>ay H (b.add 1) fun b=>ak 84 #[ac b] H fun b c d=>ah (c != 0) (aE a fun a=>aK d (a.add 2) fun a b c=>Q (av a b c) d) (aE a fun a=>ax (aJ d #[ac b] 26) fun b=>aK b (a.add 2) fun a c e=>bM (Builtin.append_ #[30,30] 30 #[av (some (aL d.size)) 1 1,av a c e]) b fun a b c d=>Q (av a b c) d)):ag PP 29 #[.pointer a] Q H :=
 okF Tryz.func29 rfl h
theorem B0 (h:bk 27 #[am a] H fun b c=>ah b (Q (am none) c) (aE a fun a=>aF c a fun a=>Q (am a) c)):ag PP 44 #[.pointer a] Q H :=
 okF Tryz.func44 rfl h
theorem NN (h:bk 27 #[am a] H fun b c=>ah b (Q (aA 0 0) c) (aE a fun b=>aF c b fun d=>cq 29 #[am a] c fun c e f g=>((aq g b=some (am d)∧True)∧True)∧dM 82 #[am d,av c e f] g fun b c d e f=>True∧ah (e != 0) (Q (aA 0 0) f) (aE a fun a=>aF f a fun a=>rZ 119 #[am a] f fun a e f g i j k=>ax (ac 0) fun l=>bj (aJ k #[l,l,l,av none 0 0] 176) (aL k.size) (ac a) fun a=>bj a (aN k.size 1) (ac e) fun a=>bj a (aN k.size 2) (ac f) fun a=>bj a (aN k.size 3) (av g i j) fun a=>ay a (aL k.size) fun e=>aK a (aN k.size 3) fun f g _=>js [ac e,l] a fun a e i j m n=>ah (aX n (g:Int)) (bf n g f fun f=>ax (bc f n 4) fun f=>ay j f fun g=>ay j (f.add 1) fun k=>ay j (f.add 2) fun o=>aK j (f.add 3) fun f p q=>bj (aJ j #[l,l,l,av none 0 0] 179) (aL j.size) (ac g) fun g=>bj g (aN j.size 1) (ac k) fun g=>bj g (aN j.size 2) (ac o) fun g=>bj g (aN j.size 3) (av f p q) fun f=>ay f (aL j.size) fun g=>kg 120 #[av b c d,ac g] f fun _ b c=>ax (ac (aI (n+1))) fun d=>ah b (aK c (aN j.size 3) fun _ b _=>ay c (aN j.size 2) fun f=>aC 121 #[ac (b:Int),ac f] c fun b c=>bm a e [ac (aI (m-b)),d] c i j) (bm a e [ac m,d] c i j)) (ay j (aN k.size 1) fun a=>Q (aA m (aI (a-(c:Int)))) j)))):ag PP 58 #[.pointer a] Q H :=
 okL Tryz.func58 rfl (fun | 9=>some [(7,3),(36,3)] | _=>none) h
theorem Me (h:bk 27 #[am a] H fun b c=>ah b (Q (av none 0 0) c) (aE a fun a=>aK c (a.add 2) fun a b d=>cq 124 #[av a b d] c fun a b c d=>cq 123 #[av a b c] d fun a b c d=>Q (av a b c) d)):ag PP 63 #[.pointer a] Q H :=
 okF Tryz.func63 rfl h
theorem Ml (h:fN 139 #[ac i,ac j] H fun a b c=>ah (b != 0) (Q (bJ #[am none,ac b]) c) (ax (ac 0) fun b=>Q (bJ #[am (some (aL c.size)),b]) (aJ c #[am a,b,av none 0 0,aP false,am none,b,b,b] 72))):ag PP 69 #[ac i,ac j] Q H :=
 okF Tryz.func69 rfl h
theorem M3 (h:bk 27 #[am a] H fun c d=>ah c (Q (ac 2) d) (bk 143 #[av b l o,.func (.func 144) #[] #[]] d fun c d=>ah c (Q (ac 10) d) (aE a fun c=>aK d (c.add 2) fun _ c _=>ah (bP (aI ((c:Int)+(l:Int))) 65536) (Q (ac 22) d) (aE a fun c=>aK d (c.add 2) fun c e f=>bM (Builtin.append_ #[30,30] 30 #[av c e f,av b l o]) d fun b c d e=>aE a fun a=>bj e (a.add 2) (av b c d) fun a=>Q (ac 0) a)))):ag PP 74 #[.pointer a,.slice b l o] Q H :=
 okF Tryz.func74 rfl h
theorem N7 (h:bk 27 #[am a] H fun b c=>ah b (Q (ac 2) c) (aE a fun b=>aF c b fun b=>ak 54 #[am b,ac i] c fun _ b c=>ah (b != 0) (Q (ac b) c) (aE a fun a=>bj c (a.add 1) (ac i) fun a=>Q (ac 0) a))):ag PP 76 #[.pointer a,ac i] Q H :=
 okF Tryz.func76 rfl h
def QV (a:Option Addr) (b:Option Addr) (l:Nat) (o:Nat) (Q:QT) (H:au):Prop :=
 ax (av none 0 0) fun c=>ah (cD a) (∀ a:au,lB H.size H a->Q (bJ #[c,ac 2]) a) (ax (H.push (.map #[] 0)) fun d=>ax (aL d.size) fun e=>ax (gS (some H.size)) fun f=>bj (aJ d #[gS none] 213) e f fun d=>ax (aL d.size) fun g=>ax (aJ d #[c] 25) fun d=>ax (aL d.size) fun i=>ax (am (some e)) fun j=>ax (am (some g)) fun k=>bj (aJ d #[.nilFunc] 214) i (.func (.func 164) #[] #[j,k]) fun d=>∃ m:List Value->au->Prop,∃ n:List Value->au->Nat,ax (ac 0) fun p=>m [p] d∧(∀ d q,m d q->∀ r:Nat->Value,∃ s,d=[ac s]∧ax (am a) fun a=>ah (aX s (l:Int)) (bf s l b fun b=>ay q (bc b s 1) fun b=>kg 165 #[a,ac b] q fun a b c=>ah b (nX c i (fun b e f=>fe b (e++#[ac a]++f) c fun a=>bm m n [ac (aI (s+1))] a d q)∨aq c i=some .nilFunc∧False) (bm m n [ac (aI (s+1))] c d q)) (QU [] q fun d m n q=>aK q g fun t u v=>ax (aP false) fun w=>ah (bP (u:Int) 0) (aK q g fun e x y=>aK q g fun z A B=>ax (aI ((A:Int)-1)) fun C=>bf C x e fun D=>ax (bc D C 1) fun D=>ay q D fun E=>aK q g fun F G I=>aK q g fun J K L=>ax (aI ((K:Int)-1)) fun M=>((0:Int)<=M∧M<=(I:Int))∧ax (av F (Int.toNat M) I) fun N=>bj q g N fun g=>ax (ac E) fun E=>iS 166 #[a,E] g fun g O P R=>∀ S:FuncId,ax (bJ #[]) fun T=>ax (pI PP 82 0) fun U=>A6 g (O++#[.func (.yield (R.size+1)) #[] #[]]++P) (fun _ a=>qg (R.size+1) (fun a=>bm d m [] a n q) (fun a=>∀ b:au,lB H.size a b->Q (bJ #[c,p]) b) [] a) ((R.push (.deferred (some []))).push (.loop (lV S #[a,av b l o,T,T,c,p,j,k,am (some i),T,r 10,r 11,r 12,E,T,T,T,a,w,f,.func (.func 164) #[] #[j,k],av b l o,ac (l:Int),ac s,w,r 25,r 26,r 27,r 28,r 29,r 30,r 31,r 32,r 33,r 34,r 35,r 36,r 37,av t u v,ac (u:Int),aP true,av e x y,av z A B,ac (A:Int),ac C,am (some D),E,av F G I,av J K L,ac (K:Int),ac M,N,a,E,.func (.func g) O P,T,T,T,T,T,T,T,T,T,T,T,T,T,T,T,T,T,T,T,T] U.1 U.2.1 U.2.2 R.size)))) (nZ q e fun a=>zz (Builtin.len_ #[213] 3 #[gS a]) q fun a b=>bM (Instr.makeSlice 25 p (ac a)) b fun a b c d=>nZ d e fun e=>pz (Instr.range 213 (gS e)) (fun d e=>Ph [av a b c] e fun a b c e f g i=>pz (Instr.next d false 0) (fun j k=>ax (av f g i) fun f=>j=bJ #[w]∧fe 167 #[f] k (fun a=>∀ b:au,lB H.size a b->Q (bJ #[f,p]) b)∨(∃ g i:Value,j=bJ #[aP true,g,i]∧pz (Instr.entry d) (fun d g=>∃ i,∃ j:Value,d=bJ #[ac i,j]∧bM (Builtin.append_ #[25,25] 25 #[f,av (some (aL g.size)) 1 1]) (aJ g #[ac i] 3) fun d f g i=>bm a b [av d f g] i c e) k)) e) d))))
theorem Mw {p1:Option Addr}{a2:Option Addr}{l2:Nat}{c2:Nat} (h:QV p1 a2 l2 c2 Q H):ag PP 82 #[.pointer p1,.slice a2 l2 c2] Q H :=
 Ad good Tryz.func82 rfl (Ls:=fun | 7=>some [(23,3)] | 13=>some [] | 21=>some [(15,25)] | _=>none) (mk:=true) (by kernel_rfl) h
def fE (l:Nat) (F:Addr) (i:Int) (Q:QT) (H:au):Prop :=
 ∃ a:Loop,H[l]?=some (.loop a)∧a.state=.ready∧ax (H.setIfInBounds l (.loop { a with state:=.busy })) fun a=>nX a F (fun b c d=>fe b (c++#[ac i]++d) a fun a=>∃ b:Loop,a[l]?=some (.loop b)∧Q (aP true) (a.setIfInBounds l (.loop { b with state:=.ready,pending:=none })))∨aq a F=some .nilFunc∧False
theorem jR {l:Nat}{fn:FuncId}{D:Nat}{Ya:Value}{Yb:Value}{Yc:Value}{Yd:Value}{Ye:Value}{Yf:Value}{Yg:Value}{Yh:Value}{q_8:Addr}{Yj:Value}{Yk:Value}{Yl:Value}{Ym:Value}{Yn:Value}{Yo:Value}{Yp:Value}{Yq:Value}{Yr:Value}{Ys:Value}{Yt:Value}{Yu:Value}{Yv:Value}{Yw:Value}{Yx:Value}{Yy:Value}{Yz:Value}{YA:Value}{YB:Value}{YC:Value}{YD:Value}{YE:Value}{YF:Value}{YG:Value}{YH:Value}{YI:Value}{YJ:Value}{YK:Value}{YL:Value}{YM:Value}{YN:Value}{YO:Value}{YP:Value}{YQ:Value}{YR:Value}{YS:Value}{YT:Value}{YU:Value}{YV:Value}{YW:Value}{YX:Value}{YY:Value}{YZ:Value}{Y0:Value}{Y1:Value}{Y3:Value}{Y4:Value}{Y5:Value}{Y6:Value}{Y7:Value}{Y8:Value}{Y9:Value}{Za:Value}{Zb:Value}{Zc:Value}{Zd:Value}{Ze:Value}{Zf:Value}{Zg:Value}{Zh:Value}{Zi:Value}{Zj:Value}{Zk:Value}{Zl:Value}{Zm:Value}{Zn:Value}{n1:Int} (hl:H[l]?=some (.loop (lV fn #[Ya,Yb,Yc,Yd,Ye,Yf,Yg,Yh,.pointer (some q_8),Yj,Yk,Yl,Ym,Yn,Yo,Yp,Yq,Yr,Ys,Yt,Yu,Yv,Yw,Yx,Yy,Yz,YA,YB,YC,YD,YE,YF,YG,YH,YI,YJ,YK,YL,YM,YN,YO,YP,YQ,YR,YS,YT,YU,YV,YW,YX,YY,YZ,Y0,Y1,Y3,Y4,Y5,Y6,Y7,Y8,Y9,Za,Zb,Zc,Zd,Ze,Zf,Zg,Zh,Zi,Zj,Zk,Zl,Zm,Zn] (pI PP 82 0).1 (pI PP 82 0).2.1 (pI PP 82 0).2.2 D))) (h:fE l q_8 n1 Q H):jK PP l #[ac n1] Q H :=
 xO good hl (by kernel_rfl) (by kernel_rfl) (Ls:=fun _=>none) (Ls':=fun _=>none) (by kernel_rfl) h
theorem Ko (h:ah (j == 1) (Q (ac (aI (2+aI (Int.tdiv (aI (i+3)) 4)))) H) (Q (ac (aI (2+i))) H)):ag PP 121 #[ac i,ac j] Q H :=
 okF Tryz.func121 rfl h
theorem Ku (h:aC 13 #[ac i] H fun a b=>Q (aP (a == 0)) b):ag PP 144 #[ac i] Q H :=
 okF Tryz.func144 rfl h
theorem Er (h:bk 27 #[am a] H fun b c=>ah b (Q (ac 2) c) (aE a fun b=>aF c b fun b=>aE a fun a=>ay c (a.add 1) fun a=>aC 148 #[am b,ac a,ac i,ac j] c fun a b=>True∧Q (ac a) b)):ag PP 162 #[.pointer a,ac i,ac j] Q H :=
 okF Tryz.func162 rfl h
theorem Hk (h:nZ H F fun a=>zz (Instr.lookup 213 (gS a) (ac i) false) H fun a b=>ah (a == 0) (nZ b F fun a=>cS (Instr.mapUpdate 213 (gS a) (ac i) (ac 1)) b fun a=>aK a G fun b c d=>bM (Builtin.append_ #[25,25] 25 #[av b c d,av (some (aL a.size)) 1 1]) (aJ a #[ac i] 3) fun a b c d=>bj d G (av a b c) fun a=>Q (bJ #[]) a) (Q (bJ #[]) b)):ag PP 164 #[ac i,.pointer (some F),.pointer (some G)] Q H :=
 okF Tryz.func164 rfl h
theorem K4 (h:ak 89 #[ac i] H fun b c d=>ah (c != 0) (Q (bJ #[ac 0,aP false]) d) (ak 54 #[am a,ac b] d fun _ a c=>Q (bJ #[ac b,aP (a == 0)]) c)):ag PP 165 #[.pointer a,ac i] Q H :=
 okF Tryz.func165 rfl h
theorem Ld (h:ax (aJ H #[am a] 66) fun a=>Q (.func (.func 280) #[] #[am (some (aL H.size)),am (some (aL a.size))]) (aJ a #[ac i] 3)):ag PP 166 #[.pointer a,ac i] Q H :=
 okF Tryz.func166 rfl h
theorem EY (h:ax (aL H.size) fun b=>ax (aJ H #[am a] 34) fun a=>aF a b fun c=>bk 27 #[am c] a fun a c=>ah a (Q (aA 0 2) c) (aF c b fun a=>aE a fun a=>aF c a fun a=>ak 338 #[.func (.func 72) #[am a] #[],ac i,ac j,ac k,.func (.func 339) #[] #[am (some b)]] c fun a b c=>ah (b != 0) (Q (aA 0 b) c) (ak 84 #[ac a] c fun a b c=>Q (aA a b) c))):ag PP 279 #[.pointer a,ac i,ac j,ac k] Q H :=
 okF Tryz.func279 rfl h
theorem Iq (h:aF H F fun a=>ay H G fun b=>ak 54 #[am a,ac b] H fun a b c=>ax (bJ #[]) fun d=>ah (b != 0) (Q d c) (mS (fun b=>aF c F fun e=>kg 165 #[am e,ac a] c fun a c e=>ah c (jK PP l #[ac a] (fun a c=>∃ e,a=aP e∧ah (!e) (Q d c) (b [] c)) e) (b [] e)) fun a=>aF a F fun b=>ay a G fun c=>bW 55 #[am b,ac c] a fun a b c e=>ah (c != 0) (Q d e) (ah (b != 0) (Q d e) (bX [ac 0] e fun b c e f g=>ah (aX g a) (aF f F fun a=>ay f G fun i=>ak 57 #[am a,ac i,ac g] f fun a i j=>ah (i != 0) (Q d j) (aF j F fun i=>kg 165 #[am i,ac a] j fun a i j=>ax (ac (aI (g+1))) fun g=>ah i (jK PP l #[ac a] (fun a i=>∃ j,a=aP j∧ah (!j) (Q d i) (bm b c [g] i e f)) j) (bm b c [g] j e f))) (Q d f))))):ag PP 280 #[.func (.yield l) #[] #[],.pointer (some F),.pointer (some G)] Q H :=
 okL Tryz.func280 rfl (fun | 1004=>some [] | 7=>some [(50,3)] | _=>none) h
theorem II {g0:Array Value}{h0:Array Value}{g4:Array Value}{h4:Array Value}(h:ak l (g0++#[ac i,ac j,ac k]++h0) H fun a b c=>ah (b == 23) (bk o (g4++#[]++h4) c fun c d=>ah c (ak l (g0++#[ac i,ac j,ac k]++h0) d fun a b c=>Q (aA a b) c) (Q (aA a b) d)) (Q (aA a b) c)):ag PP 338 #[.func (.func l) g0 h0,ac i,ac j,ac k,.func (.func o) g4 h4] Q H :=
 okF Tryz.func338 rfl h
theorem Dy (h:aF H F fun a=>bW 10 #[am a] H fun _ _ a b=>Q (aP (a == 0)) b):ag PP 339 #[.pointer (some F)] Q H :=
 okF Tryz.func339 rfl h
end
end Go.Proofs.YtgjfejoohojokaaGreatDoor
namespace Kw
section
open Go Go.Proofs Go.Shelf Go.Sort Go.RowKit
variable {P:Program}
theorem qY {ρ:Ren} (L:Lays.n189 P ρ) (hfn:∃ fn,P.funcs[ρ.f 189]?=some fn∧fn.body.isSome=true){b l c:Nat}{H:au}{zs:List Int}{Q:Value->au->Prop} (ho:bZ 1 H (some ⟨b,0,none⟩) l c (az zs) [b]) (zw:l<4611686018427387904)
  (h:∀ H',bZ 1 H' (some ⟨b,0,none⟩) l c (az (zs.mergeSort fun x y=>decide (x<=y))) [b]->Fr [b] H H'->Q (.tuple #[]) H'):ag P (ρ.f 189) #[.slice (some ⟨b,0,none⟩) l c] Q H:=by
 refine ⟨hfn,?_⟩;intro w hw;subst hw;rcases ho.2.2 with ⟨h0,_,_⟩ | ⟨b',cs,cj,_,⟨t,Sz⟩,hcs,lj⟩
 ·cases h0
 cases cj;have hl:l=zs.length:=by have:=ho.1;simpa [az] using this.symm
 subst hl;have HS:zs.length<=c:=ho.2.1;have an:b<w.heap.size:=(a1j.1 Sz).1;have hH:Go.Sort.Holds (Value.int .i64) w b 0 zs.toArray:=by
  intro j hj;have hj:j<zs.length:=by simpa using hj
  refine ⟨?_,?_⟩
  ·rw [a0K];have h1:(cs.toList.take (zs.length*1))[j]?=(az zs)[j]?:=by rw [lj]
   rw [a27 (by omega)] at h1;unfold World.cell?;simp only [Sz];show cs[j]?=_;rw [←a2C,h1];simp [az,hj]
  ·unfold World.frozen?;simp only [Sz];simp
 refine (Any.slices_Sort_int L b 0 c zs w hH an zw).mono ?_;rintro e w' ⟨rfl,n,os,rfl⟩;have hp:(putRow (Value.int .i64) (Sort.ahead w n) b 0 (zs.mergeSort fun x y=>decide (x<=y)).toArray).heap[b]?=some (.cells (putCells (Value.int .i64) 0 (zs.mergeSort fun x y=>decide (x<=y)).toArray cs) t (0,0)):=by
  simp only [putRow,mapBlock,a2a,if_true];show Option.map _ w.heap[b]?=_;rw [Sz];rfl
 have U0:(putRow (Value.int .i64) (Sort.ahead w n) b 0 (zs.mergeSort fun x y=>decide (x<=y)).toArray).heap.size=w.heap.size:=by simp [putRow,mapBlock,Sort.ahead]
 have hother:∀ b',b'≠b->(putRow (Value.int .i64) (Sort.ahead w n) b 0 (zs.mergeSort fun x y=>decide (x<=y)).toArray).heap[b']?=w.heap[b']?:=fun b' hn=>by
  simp only [putRow,mapBlock,a2a];rw [a0a (a3t hn)];rfl
 have o3:Fr [b] w.heap (grow (putRow (Value.int .i64) (Sort.ahead w n) b 0 (zs.mergeSort fun x y=>decide (x<=y)).toArray) os).heap:=by
  refine ⟨?_,fun b' k9 hn=>?_⟩
  ·simp only [Sort.grow,a3y];rw [U0];exact a3V _ _
  ·simp only [Sort.grow];rw [a2Y (by rw [U0];exact k9)];exact hother b' (by simpa using hn)
 have Wm:(grow (putRow (Value.int .i64) (Sort.ahead w n) b 0 (zs.mergeSort fun x y=>decide (x<=y)).toArray) os).heap[b]?=some (.cells (putCells (Value.int .i64) 0 (zs.mergeSort fun x y=>decide (x<=y)).toArray cs) t (0,0)):=by
  simp only [Sort.grow];rw [a2Y (by rw [U0];exact an)];exact hp
 refine ⟨_,rfl,h _ ⟨by simp [az,a2H],HS,.inr ⟨b,_,rfl,rfl,⟨t,Wm⟩,by simp [putCells,hcs],?_⟩⟩ o3,rfl,rfl,rfl,?_,o3.1,fun b' ds k9=>?_⟩
 ·apply a2V
  ·simp [az,putCells,a2H];omega
  ·intro j h1 h2;have hj:j<zs.length:=by simpa [az,a2H] using h2
   have JD:j<(zs.mergeSort fun x y=>decide (x<=y)).length:=by rw [a2H];exact hj
   simp only [a3M,az,a3e,Array.getElem_toList,putCells,Array.getElem_mapIdx,a07,a1a,a0K,a1D,a2H,hj,if_true,a3Z]
   congr 1
   rw [List.getElem!_toArray,a34,a0Q JD];rfl
 ·show w.drawn<=w.drawn+n;omega
 ·have b9:b'<w.heap.size:=(a1j.1 k9).1;have ic:b'≠b:=fun e=>by subst e;rw [Sz] at k9;cases k9
  exact (o3.2 b' b9 (by simpa using ic)).trans k9
end
end Kw
namespace Kw
open Go
def fB (P:Program) (t:TypeId):Option (TypeDesc × Option Value) :=
 match P.underlying t with
 | some (.map k e)=>match P.underlying k,P.info? e with
  | some d,some i=>some (d,i.zero)
  | _,_=>none
 | _=>none
inductive Key
 | str (s:ByteArray)
 | int (n:Int)
deriving DecidableEq
def Key.v:Key->Value
 | .str s=>.string s
 | .int n=>.int .i64 n
def Key.of:TypeDesc->Key->Prop
 | .string,.str _=>True
 | .int _,.int _=>True
 | _,_=>False
def EJ (ents:Array MapEntry) (clock:Nat):Prop:=(ents.toList.map (·.born)).Nodup∧∀ e∈ents.toList,e.born<clock
def eH (H:au) (r:Nat) (es:List (Key × Value)):Prop:=∃(ents:Array MapEntry) (clock:Nat),H[r]?=some (.map ents clock)∧ents.toList.map (fun e=>(e.key,e.val))=es.map (fun p=>(p.1.v,p.2))∧EJ ents clock
theorem eH.new (H:au):eH (H.push (.map #[] 0)) H.size []:=⟨#[],0,by simp,rfl,by simp [EJ]⟩
theorem eH.lt {H:au}{r:Nat}{es:List (Key × Value)} (h:eH H r es):r<H.size:=by
 obtain ⟨ents,clock,hr,_⟩:=h;exact (a1j.1 hr).1
theorem eH.of_eq {H H':au}{r:Nat}{es:List (Key × Value)} (h:eH H r es) (he:H'[r]?=H[r]?):eH H' r es:=by
 obtain ⟨ents,clock,hr,h2⟩:=h;exact ⟨ents,clock,he.trans hr,h2⟩
theorem eH.fr {H H':au}{G:aS}{r:Nat}{es:List (Key × Value)} (h:eH H r es) (hf:Fr G H H') (hn:r∉G):eH H' r es:=h.of_eq (hf.2 r h.lt hn)
def eC:List (Key × Value)->Key->Option Value
 | [],_=>none
 | p :: l,k=>if k=p.1 then some p.2 else eC l k
theorem tp (a b:ByteArray):(a == b)=true↔a=b:=by
 obtain ⟨x⟩:=a;obtain ⟨y⟩:=b;show (x == y)=true↔_;simp
theorem wm {d:TypeDesc}{k k':Key} (h:k.of d) (h':k'.of d):Instr.sameNow d k.v k'.v=some (decide (k=k')):=by
 cases d <;> cases k <;> cases k' <;> simp_all [Key.of,Key.v,Instr.sameNow] <;> (rw [a2L];simp [tp])
def iu:List (Key × Value)->Key->Option Nat
 | [],_=>none
 | p :: l,k=>if k=p.1 then some 0 else (iu l k).map (·+1)
theorem gj {es:List (Key × Value)}{k:Key}:iu es k=none↔eC es k=none:=by
 induction es with
 | nil=>simp [iu,eC]
 | cons p l ih =>
  unfold iu eC;by_cases h:k=p.1
  ·simp [h]
  ·rw [a0a h,a0a h];simpa using ih
theorem oW {d:TypeDesc}{k:Key} (hk:k.of d):∀ (ents:List MapEntry) (es:List (Key × Value)) (i:Nat),ents.map (fun e=>(e.key,e.val))=es.map (fun p=>(p.1.v,p.2))->(∀ p∈es,p.1.of d) ->
  Instr.findNow d k.v ents i=some (match iu es k,eC es k with
   | some j,some v=>some (i+j,v)
   | _,_=>none)
 | [],[],i,_,_=>rfl
 | [],_ :: _,_,h,_=>by simp at h
 | _ :: _,[],_,h,_=>by simp at h
 | e :: ents,p :: es,i,h,ho=>by
  simp only [a2k,List.cons.injEq,Prod.mk.injEq] at h;obtain ⟨⟨h1,h2⟩,h3⟩:=h;unfold Instr.findNow;rw [h1,wm hk (ho p (by simp))];unfold iu eC;by_cases VN:k=p.1
  ·simp [VN,h2]
  ·have ih:=oW hk ents es (i+1) h3 fun q hq=>ho q (by simp [hq]);simp only [VN,decide_false,if_false];rw [ih];cases h4:iu es k with
   | none=>simp
   | some j =>
    cases h5:eC es k with
    | none=>exact absurd (gj.2 h5) (by rw [h4];simp)
    | some v=>simp;omega
section
variable {P:Program}{H:au}
theorem iW {t:TypeId}{d:TypeDesc}{k:Key}{e:Bool}{Q:Unit->au->Prop} (hu:P.underlying t=some d) (hk:k.of d) (h:Q () H):cB P (Instr.checkKey e 10000 t k.v) Q H:=by
 unfold Instr.checkKey;refine aH (bF hu ?_);cases d <;> cases k <;> simp_all [Key.of,Key.v] <;> exact h
theorem jA {t:TypeId}{d:TypeDesc}{k:Key}{ents:Array MapEntry}{es:List (Key × Value)}{Q:Option (Nat × Value)->au->Prop} (hu:P.underlying t=some d) (hk:k.of d) (he:ents.toList.map (fun e=>(e.key,e.val))=es.map fun p=>(p.1.v,p.2)) (ho:∀ p∈es,p.1.of d)
  (h:Q (match iu es k,eC es k with
   | some j,some v=>some (j,v)
   | _,_=>none) H):cB P (Instr.findKey t k.v ents.toList) Q H:=by
 unfold Instr.findKey;refine aH (bF hu ?_);rw [oW hk _ _ 0 he ho];cases h4:iu es k with
 | none=>rw [h4] at h;exact h
 | some j =>
  cases h5:eC es k with
  | none=>rw [h4,h5] at h;exact h
  | some v=>rw [h4,h5] at h;show Q (some (0+j,v)) H;rw [a0K];exact h
theorem fR {T:TypeId}{d:TypeDesc}{z:Option Value} (h:fB P T=some (d,z)):∃ k e i,P.underlying T=some (.map k e)∧P.underlying k=some d∧P.info? e=some i∧i.zero=z:=by
 unfold fB at h;split at h
 ·rename_i k e hu;split at h
  ·rename_i d' i h1 h2;cases h;exact ⟨k,e,i,hu,h1,h2,rfl⟩
  ·cases h
 ·cases h
theorem mL {T:TypeId}{d:TypeDesc}{z:Value}{r:Nat}{k:Key}{es:List (Key × Value)}{ok:Bool}{Q:Value->au->Prop} (hi:fB P T=some (d,some z)) (hk:k.of d) (ho:∀ p∈es,p.1.of d) (hm:eH H r es)
  (h:Q (if ok then .tuple #[(eC es k).getD z,.bool (eC es k).isSome] else (eC es k).getD z) H):cB P (Instr.lookup T (.map (some r)) k.v ok) Q H:=by
 obtain ⟨kt,et,i,hu,J6,RA,hz⟩:=fR hi;obtain ⟨ents,clock,hr,he,I2⟩:=hm;unfold Instr.lookup;refine aH (bF hu ?_);refine aH ?_;refine (⟨_,hr,rfl,?_⟩:∃ o,H[r]?=some o∧dZ o=false∧_);refine aH (fg ?_);refine aH (iW J6 hk ?_);refine aH (jA J6 hk he ho ?_);cases h5:eC es k with
 | none =>
  rw [gj.2 h5];rw [h5] at h;exact aH (eA RA hz h)
 | some v =>
  cases h4:iu es k with
  | none=>rw [gj.1 h4] at h5;cases h5
  | some j=>rw [h5] at h;exact h
theorem jH {α β:Type} (f:α->β):∀ (l:List α) (j:Nat),(l.eraseIdx j).map f=(l.map f).eraseIdx j
 | [],_=>rfl
 | _ :: _,0=>rfl
 | x :: l,j+1=>by simp [jH f l j]
def oR:List (Key × Value)->Key->Value->List (Key × Value)
 | [],k,v=>[(k,v)]
 | p :: l,k,v=>if k=p.1 then (k,v) :: l else p :: oR l k v
def rC:List (Key × Value)->Key->List (Key × Value)
 | [],_=>[]
 | p :: l,k=>if k=p.1 then l else p :: rC l k
theorem zH (es:List (Key × Value)) (k k':Key) (v:Value):eC (oR es k v) k'=if k'=k then some v else eC es k':=by
 induction es with
 | nil=>simp [oR,eC]
 | cons p l ih =>
  unfold oR;by_cases h:k=p.1
  ·rw [a0b h];unfold eC;by_cases h2:k'=k
   ·simp [h2]
   ·simp only [h2,if_false];rw [a0a (fun e=>h2 (e.trans h.symm))]
  ·rw [a0a h];unfold eC;by_cases h2:k'=p.1
   ·rw [a0b h2,a0b h2,a0a (fun e=>h (e.symm.trans h2))]
   ·rw [a0a h2,a0a h2];exact ih
theorem lN {es:List (Key × Value)}{k:Key}{v:Value} (h:iu es k=none):oR es k v=es++[(k,v)]:=by
 induction es with
 | nil=>rfl
 | cons p l ih =>
  unfold iu at h;unfold oR;by_cases hk:k=p.1
  ·rw [a0b hk] at h;cases h
  ·rw [a0a hk] at h ⊢;rw [ih (by simpa using h)];rfl
theorem sy {es:List (Key × Value)}{k:Key}{v:Value}{j:Nat} (h:iu es k=some j):oR es k v=es.set j (k,v)∧j<es.length:=by
 induction es generalizing j with
 | nil=>cases h
 | cons p l ih =>
  unfold iu at h;unfold oR;by_cases hk:k=p.1
  ·rw [a0b hk] at h ⊢;cases h;simp
  ·rw [a0a hk] at h ⊢;cases h4:iu l k with
   | none=>rw [h4] at h;cases h
   | some i =>
    rw [h4] at h;cases h
    have:=ih h4;exact ⟨by rw [this.1];rfl,by simp;exact this.2⟩
theorem Ak {es:List (Key × Value)}{k:Key}{j:Nat} (h:iu es k=some j):rC es k=es.eraseIdx j:=by
 induction es generalizing j with
 | nil=>cases h
 | cons p l ih =>
  unfold iu at h;unfold rC;by_cases hk:k=p.1
  ·rw [a0b hk] at h ⊢;cases h;rfl
  ·rw [a0a hk] at h ⊢;cases h4:iu l k with
   | none=>rw [h4] at h;cases h
   | some i =>
    rw [h4] at h;cases h;rw [ih h4];rfl
theorem Ab {es:List (Key × Value)}{k:Key} (h:iu es k=none):rC es k=es:=by
 induction es with
 | nil=>rfl
 | cons p l ih =>
  unfold iu at h;unfold rC;by_cases hk:k=p.1
  ·rw [a0b hk] at h;cases h
  ·rw [a0a hk] at h ⊢;rw [ih (by simpa using h)]
theorem oE {k:Key}{Q:Value->au->Prop} (h:Q k.v H):cB P (Instr.keyThatStays k.v k.v) Q H:=by
 unfold Instr.keyThatStays
 have:Instr.sameBits 10000 k.v k.v=true:=by
  cases k with
  | str s=>show (s == s)=true;rw [tp]
  | int n=>simp [Key.v,Instr.sameBits]
 rw [a0b this];exact h
theorem GH {es:List (Key × Value)}{k:Key}{j:Nat} (h:iu es k=some j):∃ v,es[j]?=some (k,v):=by
 induction es generalizing j with
 | nil=>cases h
 | cons p l ih =>
  unfold iu at h;by_cases hk:k=p.1
  ·rw [a0b hk] at h;cases h;exact ⟨p.2,by simp [hk]⟩
  ·rw [a0a hk] at h;cases h4:iu l k with
   | none=>rw [h4] at h;cases h
   | some i =>
    rw [h4] at h;cases h;simpa using ih h4
theorem jF {T:TypeId}{d:TypeDesc}{z:Option Value}{r:Nat}{k:Key}{v:Value}{es:List (Key × Value)}{Q:Unit->au->Prop} (hi:fB P T=some (d,z)) (hk:k.of d) (ho:∀ p∈es,p.1.of d) (hm:eH H r es)
  (h:∀ H',eH H' r (oR es k v)->Fr [r] H H'->Q () H'):cB P (Instr.mapUpdate T (.map (some r)) k.v v) Q H:=by
 obtain ⟨kt,et,i,hu,J6,RA,hz⟩:=fR hi;obtain ⟨ents,clock,hr,he,I2⟩:=hm;have X9:r<H.size:=(a1j.1 hr).1;have Jt:∀ o:Obj,Fr [r] H (H.setIfInBounds r o)∧(H.setIfInBounds r o)[r]?=some o:=fun o =>
  ⟨⟨by simp,fun b _ hn=>by rw [a3z,a0a (by simp only [a0A] at hn;exact fun e=>hn e.symm)]⟩,by simp [X9]⟩
 unfold Instr.mapUpdate;refine aH (bF hu ?_);refine aH ?_;refine (⟨_,hr,rfl,?_⟩:∃ o,H[r]?=some o∧dZ o=false∧_);refine aH (iW J6 hk ?_);refine aH (jA J6 hk he ho ?_);cases h4:iu es k with
 | none =>
  refine (⟨⟨_,hr,rfl⟩,?_⟩:(∃ o',H[r]?=some o'∧dZ o'=false)∧_);refine h _ ⟨_,_,(Jt _).2,?_,?_⟩ (Jt _).1
  ·rw [lN h4];simp [he]
  ·refine ⟨?_,fun e hmem=>?_⟩
   ·rw [a4o,a2m,a23];refine ⟨I2.1,by simp,fun a ha b hb Tl=>?_⟩;obtain ⟨e,hmem,rfl⟩:=a1n.1 ha
    have:=I2.2 e hmem;simp only [a2k,a26,a0A] at hb;omega
   ·rw [a4o] at hmem;rcases a0T.1 hmem with hmem | hmem
    ·have:=I2.2 e hmem;omega
    ·simp only [a0A] at hmem;subst hmem;exact Nat.lt_succ_self _
 | some j =>
  cases h5:eC es k with
  | none=>rw [gj.2 h5] at h4;cases h4
  | some w =>
   have Uf:=sy (v:=v) h4;have hlen:ents.size=es.length:=by have:=congrArg List.length he;simpa using this
   have OR:j<ents.size:=by omega
   obtain ⟨u,Jd⟩:=GH h4;have a0e:ents[j].key=k.v:=by
    have h6:(ents.toList.map fun e=>(e.key,e.val))[j]?=(es.map fun p=>(p.1.v,p.2))[j]?:=by rw [he]
    rw [a2s,a2s,Jd] at h6;simp [OR] at h6;exact h6.1
   refine aH ?_;have hg:((ents[j]?).map (·.key)).getD k.v=k.v:=by simp [OR,a0e]
   rw [hg];refine oE ?_;refine (⟨⟨_,hr,rfl⟩,?_⟩:(∃ o',H[r]?=some o'∧dZ o'=false)∧_);have hbm:EJ (ents.modify j fun e=>{ e with key:=k.v,val:=v }) clock:=by
    have D0:(ents.modify j fun e=>{ e with key:=k.v,val:=v }).toList.map (·.born)=ents.toList.map (·.born):=by
     apply a3O;intro q;rw [a2s,a2s,a2C,a2C,a2a];split
     ·rename_i e;subst e;cases ents[j]? <;> rfl
     ·rfl
    refine ⟨by rw [D0];exact I2.1,fun e hmem=>?_⟩
    have:e.born∈ents.toList.map (·.born):=by rw [←D0];exact a1n.2 ⟨e,hmem,rfl⟩
    obtain ⟨e',h1,h2⟩:=a1n.1 this;rw [←h2];exact I2.2 e' h1
   refine h _ ⟨_,clock,(Jt _).2,?_,hbm⟩ (Jt _).1;rw [Uf.1];apply a3O;intro q;rw [a2s,a2s,a2C,a2a,a3N];have h6:(ents.toList.map fun e=>(e.key,e.val))[q]?=(es.map fun p=>(p.1.v,p.2))[q]?:=by rw [he]
   rw [a2s,a2s,a2C] at h6;by_cases hjq:j=q
   ·subst hjq;simp [OR,Uf.2]
   ·rw [a0a hjq,a0a hjq];exact h6
theorem ye {T:TypeId}{d:TypeDesc}{z:Option Value}{a1 T0:TypeId}{r:Nat}{k:Key}{es:List (Key × Value)}{Q:Value->au->Prop} (hi:fB P T=some (d,z)) (hk:k.of d) (ho:∀ p∈es,p.1.of d) (hm:eH H r es)
  (h:∀ H',eH H' r (rC es k)->Fr [r] H H'->Q (.tuple #[]) H'):cB P (Builtin.delete_ #[T,a1] T0 #[.map (some r),k.v]) Q H:=by
 obtain ⟨kt,et,i,hu,J6,RA,hz⟩:=fR hi;obtain ⟨ents,clock,hr,he,I2⟩:=hm;have X9:r<H.size:=(a1j.1 hr).1;have Jt:∀ o:Obj,Fr [r] H (H.setIfInBounds r o)∧(H.setIfInBounds r o)[r]?=some o:=fun o =>
  ⟨⟨by simp,fun b _ hn=>by rw [a3z,a0a (by simp only [a0A] at hn;exact fun e=>hn e.symm)]⟩,by simp [X9]⟩
 unfold Builtin.delete_;refine aH (bF hu ?_);refine aH ?_;refine (⟨_,hr,rfl,?_⟩:∃ o,H[r]?=some o∧dZ o=false∧_);refine aH (iW J6 hk ?_);refine aH (jA J6 hk he ho ?_);cases h4:iu es k with
 | none =>
  refine aH ?_;refine (⟨⟨_,hr,rfl⟩,?_⟩:(∃ o',H[r]?=some o'∧dZ o'=false)∧_);refine h _ ⟨ents,clock,(Jt _).2,?_,I2⟩ (Jt _).1;rw [Ab h4];exact he
 | some j =>
  cases h5:eC es k with
  | none=>rw [gj.2 h5] at h4;cases h4
  | some v =>
   refine aH ?_;refine (⟨⟨_,hr,rfl⟩,?_⟩:(∃ o',H[r]?=some o'∧dZ o'=false)∧_);have ff:(ents.eraseIdxIfInBounds j).toList.Sublist ents.toList:=by
    rw [Array.eraseIdxIfInBounds];split
    ·rw [Array.toList_eraseIdx];exact List.eraseIdx_sublist _ _
    ·exact a4p _
   refine h _ ⟨_,clock,(Jt _).2,?_,I2.1.sublist (ff.map _),fun e hmem=>I2.2 e (ff.subset hmem)⟩ (Jt _).1;rw [Ak h4];have hlen:ents.size=es.length:=by have:=congrArg List.length he;simpa using this
   have OR:=(sy (v:=v) h4).2;rw [Array.eraseIdxIfInBounds,dif_pos (by omega),Array.toList_eraseIdx,jH,jH,he]
theorem xX {T T0:TypeId}{d:TypeDesc}{z:Option Value}{r:Nat}{es:List (Key × Value)}{Q:Value->au->Prop} (hi:fB P T=some (d,z)) (hm:eH H r es) (h:Q (.int .i64 (es.length:Int)) H):cB P (Builtin.len_ #[T] T0 #[.map (some r)]) Q H:=by
 obtain ⟨kt,et,i,hu,J6,RA,hz⟩:=fR hi;obtain ⟨ents,clock,hr,he,I2⟩:=hm;unfold Builtin.len_;refine aH (bF hu ?_);refine aH ?_;refine (⟨_,hr,rfl,?_⟩:∃ o,H[r]?=some o∧dZ o=false∧_);have hlen:ents.size=es.length:=by have:=congrArg List.length he;simpa using this
 show Q (goInt ents.size) H;rw [hlen];exact h
def iO (H:au) (b r:Nat) (es done:List (Key × Value)):Prop:=∃(ents:Array MapEntry) (clock:Nat) (seen:Array Nat) (ds rest:List MapEntry),H[r]?=some (.map ents clock)∧ents.toList.map (fun e=>(e.key,e.val))=es.map (fun p=>(p.1.v,p.2))∧EJ ents clock ∧
 H[b]?=some (.mapIter (some r) clock seen clock)∧seen.toList=ds.map (·.born)∧(ds++rest).Perm ents.toList∧ds.map (fun e=>(e.key,e.val))=done.map (fun p=>(p.1.v,p.2))
theorem Key.v_inj {k k':Key} (h:k.v=k'.v):k=k':=by
 cases k <;> cases k' <;> simp_all [Key.v]
theorem xq {l l':List (Key × Value)} (h:(l.map fun p=>(p.1.v,p.2)).Perm (l'.map fun p=>(p.1.v,p.2))):l.Perm l':=by
 induction l generalizing l' with
 | nil=>have:=h.length_eq;simp at this;have:l'=[]:=a1o this.symm;rw [this]
 | cons p l ih =>
  have hmem:(p.1.v,p.2)∈l'.map (fun p=>(p.1.v,p.2)):=h.subset (by simp);obtain ⟨q,hq,he⟩:=a1n.1 hmem;simp only [Prod.mk.injEq] at he;have hqp:q=p:=Prod.ext (Key.v_inj he.1) he.2;subst hqp;obtain ⟨s,t,rfl⟩:=a4h hq;refine (List.Perm.cons q (ih ?_)).trans (a4x.symm);have h2:(q :: l).map (fun p=>(p.1.v,p.2)) |>.Perm ((q :: (s++t)).map fun p=>(p.1.v,p.2)):=h.trans (a3R _ a4x)
  simpa using List.Perm.cons_inv h2
theorem iO.len {b r:Nat}{es done:List (Key × Value)} (h:iO H b r es done):done.length<=es.length:=by
 obtain ⟨ents,clock,seen,ds,rest,_,he,_,_,_,hp,hd⟩:=h;have h1:=hp.length_eq;have h2:=congrArg List.length he;have h3:=congrArg List.length hd;simp only [a1p,a1h] at h1 h2 h3;omega
theorem iO.fr {H':au}{G:aS}{b r:Nat}{es done:List (Key × Value)} (h:iO H b r es done) (hf:Fr G H H') (hb:b∉G) (hr:r∉G):iO H' b r es done:=by
 obtain ⟨ents,clock,seen,ds,rest,h1,h2,h3,h4,h5⟩:=h;exact ⟨ents,clock,seen,ds,rest,(hf.2 r (a1j.1 h1).1 hr).trans h1,h2,h3,(hf.2 b (a1j.1 h4).1 hb).trans h4,h5⟩
theorem iO.map {b r:Nat}{es done:List (Key × Value)} (h:iO H b r es done):eH H r es:=by
 obtain ⟨ents,clock,seen,ds,rest,h1,h2,h3,_⟩:=h;exact ⟨ents,clock,h1,h2,h3⟩
theorem ug {T:TypeId}{d:TypeDesc}{z:Option Value}{r:Nat}{es:List (Key × Value)}{Q:Value->au->Prop} (hi:fB P T=some (d,z)) (hm:eH H r es)
  (h:∀ H',iO H' H.size r es []->Fr [] H H'->Q (.pointer (some ⟨H.size,0,none⟩)) H'):cB P (Instr.range T (.map (some r))) Q H:=by
 obtain ⟨kt,et,i,hu,J6,RA,hz⟩:=fR hi;obtain ⟨ents,clock,hr,he,I2⟩:=hm;have an:r<H.size:=(a1j.1 hr).1;unfold Instr.range;refine aH ?_;refine aH (bF hu ?_);refine aH ?_;refine (⟨_,hr,rfl,?_⟩:∃ o,H[r]?=some o∧dZ o=false∧_);show Q (.pointer (some ⟨H.size,0,none⟩)) (H.push (.mapIter (some r) clock #[] clock));refine h _ ⟨ents,clock,#[],[],ents.toList,?_,he,I2,by simp,rfl,by simp,rfl⟩ (Fr.push [] H _);rw [a2D,a0a (by omega)];exact hr
theorem wx {T0:TypeId}{b r:Nat}{es done:List (Key × Value)}{Q:Value->au->Prop} (hm:iO H b r es done) (h0:done.Perm es->Q (.tuple #[.bool false]) H)
  (h1:∀ p H',p∈es->iO H' b r es (done++[p])->Fr [b] H H'->Q (.tuple #[.bool true,p.1.v,p.2]) H'):cB P (Instr.next (.pointer (some ⟨b,0,none⟩)) false T0) Q H:=by
 obtain ⟨ents,clock,seen,ds,rest,hr,he,I2,hb,hs,hp,hd⟩:=hm;have D0:b<H.size:=(a1j.1 hb).1;have hbr:b≠r:=fun e=>by subst e;rw [hr] at hb;cases hb
 unfold Instr.next;refine aH ?_;refine (⟨_,hb,rfl,?_⟩:∃ o,H[b]?=some o∧dZ o=false∧_);refine aH ?_;refine (⟨_,hr,rfl,?_⟩:∃ o,H[r]?=some o∧dZ o=false∧_);refine fg ?_;have a0g:(!seen.isEmpty && !ents.isEmpty && ents.all fun x=>decide (x.born ≥ clock))=false:=by
  by_cases JI:ents.isEmpty=true
  ·simp [JI]
  ·have In:0<ents.size:=by
    rcases a4i ents.size with h | h
    ·exact absurd (by simp [Array.isEmpty,h]) JI
    ·exact h
   have:ents.all (fun x=>decide (x.born ≥ clock))=false:=by
    rw [Bool.eq_false_iff];intro b8;have h2:=(Array.all_eq_true.1 b8) 0 In;have h3:=I2.2 ents[0] (by simp);have h4:ents[0].born ≥ clock:=by simpa using h2
    omega
   rw [this,Bool.and_false]
 simp only [a0g,a1M,if_false,ge_iff_le];obtain ⟨left,Ug⟩:∃ left:Array MapEntry,left=ents.filter fun e=>!seen.contains e.born:=⟨_,rfl⟩;rw [←Ug];have hlm:∀ e,e∈left.toList↔e∈rest:=by
  intro e;rw [Ug,Array.toList_filter,a2l];have hnd:((ds++rest).map (·.born)).Nodup:=(a3R _ hp).nodup_iff.2 I2.1;rw [a2m,a23] at hnd;constructor
  ·rintro ⟨h2,h3⟩;rcases a0T.1 (hp.symm.subset h2) with h4 | h4
   ·exfalso
    have:e.born∈seen:=by rw [←Array.mem_toList_iff,hs];exact a1n.2 ⟨e,h4,rfl⟩
    simp [this] at h3
   ·exact h4
  ·intro h2;refine ⟨hp.subset (by simp [h2]),?_⟩
   have:e.born∉seen:=fun Jk=>by
    rw [←Array.mem_toList_iff,hs] at Jk;obtain ⟨e',h4,h5⟩:=a1n.1 Jk;exact hnd.2.2 _ (a1n.2 ⟨e',h4,rfl⟩) _ (a1n.2 ⟨e,h2,rfl⟩) h5
   simp [this]
 have OK:left.filter (fun e=>decide (e.born<clock))=left:=by
  rw [Array.filter_eq_self];intro e hmem;have h2:=(hlm e).1 (by simpa using hmem);exact a00 (I2.2 e (hp.subset (by simp [h2])))
 have Se:left.filter (fun e=>decide (clock<=e.born))=#[]:=by
  rw [Array.filter_eq_empty_iff];intro e hmem;have h2:=(hlm e).1 (by simpa using hmem)
  have:=I2.2 e (hp.subset (by simp [h2]));simp;omega
 rw [OK,Se];have key:∀ (cands:Array (Option MapEntry)) (i:Nat),(i<cands.size)->(cands=if left.isEmpty then #[none] else left.map some)->cB P (match cands[i]? with
   | some (some e)=>do
    setObj b (.mapIter (some r) clock (seen.push e.born) clock)
    pure (.tuple #[.bool true,e.key,e.val])
   | some none=>pure (.tuple #[.bool false])
   | none => stuck "Next: no such candidate") Q H := by
  intro cands i hi hc;by_cases JI:left.isEmpty=true
  ·rw [a0b JI] at hc;subst hc;simp only [a1D,a1b,a1s,a0K,Nat.lt_one_iff] at hi;subst hi;refine h0 ?_;have Wn:rest=[]:=by
    cases rest with
    | nil=>rfl
    | cons e rest =>
     have:=(hlm e).2 (by simp);simp [Array.isEmpty_iff.1 JI] at this
   subst Wn;rw [a2S] at hp;have h2:=a3R (fun e:MapEntry=>(e.key,e.val)) hp;rw [hd,he] at h2;exact xq h2
  ·rw [a0a JI] at hc;subst hc;have ui:i<left.size:=by simpa using hi
   have hmem:left[i]∈rest:=(hlm _).1 (by simp);obtain ⟨s,t,s8⟩:=a4h hmem;have JF:(left.map some)[i]?=some (some left[i]):=by simp [ui]
   rw [JF];have Jk:left[i]∈ents.toList:=hp.subset (by simp [hmem]);have U1:(left[i].key,left[i].val)∈es.map (fun p=>(p.1.v,p.2)):=by rw [←he];exact a1n.2 ⟨_,Jk,rfl⟩
   obtain ⟨p,hpm,Wo⟩:=a1n.1 U1;simp only [Prod.mk.injEq] at Wo;refine aH ?_;refine (⟨⟨_,hb,rfl⟩,?_⟩:(∃ o',H[b]?=some o'∧dZ o'=false)∧_);show Q (.tuple #[.bool true,left[i].key,left[i].val]) (H.setIfInBounds b (.mapIter (some r) clock (seen.push left[i].born) clock));rw [←Wo.1,←Wo.2];refine h1 p _ hpm ⟨ents,clock,seen.push left[i].born,ds++[left[i]],s++t,?_,he,I2,by simp [D0],?_,?_,?_⟩ ⟨by simp,fun b' _ hn=>?_⟩
   ·rw [a1Z hbr];exact hr
   ·rw [a4o,hs,a2m];rfl
   ·refine List.Perm.trans ?_ hp;rw [s8,a18];exact List.Perm.append_left ds (by simpa using (a4x (l₁:=s) (l₂:=t) (a:=left[i])).symm)
   ·rw [a2m,a2m,hd];simp [Wo.1,Wo.2]
   ·rw [a1Z (fun e=>hn (by simp [e]))]
 have hcands:(if left.isEmpty=true then #[none] else #[])++Array.map some (left++#[])=if left.isEmpty then #[none] else left.map some:=by
  by_cases JI:left.isEmpty=true
  ·rw [a0b JI,a0b JI,Array.isEmpty_iff.1 JI];simp
  ·rw [a0a JI,a0a JI];simp
 have In:0<(if left.isEmpty=true then #[none] else left.map some).size:=by
  split
  ·simp
  ·rename_i JI;rcases a4i left.size with h | h
   ·exact absurd (by simp [Array.isEmpty,h]) JI
   ·simpa using h
 obtain ⟨cands,hc⟩:∃ c:Array (Option MapEntry),c=if left.isEmpty then #[none] else left.map some:=⟨_,rfl⟩;rw [←hc] at hcands In;simp only [hcands];refine aH ?_;show if (Question.mapNext cands.size).forced then _ else ∀ t,_;split
 ·exact key _ 0 In hc
 ·intro t;exact key _ _ (a4r _ In) hc
theorem tB {b r:Nat}{es done:List (Key × Value)}{p:Key × Value}{Q:Value->au->Prop} (hm:iO H b r es (done++[p])) (h:Q (.tuple #[p.1.v,p.2]) H):cB P (Instr.entry (.pointer (some ⟨b,0,none⟩))) Q H:=by
 obtain ⟨ents,clock,seen,ds,rest,hr,he,I2,hb,hs,hp,hd⟩:=hm;unfold Instr.entry;refine aH ?_;refine (⟨_,hb,rfl,?_⟩:∃ o,H[b]?=some o∧dZ o=false∧_);refine fg ?_;obtain ⟨ds',e,hde⟩:∃ ds' e,ds=ds'++[e]:=by
  rcases a2G ds with h0 | ⟨m,x,h0⟩
  ·subst h0;simp at hd
  ·exact ⟨m,x,by simpa using h0⟩
 subst hde;have Wp:seen.back?=some e.born:=by
  have:seen=(ds'.map (·.born)++[e.born]).toArray:=by
   apply Array.ext';rw [hs];simp
  rw [this];simp
 simp only [Wp];refine aH ?_;refine (⟨_,hr,rfl,?_⟩:∃ o,H[r]?=some o∧dZ o=false∧_);refine fg ?_;simp only [bne_self_eq_false,a1M,if_false];have Jk:e∈ents.toList:=hp.subset (by simp);have SU:ents.find? (fun x=>x.born == e.born)=some e:=by
  rw [←Array.find?_toList]
  have:∀ (l:List MapEntry),(l.map (·.born)).Nodup->e∈l->l.find? (fun x=>x.born == e.born)=some e:=by
   intro l
   induction l with
   | nil=>intro _ h;cases h
   | cons x l ih =>
    intro hnd hmem;rw [a3u];by_cases hx:x.born=e.born
    ·rcases a0E.1 hmem with rfl | hmem
     ·simp
     ·exfalso;rw [a2k] at hnd
      have:=(a2R.1 hnd).1;exact this (by rw [hx];exact a1n.2 ⟨e,hmem,rfl⟩)
    ·have:(x.born == e.born)=false:=by simpa using hx
     rw [this];rcases a0E.1 hmem with rfl | hmem
     ·exact absurd rfl hx
     ·rw [a2k] at hnd;exact ih (a2R.1 hnd).2 hmem
  exact this _ I2.1 Jk
 rw [SU];rw [a2m,a2m] at hd;have h2:=(List.append_inj_right' hd rfl);simp only [a2k,a26,List.cons.injEq,Prod.mk.injEq,a1d] at h2;show Q (.tuple #[e.key,e.val]) H;rw [h2.1,h2.2];exact h
end
def bD (r:RH) (w:Int):Int:=if aU w=3∧(aT r.objs (w / 4)).isSome then w / 4 else 0
inductive Reaches (r:RH) (ws:List Int):Int->Prop
 | root {w:Int}:w∈ws->bD r w≠0->Reaches r ws (bD r w)
 | cls {o:RO}:Reaches r ws o.oop->o∈r.objs->bD r o.cls≠0->Reaches r ws (bD r o.cls)
 | slot {o:RO}{w:Int}:Reaches r ws o.oop->o∈r.objs->o.fmt=0->w∈o.slots->bD r w≠0->Reaches r ws (bD r w)
theorem kG {r:RH}{w:Int} (h:bD r w≠0):aT r.objs (bD r w)≠none:=by
 unfold bD at *;split at h
 ·rename_i hc;rw [a0b hc];intro hn;rw [hn] at hc;simp at hc
 ·exact absurd rfl h
theorem Reaches.there {r:RH}{ws:List Int}{k:Int} (h:Reaches r ws k):aT r.objs k≠none:=by
 cases h with
 | root _ h=>exact kG h
 | cls _ _ h=>exact kG h
 | slot _ _ _ _ h=>exact kG h
noncomputable instance (r:RH) (ws:List Int) (k:Int):Decidable (Reaches r ws k):=Classical.propDecidable _
noncomputable def RH.reach (r:RH) (ws:List Int):List Int:=r.all.filter fun k=>decide (Reaches r ws k)
theorem RH.mem_reach {r:RH} (hw:WFH r){ws:List Int}{k:Int}:k∈r.reach ws↔Reaches r ws k:=by
 unfold RH.reach;rw [a2l,RH.mem_all hw];constructor
 ·exact fun h=>of_decide_eq_true h.2
 ·exact fun h=>⟨h.there,a00 h⟩
structure Closed3 (r:RH) (ws l:List Int):Prop where
 sound:∀ k∈l,Reaches r ws k
 roots:∀ w∈ws,bD r w≠0->bD r w∈l
 cls:∀ o∈r.objs,o.oop∈l->bD r o.cls≠0->bD r o.cls∈l
 slot:∀ o∈r.objs,o.oop∈l->o.fmt=0->∀ w∈o.slots,bD r w≠0->bD r w∈l
theorem Closed3.iff {r:RH}{ws l:List Int} (h:Closed3 r ws l){k:Int}:k∈l↔Reaches r ws k:=by
 refine ⟨h.sound k,fun hk=>?_⟩
 induction hk with
 | root h1 h2=>exact h.roots _ h1 h2
 | cls _ h2 h3 ih=>exact h.cls _ h2 ih h3
 | slot _ h2 h3 h4 h5 ih=>exact h.slot _ h2 ih h3 _ h4 h5
theorem Closed3.filter {r:RH}{ws l:List Int} (h:Closed3 r ws l):r.all.filter (fun k=>decide (k∈l))=r.reach ws:=by
 unfold RH.reach
 congr 1
 funext k
 rw [a2L,decide_eq_true_iff,decide_eq_true_iff];exact h.iff
theorem lg {l m:List Int} (hn:l.Nodup) (hs:∀ x∈l,x∈m):l.length<=m.length:=by
 induction l generalizing m with
 | nil=>simp
 | cons x l ih =>
  have hc:=a2R.1 hn;have hx:x∈m:=hs x (by simp)
  have:=ih (m:=m.erase x) hc.2 fun y hy=>(List.mem_erase_of_ne (fun e:y=x=>hc.1 (e ▸ hy))).2 (hs y (by simp [hy]));rw [List.length_erase_of_mem hx] at this
  have:=List.length_pos_of_mem hx;simp only [a1b];omega
def ig (l:List Int) (n:Int):List Int:=if n=0∨n∈l then l else l++[n]
theorem kF {l:List Int} (h:l.Nodup) (n:Int):(ig l n).Nodup:=by
 unfold ig;split
 ·exact h
 ·rename_i hc;rw [a23];refine ⟨h,by simp,fun a ha b hb=>?_⟩;simp only [a0A] at hb;subst hb;exact fun e=>hc (.inr (e ▸ ha))
theorem ij {l:List Int}{n k:Int}:k∈ig l n↔k∈l∨(k=n∧n≠0):=by
 unfold ig;split
 ·rename_i hc;constructor
  ·exact .inl
  ·rintro (h | ⟨rfl,h⟩)
   ·exact h
   ·exact hc.resolve_left h
 ·rename_i hc;simp only [a0T,a0A];constructor
  ·rintro (h | h)
   ·exact .inl h
   ·exact .inr ⟨h,fun e=>hc (.inl e)⟩
  ·rintro (h | ⟨h,_⟩)
   ·exact .inl h
   ·exact .inr h
theorem mu (l:List Int) (n:Int):∃ t,ig l n=l++t:=by
 unfold ig;split
 ·exact ⟨[],by simp⟩
 ·exact ⟨[n],rfl⟩
end Kw
namespace Go.Proofs.YtgjfejoohojokaaGreatDoor
open Kw
theorem pc {l:Nat}{args:Array Value}{Q Q':Value->au->Prop}{H:au} (h:jK PP l args Q H) (hq:∀ v H',Q v H'->Q' v H'):jK PP l args Q' H:=fun w hw=>by
 obtain ⟨fn,tmps,assign,body,h1,h2⟩:=h w hw;exact ⟨fn,tmps,assign,body,h1,h2.mono fun e w' ⟨v,he,hv,hs⟩=>⟨v,he,hq _ _ hv,hs⟩⟩
theorem Fr.setObj (H:au) (l:Nat) (o:Obj):Fr [l] H (H.setIfInBounds l o):=⟨by simp,fun b _ hn=>a1Z (fun e=>hn (by simp [e]))⟩
theorem lB.fr {n:Nat}{H0 H H':au} (h:lB n H H') (hf:Fr [] H0 H) (hn:n=H0.size):Fr [] H0 H' :=
 ⟨by rw [h.1];exact hf.1,fun b hb _=>by
  rcases h.2 b with h1 | ⟨h1,_⟩
  ·rw [h1];exact hf.2 b hb (by simp)
  ·omega⟩
theorem lB.own {n k:Nat}{H H':au}{a:Option Addr}{l c:Nat}{xs:List Value}{F:aS} (h:lB n H H') (ho:bZ k H a l c xs F):bZ k H' a l c xs F:=by
 refine ho.keep fun b hb=>?_;rcases ho.2.2 with ⟨_,_,rfl⟩ | ⟨b',cs,_,rfl,⟨t,hB⟩,_⟩
 ·simp at hb
 ·simp only [a0A] at hb;subst hb;rcases h.2 b with h1 | ⟨_,h1,_⟩
  ·exact h1
  ·rw [hB] at h1;cases h1
section
variable {H:au}{hb:Nat}{F:aS}{r:RH}{Q:QT}
theorem kU (hR:d9 H hb F r){k:Int} (h:Q (wK (r.clsAt k)) H):ag PP 54 #[QW hb,ac k] Q H:=by
 obtain ⟨_,_,_,_,_,_,_,_,hR⟩:=hR;exact Fx hR h
theorem uR (hR:d9 H hb F r){k i:Int} (h:Q (wK (r.at k i)) H):ag PP 57 #[QW hb,ac k,ac i] Q H:=by
 obtain ⟨_,_,_,_,_,_,_,_,hR⟩:=hR;exact PY hR h
theorem pN (hR:d9 H hb F r){k:Int} (h:Q (nM (r.size k)) H):ag PP 55 #[QW hb,ac k] Q H:=by
 obtain ⟨_,_,_,_,_,_,_,_,hR⟩:=hR;exact M7 hR h
theorem ss (hR:d9 H hb F r) (h:Q (ac r.mark) H):ag PP 60 #[QW hb] Q H:=by
 obtain ⟨_,_,_,_,_,_,_,_,hR⟩:=hR;exact Cy hR h
theorem tY (hR:d9 H hb F r){w:Int} (h1:bD r w≠0->Q (.tuple #[ac (bD r w),.bool true]) H) (h2:bD r w=0->∀ x:Int,Q (.tuple #[ac x,.bool false]) H):ag PP 165 #[QW hb,ac w] Q H:=by
 apply K4;dsimp only [aP,ah,ak,ac,am,bJ];refine kJ hR.kinds ?_;unfold mr;unfold bD at h1 h2;by_cases hk:aU w=3
 ·rw [a0b hk];refine ⟨_,_,rfl,?_⟩;rw [show ((0:Int) != 0)=false from rfl];simp only [a0f];refine kU hR ?_;have hw:=bE w;cases ho:aT r.objs (w / 4) with
  | none =>
   refine ⟨_,_,rfl,?_⟩;simp only [RH.clsAt,ho];exact h2 (by rw [ho];simp) _
  | some o =>
   refine ⟨_,_,rfl,?_⟩;simp only [RH.clsAt,ho];simp only [hk,ho,a3G,and_self,if_true] at h1;exact h1 (by omega)
 ·rw [a0a hk];refine ⟨_,_,rfl,?_⟩;rw [show ((10:Int) != 0)=true from rfl];simp only [a0P];exact h2 (by rw [a0a (fun h=>hk h.1)]) _
def dT (r:RH) (ws:List Int):List Int:=(ws.map (bD r)).filter fun x=>decide (x≠0)
def mo (r:RH) (o:RO):List Int:=dT r (o.cls :: if o.fmt=0 then o.slots else [])
theorem fk (r:RH) (l m:List Int):dT r (l++m)=dT r l++dT r m:=by simp [dT]
theorem io (r:RH) (w:Int):dT r [w]=if bD r w=0 then [] else [bD r w]:=by
 by_cases h:bD r w=0 <;> simp [dT,h]
theorem mK {r:RH}{ws:List Int}{k:Int}:k∈dT r ws↔∃ w∈ws,bD r w=k∧k≠0:=by
 simp only [dT,a2l,a1n,decide_eq_true_eq];constructor
 ·rintro ⟨⟨w,h1,h2⟩,h3⟩;exact ⟨w,h1,h2,h3⟩
 ·rintro ⟨w,h1,h2,h3⟩;exact ⟨⟨w,h1,h2⟩,h3⟩
theorem Dt {l:Nat}{q0 q1:Addr}{k:Int}{o:RO}{J:List Int->au->Prop} (ho:aT r.objs k=some o)
  (hJ:∀ pre H',J pre H'->d9 H' hb F r∧aq H' q0=some (QW hb)∧aq H' q1=some (ac k))
  (hy:∀ pre x H',(∃ suf,mo r o=pre++x :: suf)->J pre H'->jK PP l #[ac x] (fun v H''=>v=.bool true∧J (pre++[x]) H'') H')
  (h0:J [] H) (h:∀ H',J (mo r o) H'->Q (.tuple #[]) H'):ag PP 280 #[.func (.yield l) #[] #[],.pointer (some q0),.pointer (some q1)] Q H:=by
 apply Iq;dsimp only [aP,ah,kg,bW,ak,aX,ay,aF,ac,mS,bX,bm,am,ax,bJ,aI];obtain ⟨hR,c0,c1⟩:=hJ _ _ h0;have hg:=hR.wf.objs.good o (aR ho).1;have Jp:=hg.many;refine ⟨_,c0,_,c1,kU hR ⟨_,_,rfl,?_⟩⟩;have J1:r.clsAt k=(o.cls,0):=by simp [RH.clsAt,ho]
 have zw:r.size k=((o.slots.length:Int),o.fmt,0):=by simp [RH.size,ho]
 rw [J1];simp only [show ((0:Int) != 0)=false from rfl,a0f];refine ⟨fun w H4=>w=[]∧J (dT r [o.cls]) H4,⟨_,c0,?_⟩,?_⟩
 ·refine tY hR (fun ic=>⟨_,_,rfl,?_⟩) fun he x=>⟨_,_,rfl,?_⟩
  ·simp only [a0P];refine pc (hy [] _ H ?_ h0) ?_
   ·refine ⟨dT r (if o.fmt=0 then o.slots else []),?_⟩;have e:mo r o=dT r [o.cls]++dT r (if o.fmt=0 then o.slots else []):=by rw [←fk];rfl
    rw [e,io,a0a ic];rfl
   ·rintro v H3 ⟨rfl,h3⟩;refine ⟨_,rfl,?_⟩;simp only [a0p,a0f];refine ⟨trivial,?_⟩;rw [io,a0a ic];exact h3
  ·simp only [a0f];refine ⟨trivial,?_⟩;rw [io,a0b he];exact h0
 ·rintro w H4 ⟨rfl,h4⟩ _;obtain ⟨Uh,c04,c14⟩:=hJ _ _ h4;refine ⟨rfl,_,c04,_,c14,pN Uh ⟨_,_,_,rfl,?_⟩⟩;rw [zw];simp only [show ((0:Int) != 0)=false from rfl,a0f];have e:mo r o=dT r [o.cls]++dT r (if o.fmt=0 then o.slots else []):=by rw [←fk];rfl
  by_cases hf:o.fmt=0
  ·have I7:(o.fmt != 0)=false:=by simp [hf]
   rw [I7];simp only [a0f];rw [a0b hf] at e;refine ⟨fun w H6=>∃ i:Nat,w=[ac i]∧i<=o.slots.length∧J (dT r [o.cls]++dT r (o.slots.take i)) H6,fun w _=>match w with
    | [.int _ i]=>(o.slots.length-i).toNat
    | _=>0,⟨0,rfl,a07 _,by simpa [dT] using h4⟩,?_⟩
   rintro w H6 ⟨i,rfl,hi,h6⟩ _;refine ⟨_,rfl,?_⟩;rw [ae];have e1:IntKind.wrap .i64 ((i:Int)+1)=((i+1:Nat):Int):=by rw [ao (by omega) (by omega)];omega
   refine aD (fun an=>?_) fun an=>?_
   ·have b9:i<o.slots.length:=by omega
    obtain ⟨SA,c06,c16⟩:=hJ _ _ h6;have Yi:r.at k (i:Int)=(o.slots[i],0):=by
     simp only [RH.at,ho];rw [a0a (by omega)];simp [b9]
    refine ⟨_,c06,_,c16,uR SA ⟨_,_,rfl,?_⟩⟩;rw [Yi];simp only [show ((0:Int) != 0)=false from rfl,a0f];have lj:o.slots.take (i+1)=o.slots.take i++[o.slots[i]]:=by rw [a1i];simp [b9]
    have Ui:(((o.slots.length:Int)-((i+1:Nat):Int)).toNat)<((o.slots.length:Int)-(i:Int)).toNat:=by omega
    refine ⟨_,c06,tY SA (fun ic=>⟨_,_,rfl,?_⟩) fun he x=>⟨_,_,rfl,?_⟩⟩
    ·simp only [a0P];refine pc (hy _ _ H6 ?_ h6) ?_
     ·refine ⟨dT r (o.slots.drop (i+1)),?_⟩;have hd:o.slots=o.slots.take i++o.slots[i] :: o.slots.drop (i+1):=by simp
      have:dT r o.slots=dT r (o.slots.take i)++bD r o.slots[i] :: dT r (o.slots.drop (i+1)):=by
       conv=>lhs;rw [hd]
       rw [fk]
       congr 1
       rw [show o.slots[i] :: o.slots.drop (i+1)=[o.slots[i]]++o.slots.drop (i+1) from rfl,fk,io,a0a ic];rfl
      rw [e,this];simp
     ·rintro v H9 ⟨rfl,h9⟩;refine ⟨_,rfl,?_⟩;simp only [a0p,a0f];rw [e1];refine ⟨⟨i+1,rfl,b9,?_⟩,Ui⟩;rw [lj,fk,io r o.slots[i],a0a ic,←a18];exact h9
    ·simp only [a0f];rw [e1];refine ⟨⟨i+1,rfl,b9,?_⟩,Ui⟩;rw [lj,fk,io r o.slots[i],a0b he,a2S];exact h6
   ·have:i=o.slots.length:=by omega
    rw [this,a29] at h6;exact h H6 (by rw [e];exact h6)
  ·have I7:(o.fmt != 0)=true:=by simp [hf]
   rw [I7];simp only [a0P];rw [a0a hf] at e;exact h H4 (by rw [e];simpa [dT] using h4)
theorem Mr {k:Int} (h:Q (.func (.func 280) #[] #[.pointer (some ⟨H.size,0,none⟩),.pointer (some ⟨H.size+1,0,none⟩)]) ((H.push (.cells #[QW hb] 66)).push (.cells #[ac k] 3))):ag PP 166 #[QW hb,ac k] Q H:=by
 apply Ld;dsimp only [aL,ac,am,aJ,ax];simp only [a1e];exact h
end
def gQ (S:List Int):List (Key × Value):=S.map fun k=>(Key.int k,Value.int .i64 1)
theorem th (S:List Int) (n:Int):eC (gQ S) (.int n)=if n∈S then some (ac 1) else none:=by
 induction S with
 | nil=>rfl
 | cons x S ih =>
  unfold gQ at *;simp only [a2k,eC];by_cases h:n=x
  ·subst h;simp
  ·rw [a0a (by simpa using h),ih];simp [h]
theorem AG {S:List Int}{n:Int} (h:n∉S):oR (gQ S) (.int n) (ac 1)=gQ (S++[n]):=by
 have:iu (gQ S) (.int n)=none:=by rw [gj,th,a0a h]
 rw [lN this];simp [gQ]
theorem zv {S:List Int}:∀ p∈gQ S,p.1.of (.int .i64):=by
 intro p hp;simp only [gQ,a1n] at hp;obtain ⟨k,_,rfl⟩:=hp;trivial
structure Vis (H:au) (mb tb m:Nat) (S T:List Int) (G:aS):Prop where
 b1:bI H mb #[.map (some m)]
 b2:∃ a l c,bI H tb #[.slice a l c]∧bZ 1 H a l c (az T) G
 mp:eH H m (gQ S)
 n1:mb≠tb
 n2:mb≠m
 n3:tb≠m
 n4:∀ x∈G,x≠mb∧x≠tb∧x≠m
theorem Vis.fr {H H':au}{mb tb m:Nat}{S T:List Int}{G F:aS} (h:Vis H mb tb m S T G) (hf:Fr F H H') (h1:mb∉F) (h2:tb∉F) (h3:m∉F) (h4:bU G F):Vis H' mb tb m S T G:=by
 obtain ⟨a,l,c,hB,hO⟩:=h.b2;exact { h with b1:=h.b1.fr hf h1,b2:=⟨a,l,c,hB.fr hf h2,hO.fr hf h4⟩,mp:=h.mp.fr hf h3 }
theorem Vis.lt {H:au}{mb tb m:Nat}{S T:List Int}{G:aS} (h:Vis H mb tb m S T G):∀ x∈mb :: tb :: m :: G,x<H.size:=by
 obtain ⟨a,l,c,hB,hO⟩:=h.b2;intro x hx;simp only [a0E] at hx;rcases hx with rfl | rfl | rfl | hx
 ·exact h.b1.lt
 ·exact hB.lt
 ·exact h.mp.lt
 ·exact hO.lt x hx
def ga (p:List Int × List Int) (n:Int):List Int × List Int:=if n∈p.1 then p else (p.1++[n],p.2++[n])
section
variable {H:au}{hb:Nat}{F:aS}{r:RH}{Q:QT}
theorem Hx {mb tb m:Nat}{S T:List Int}{G:aS}{n:Int} (hV:Vis H mb tb m S T G) (hT:T.length<1000000000)
  (h:∀ H' G',Vis H' mb tb m (ga (S,T) n).1 (ga (S,T) n).2 G'->Up (mb :: tb :: m :: G) H (mb :: tb :: m :: G') H'->Q (.tuple #[]) H') :
  ag PP 164 #[ac n,QW mb,QW tb] Q H:=by
 have To:fB PP 213=some (.int .i64,some (ac 0)):=by kernel_rfl
 have i7:bd PP 25=some (1,8,some (ac 0)):=by kernel_rfl
 obtain ⟨a,l,c,hB,hO⟩:=hV.b2;have c1:aq H ⟨mb,0,none⟩=some (.map (some m)):=hV.b1.cell 0;apply Hk;dsimp only [aL,ah,aK,nZ,ac,av,gS,aJ,zz,bM,cS,bj,bJ];refine ⟨_,c1,mL (k:=.int n) To trivial zv hV.mp ?_⟩;rw [th];unfold ga at h;by_cases hn:n∈S
 ·simp only [hn,if_true,a4y] at h ⊢;refine ⟨_,rfl,?_⟩;rw [show ((1:Int) == 0)=false from rfl];simp only [a0f];exact h H G hV (Up.refl _ _)
 ·simp only [hn,if_false,Option.getD_none] at h ⊢;refine ⟨_,rfl,?_⟩;rw [show ((0:Int) == 0)=true from rfl];simp only [a0P];refine ⟨_,c1,jF (k:=.int n) To trivial zv hV.mp fun H2 Ow fa=>?_⟩;rw [AG hn] at Ow;have Da:bI H2 tb #[.slice a l c]:=hB.fr fa (by simpa using hV.n3);have k8:bI H2 mb #[.map (some m)]:=hV.b1.fr fa (by simpa using hV.n2);have hO2:bZ 1 H2 a l c (az T) G:=hO.fr fa (fun x hx hm=>(hV.n4 x hx).2.2 (by simpa using hm));have hl:l=T.length:=by have:=hO.len;simpa [az] using this.symm
  refine ⟨_,_,_,Da.cell 0,?_⟩;refine bK i7 rfl (by kernel_rfl) hO2 rfl (by simp [dJ]) (by omega) (by decide) (by decide) fun a' c' G2 H3 g1 g2 g3=>⟨_,_,_,rfl,?_⟩;have Y2:∀ x∈G,x≠mb∧x≠tb∧x≠m:=hV.n4;have be:mb<H2.size∧tb<H2.size∧m<H2.size:=⟨k8.lt,Da.lt,Ow.lt⟩;have SB:∀ x∈G2,x≠mb∧x≠tb∧x≠m:=fun x hx=>by
   rcases g2.2 x hx with h4 | h4
   ·exact Y2 x h4
   ·omega
  have a0h:mb∉G:=fun hx=>(Y2 _ hx).1 rfl;have a0i:tb∉G:=fun hx=>(Y2 _ hx).2.1 rfl;have hmG:m∉G:=fun hx=>(Y2 _ hx).2.2 rfl;have O9:bI H3 tb #[.slice a l c]:=Da.fr g2.1 a0i;have Ju:bI H3 mb #[.map (some m)]:=k8.fr g2.1 a0h;have OL:=Ow.fr g2.1 hmG;have SV:Fr [tb] H3 (aQ H3 ⟨tb,0,none⟩ (.slice a' (l+1) c')):=Fr.set (by simp);refine ⟨O9.wr (by simp),h _ G2 { b1:=Ju.fr SV (by simpa using hV.n1),b2:=⟨a',l+1,c',O9.set 0 (.slice a' (l+1) c'),?_⟩,mp:=OL.fr SV (by simpa using (a3t hV.n3)),n1:=hV.n1,n2:=hV.n2,n3:=hV.n3,n4:=SB } ⟨?_,?_⟩⟩
  ·rw [bR];exact g1.fr SV (fun x hx hm=>(SB x hx).2.1 (by simpa using hm))
  ·exact ((fa.mono (F':=mb :: tb :: m :: G) fun x hx=>by simp only [a0A] at hx;simp [hx]).trans (g2.1.mono fun x hx=>by simp [hx])).trans (SV.mono fun x hx=>by simp only [a0A] at hx;simp [hx])
  ·intro x hx;simp only [a0E] at hx ⊢;rcases hx with rfl | rfl | rfl | hx
   ·exact .inl (.inl rfl)
   ·exact .inl (.inr (.inl rfl))
   ·exact .inl (.inr (.inr (.inl rfl)))
   ·rcases g2.2 x hx with h4 | h4
    ·exact .inl (.inr (.inr (.inr h4)))
    ·exact .inr (a0O fa.1 h4)
structure Walk (r:RH) (ws:List Int) (S T:List Int):Prop where
 nd:S.Nodup
 ndT:T.Nodup
 sub:∀ k∈T,k∈S
 sound:∀ k∈S,Reaches r ws k
theorem tq (p:List Int × List Int) (n:Int):∃ nw,(ga p n).1=p.1++nw∧(ga p n).2=p.2++nw∧(n∈(ga p n).1)∧(∀ x∈nw,x=n)∧(p.1.Nodup->(ga p n).1.Nodup):=by
 unfold ga;by_cases h:n∈p.1
 ·exact ⟨[],by simp [h],by simp [h],by simp [h],by simp,fun hn=>by simp [h,hn]⟩
 ·refine ⟨[n],by simp [h],by simp [h],by simp [h],by simp,fun hn=>?_⟩;simp only [h,if_false];rw [a23];exact ⟨hn,by simp,fun a ha b hb e=>h (by simp only [a0A] at hb;rw [←hb,←e];exact ha)⟩
theorem ti (p:List Int × List Int) (xs:List Int):∃ nw,(xs.foldl ga p).1=p.1++nw∧(xs.foldl ga p).2=p.2++nw∧(∀ x∈xs,x∈(xs.foldl ga p).1)∧(∀ x∈nw,x∈xs)∧(p.1.Nodup->(xs.foldl ga p).1.Nodup):=by
 induction xs generalizing p with
 | nil=>exact ⟨[],by simp,by simp,by simp,by simp,fun h=>h⟩
 | cons x xs ih =>
  obtain ⟨n1,a1,a2,a3,a4,a5⟩:=tq p x;obtain ⟨n2,b1,b2,b3,b4,b5⟩:=ih (ga p x);refine ⟨n1++n2,?_,?_,?_,?_,fun h=>b5 (a5 h)⟩
  ·rw [a3D,b1,a1,a18]
  ·rw [a3D,b2,a2,a18]
  ·intro y hy;rw [a3D];rcases a0E.1 hy with rfl | hy
   ·rw [b1];exact a2U _ a3
   ·exact b3 y hy
  ·intro y hy;rcases a0T.1 hy with hy | hy
   ·rw [a4 y hy];simp
   ·exact a2F _ (b4 y hy)
theorem Walk.fold {ws S T:List Int} (h:Walk r ws S T){xs:List Int} (hx:∀ x∈xs,Reaches r ws x):Walk r ws (xs.foldl ga (S,T)).1 (xs.foldl ga (S,T)).2:=by
 obtain ⟨nw,b1,b2,b3,b4,b5⟩:=ti (S,T) xs;have hnd:=b5 h.nd;simp only at b1 b2;refine { nd:=hnd,ndT:=?_,sub:=fun k hk=>?_,sound:=fun k hk=>?_ }
 ·rw [b2,a23];rw [b1,a23] at hnd;exact ⟨h.ndT,hnd.2.1,fun a ha b hb=>hnd.2.2 a (h.sub a ha) b hb⟩
 ·rw [b2] at hk;rw [b1];rcases a0T.1 hk with hk | hk
  ·exact a2U _ (h.sub k hk)
  ·exact a3o _ hk
 ·rw [b1] at hk;rcases a0T.1 hk with hk | hk
  ·exact h.sound k hk
  ·exact hx k (b4 k hk)
theorem Walk.le {ws S T:List Int} (h:Walk r ws S T) (hw:WFH r):S.length<=r.all.length∧T.length<=r.all.length:=by
 have h1:S.length<=r.all.length:=lg h.nd fun k hk=>(RH.mem_all hw).2 (h.sound k hk).there;exact ⟨h1,a0O (lg h.ndT h.sub) h1⟩
theorem oZ {ws:List Int}{o:RO}{k:Int} (ho:aT r.objs k=some o) (hk:Reaches r ws k):∀ x∈mo r o,Reaches r ws x:=by
 intro x hx;obtain ⟨h1,h2⟩:=aR ho;obtain ⟨w,hw,rfl,ic⟩:=mK.1 hx;rw [←h2] at hk;rcases a0E.1 hw with rfl | hw
 ·exact .cls hk h1 ic
 ·by_cases hf:o.fmt=0
  ·rw [a0b hf] at hw;exact .slot hk h1 hf hw ic
  ·rw [a0a hf] at hw;cases hw
def PT (r:RH) (S T:List Int):Prop:=∀ k∈S,k∉T->∀ o,aT r.objs k=some o->∀ x∈mo r o,x∈S
theorem Walk.closed {ws S:List Int} (h:Walk r ws S []) (hw:WFH r) (hd:PT r S []) (hr:∀ w∈ws,bD r w≠0->bD r w∈S):Closed3 r ws S:=by
 refine { sound:=h.sound,roots:=hr,cls:=fun o ho hk ic=>?_,slot:=fun o ho hk hf w Z3 ic=>?_ }
 ·exact hd o.oop hk (by simp) o (cN hw.objs ho) _ (mK.2 ⟨o.cls,by simp,rfl,ic⟩)
 ·exact hd o.oop hk (by simp) o (cN hw.objs ho) _ (mK.2 ⟨w,by simp [hf,Z3],rfl,ic⟩)
end
abbrev gN (m:Nat):Value:=.func (.func 164) #[] #[.pointer (some ⟨m+1,0,none⟩),.pointer (some ⟨m+2,0,none⟩)]
def St (H H2:au) (S T:List Int):Prop:=∃ G,Vis H2 (H.size+1) (H.size+2) H.size S T G∧Fr [] H H2∧(∀ x∈G,H.size+4<=x)∧bI H2 (H.size+3) #[gN H.size]
def wV (H:au) (m:Nat):Nat:=match H[m]? with
 | some (.map es _)=>es.size
 | _=>0
def qc (H:au) (b:Nat):Nat:=match aq H ⟨b,0,none⟩ with
 | some (.slice _ l _)=>l
 | _=>0
section
variable {H:au}{hb:Nat}{F:aS}{r:RH}{Q:QT}
theorem St.lens {H2:au}{S T:List Int} (h:St H H2 S T):wV H2 H.size=S.length∧qc H2 (H.size+2)=T.length:=by
 obtain ⟨G,hV,_⟩:=h;obtain ⟨ents,clock,hm,he,_⟩:=hV.mp;obtain ⟨a,l,c,hB,hO⟩:=hV.b2;constructor
 ·unfold wV;rw [hm]
  have:=congrArg List.length he;simpa [gQ] using this
 ·unfold qc;rw [show aq H2 ⟨H.size+2,0,none⟩=some (.slice a l c) from hB.cell 0]
  have:=hO.len;simpa [az] using this.symm
theorem St.other {H2 H3:au}{S T:List Int}{F:aS} (h:St H H2 S T) (hf:Fr F H2 H3) (hF:∀ b∈F,H.size+4<=b∧∀ c e f,H2[b]?≠some (Obj.cells c e f)):St H H3 S T:=by
 obtain ⟨G,hV,w5,hG,hB⟩:=h;have hn:∀ b,b<H.size+4->b∉F:=fun b hb hm=>by have:=(hF b hm).1;omega
 refine ⟨G,hV.fr hf (hn _ (by omega)) (hn _ (by omega)) (hn _ (by omega)) (fun x hx hm=>?_),?_,hG,hB.fr hf (hn _ (by omega))⟩
 ·obtain ⟨a,l,c,_,hO⟩:=hV.b2;rcases hO.2.2 with ⟨_,_,rfl⟩ | ⟨b',cs,_,rfl,⟨t,Sf⟩,_⟩
  ·cases hx
  ·simp only [a0A] at hx;subst hx;exact (hF x hm).2 _ _ _ Sf
 ·refine ⟨a0O w5.1 hf.1,fun b hb _=>?_⟩;rw [hf.2 b (a0X hb w5.1) (hn b (by omega)),w5.2 b hb (by simp)]
theorem St.visitG {H2:au}{S T:List Int}{G:aS} (hV:Vis H2 (H.size+1) (H.size+2) H.size S T G) (w5:Fr [] H H2) (hG:∀ x∈G,H.size+4<=x) (hB:bI H2 (H.size+3) #[gN H.size]){n:Int} (hT:T.length<1000000000)
  (hq:∀ H' G',Vis H' (H.size+1) (H.size+2) H.size (ga (S,T) n).1 (ga (S,T) n).2 G'->Fr [] H H'->(∀ x∈G',H.size+4<=x)->bI H' (H.size+3) #[gN H.size]->(∀ x∈G',x∈G∨H2.size<=x) ->
   Fr ((H.size+1) :: (H.size+2) :: H.size :: G) H2 H'->Q (.tuple #[]) H') :
  ag PP 164 #[ac n,.pointer (some ⟨H.size+1,0,none⟩),.pointer (some ⟨H.size+2,0,none⟩)] Q H2:=by
 refine Hx hV hT fun H' G' hV' hu=>hq H' G' hV' ?_ (fun x hx=>?_) ?_ (fun x hx=>?_) hu.1
 ·refine ⟨a0O w5.1 hu.1.1,fun b hb _=>?_⟩;rw [hu.1.2 b (a0X hb w5.1) (fun hm=>?_),w5.2 b hb (by simp)];simp only [a0E] at hm;rcases hm with rfl | rfl | rfl | hm
  ·omega
  ·omega
  ·omega
  ·have:=hG b hm;omega
 ·rcases hu.2 x (by simp [hx]) with h1 | h1
  ·simp only [a0E] at h1
   have:=hV'.n4 x hx;rcases h1 with rfl | rfl | rfl | h1
   ·omega
   ·omega
   ·omega
   ·exact hG x h1
  ·have:=hB.lt;omega
 ·refine hB.fr hu.1 (fun hm=>?_);simp only [a0E] at hm;rcases hm with h1 | h1 | h1 | h1
  ·omega
  ·omega
  ·omega
  ·have:=hG _ h1;omega
 ·rcases hu.2 x (by simp [hx]) with h1 | h1
  ·simp only [a0E] at h1
   have:=hV'.n4 x hx;rcases h1 with rfl | rfl | rfl | h1
   ·omega
   ·omega
   ·omega
   ·exact .inl h1
  ·exact .inr h1
theorem St.visit {H2:au}{S T:List Int} (h:St H H2 S T){n:Int} (hT:T.length<1000000000) (hq:∀ H',St H H' (ga (S,T) n).1 (ga (S,T) n).2->Q (.tuple #[]) H') :
  ag PP 164 #[ac n,.pointer (some ⟨H.size+1,0,none⟩),.pointer (some ⟨H.size+2,0,none⟩)] Q H2:=by
 obtain ⟨G,hV,w5,hG,hB⟩:=h;exact St.visitG hV w5 hG hB hT fun H' G' h1 h2 h3 h4 _ _=>hq H' ⟨G',h1,h2,h3,h4⟩
theorem St.fr {H2:au}{S T:List Int} (h:St H H2 S T):Fr [] H H2:=by obtain ⟨_,_,h,_⟩:=h;exact h
theorem St.cell {H2:au}{S T:List Int} (h:St H H2 S T):aq H2 ⟨H.size+3,0,none⟩=some (gN H.size):=by obtain ⟨_,_,_,_,h⟩:=h;exact h.cell 0
def gT (l:List (Key × Value)):List Int:=l.map fun p=>match p.1 with
 | .int k=>k
 | .str _=>0
theorem wH (S:List Int):gT (gQ S)=S:=by
 unfold gT gQ;rw [a3n];exact List.map_id' S
theorem RH.all_sorted (r:RH):r.all.Pairwise (· < ·):=by
 unfold RH.all RH.upto;refine List.Pairwise.filter _ ?_;rw [a2M];exact List.pairwise_lt_range.imp fun h=>by omega
theorem tD {ws S:List Int} (hw:WFH r) (hnd:S.Nodup) (a0k:∀ k,k∈S↔Reaches r ws k){out:List Int} (hp:out.Perm S):(out.mergeSort fun x y=>decide (x<=y))=r.reach ws:=by
 have hs:=List.pairwise_mergeSort (le:=fun x y:Int=>decide (x<=y)) (fun a b c h1 h2=>by simp at *;omega) (fun a b=>by simp;omega) out;have h1:(r.reach ws).Pairwise (· < ·):=(RH.all_sorted r).filter _;have h2:(r.reach ws).Nodup:=h1.imp fun h e=>by omega
 have OY:(out.mergeSort fun x y=>decide (x<=y)).Perm (r.reach ws):=by
  refine ((List.mergeSort_perm out _).trans hp).trans ?_;rw [a3p hnd h2];intro k;rw [a0k,RH.mem_reach hw]
 exact List.Perm.eq_of_pairwise (fun a b _ _ h3 h4=>by simp at h3 h4;omega) hs (h1.imp fun h=>by simp;omega) OY
end
section
variable {H:au}{hb:Nat}{F:aS}{r:RH}{Q:QT}
theorem Rj {H6:au}{S T:List Int}{k:Int}{o:RO}{X:Loop}{Kn Kr:au->Prop}{Ke:List (Nat × (au->Prop))} (hR:d9 H hb F r) (s8:St H H6 S T){ws:List Int} (QD:Walk r ws S T) (JM:aT r.objs k=some o) (Wq:Reaches r ws k) (b8:r.all.length<=65537)
  (hX:∀ {n1:Int}{Q':Value->au->Prop}{H':au},H'[H6.size+3]?=some (.loop X)->fE (H6.size+3) ⟨H.size+3,0,none⟩ n1 Q' H'->jK PP (H6.size+3) #[ac n1] Q' H') (Zo:X.state=.ready) (hXp:X.pending=none)
  (hK:∀ H8,St H H8 ((mo r o).foldl ga (S,T)).1 ((mo r o).foldl ga (S,T)).2->Kn H8) :
  ag PP 280 ((#[]++#[.func (.yield (H6.size+3)) #[] #[]])++#[.pointer (some ⟨H6.size,0,none⟩),.pointer (some ⟨H6.size+1,0,none⟩)]) (fun _ H7=>qg (H6.size+3) Kn Kr Ke H7)
   ((((H6.push (.cells #[QW hb] 66)).push (.cells #[ac k] 3)).push (.deferred (some []))).push (.loop X)):=by
 have hw:=hR.wf;have h4:H.size+4<=H6.size:=by obtain ⟨_,_,_,_,h⟩:=s8;have:=h.lt;omega
 show ag PP 280 #[.func (.yield (H6.size+3)) #[] #[],.pointer (some ⟨H6.size,0,none⟩),.pointer (some ⟨H6.size+1,0,none⟩)] _ _;have b0:bI ((((H6.push (.cells #[QW hb] 66)).push (.cells #[ac k] 3)).push (.deferred (some []))).push (.loop X)) H6.size #[QW hb]:=(((bI.new H6 _ _).push _).push _).push _;have b1:bI ((((H6.push (.cells #[QW hb] 66)).push (.cells #[ac k] 3)).push (.deferred (some []))).push (.loop X)) (H6.size+1) #[ac k]:=by
  have:=((bI.new (H6.push (.cells #[QW hb] 66)) #[ac k] 3).push (.deferred (some []))).push (.loop X);simpa using this
 have hl:((((H6.push (.cells #[QW hb] 66)).push (.cells #[ac k] 3)).push (.deferred (some []))).push (.loop X))[H6.size+3]?=some (.loop X):=by
  have:H6.size+3=(((H6.push (.cells #[QW hb] 66)).push (.cells #[ac k] 3)).push (.deferred (some []))).size:=by simp
  rw [this];exact a3E
 obtain ⟨G0,gV0,gf0,gG,gB0⟩:=s8;have OX:Fr [] H6 ((((H6.push (.cells #[QW hb] 66)).push (.cells #[ac k] 3)).push (.deferred (some []))).push (.loop X)):=(((Fr.push [] H6 _).more).more).more;have gV:=gV0.fr OX (by simp) (by simp) (by simp) (bU.nil_right _);have gf:=gf0.trans OX;have gB:=gB0.fr OX (by simp);have hG0:∀ x∈G0,x<H6.size∨H6.size+4<=x:=fun x hx=>.inl (gV0.lt x (by simp [hx]));refine Dt (hb:=hb) (F:=F) (r:=r) (k:=k) JM (J:=fun pre H'=>(∃ G,Vis H' (H.size+1) (H.size+2) H.size (pre.foldl ga (S,T)).1 (pre.foldl ga (S,T)).2 G∧Fr [] H H'∧(∀ x∈G,H.size+4<=x)∧bI H' (H.size+3) #[gN H.size]∧∀ x∈G,x<H6.size∨H6.size+4<=x)∧bI H' H6.size #[QW hb]∧bI H' (H6.size+1) #[ac k]∧H'[H6.size+3]?=some (.loop X))
  (fun pre H' hJ=>⟨hR.fr hJ.1.choose_spec.2.1 (bU.nil_right F) (by simp),hJ.2.1.cell 0,hJ.2.2.1.cell 0⟩) ?_ ⟨⟨G0,gV,gf,gG,gB,hG0⟩,b0,b1,hl⟩ ?_
 ·rintro pre x H' ⟨suf,he⟩ ⟨⟨G,pV,pf,pG,pB,pb⟩,k0,k1,Ou⟩;refine hX Ou ?_;unfold fE;dsimp only [aP,fe,nX,ac,ax];have a0m:Walk r ws (pre.foldl ga (S,T)).1 (pre.foldl ga (S,T)).2:=QD.fold fun y hy=>oZ JM Wq y (by rw [he];simp [hy]);have I7:∀ (Y:au) (o:Obj),Fr [H6.size+3] Y (Y.setIfInBounds (H6.size+3) o):=fun Y o=>Fr.setObj _ _ _;have keepV:∀ {Y:au}{o:Obj}{S' T':List Int}{G':aS},Vis Y (H.size+1) (H.size+2) H.size S' T' G'->Fr [] H Y->bI Y (H.size+3) #[gN H.size]->(∀ x∈G',x<H6.size∨H6.size+4<=x) ->
    Vis (Y.setIfInBounds (H6.size+3) o) (H.size+1) (H.size+2) H.size S' T' G'∧Fr [] H (Y.setIfInBounds (H6.size+3) o)∧bI (Y.setIfInBounds (H6.size+3) o) (H.size+3) #[gN H.size]:=by
   intro Y o S' T' G' hv hf hB I2;refine ⟨hv.fr (I7 Y o) (by simp;omega) (by simp;omega) (by simp;omega) (fun x hx hm=>?_),⟨by simpa using hf.1,fun b k9 _=>?_⟩,hB.fr (I7 Y o) (by simp;omega)⟩
   ·have h1:=a0A.1 hm;rcases I2 x hx with h2 | h2 <;> omega
   ·rw [(I7 Y o).2 b (a0X k9 hf.1) (fun hm=>by have:=a0A.1 hm;omega),hf.2 b k9 (by simp)]
  have U2:=(a1j.1 Ou).1;have K2:(H'.setIfInBounds (H6.size+3) (Obj.loop { X with state:=.busy }))[H6.size+3]?=some (.loop { X with state:=.busy }):=by simp [U2]
  have k02:=k0.fr (I7 H' (Obj.loop { X with state:=.busy })) (by simp);have k12:=k1.fr (I7 H' (Obj.loop { X with state:=.busy })) (by simp);obtain ⟨qV,qf,qB⟩:=keepV (o:=Obj.loop { X with state:=.busy }) pV pf pB pb;refine ⟨X,Ou,Zo,.inl ⟨_,_,_,qB.cell 0,?_⟩⟩;show ag PP 164 #[ac x,.pointer (some ⟨H.size+1,0,none⟩),.pointer (some ⟨H.size+2,0,none⟩)] _ _;have HS:=a0m.le hw;refine St.visitG qV qf pG qB (by omega) fun H3 G' v1 v2 v3 v4 v5 v6=>⟨rfl,?_⟩;have VT:∀ b,(b=H6.size∨b=H6.size+1∨b=H6.size+3)->b∉(H.size+1) :: (H.size+2) :: H.size :: G:=by
   intro b k9 hm;simp only [a0E] at hm;rcases hm with h1 | h1 | h1 | h1
   ·omega
   ·omega
   ·omega
   ·rcases pb b h1 with h2 | h2 <;> omega
  have l3:H3[H6.size+3]?=some (.loop { X with state:=.busy }):=(v6.2 _ (by simpa using U2) (VT _ (.inr (.inr rfl)))).trans K2;have Ju:∀ x∈G',x<H6.size∨H6.size+4<=x:=fun x hx=>by
   rcases v5 x hx with h1 | h1
   ·exact pb x h1
   ·have:H6.size+3<(H'.setIfInBounds (H6.size+3) (Obj.loop { X with state:=.busy })).size:=by simpa using U2
    omega
  have hX2:({ ({ X with state:=.busy }:Loop) with state:=.ready,pending:=none }:Loop)=X:=by
   cases X;simp only at Zo hXp;subst Zo;subst hXp;rfl
  refine ⟨_,l3,rfl,?_⟩;rw [hX2];obtain ⟨u1,u2,u3⟩:=keepV (o:=Obj.loop X) v1 v2 v4 Ju;have hl3lt:=(a1j.1 l3).1;refine ⟨⟨G',?_,u2,v3,u3,Ju⟩,(k02.fr v6 (VT _ (.inl rfl))).fr (I7 H3 _) (by simp),(k12.fr v6 (VT _ (.inr (.inl rfl)))).fr (I7 H3 _) (by simp),by simp [hl3lt]⟩;rw [List.foldl_append];exact u1
 ·rintro H' ⟨⟨G,pV,pf,pG,pB,pb⟩,k0,k1,Ou⟩;refine ⟨X,Ou,by rw [Zo];simp,?_⟩;rw [hXp];exact hK _ (St.other ⟨G,pV,pf,pG,pB⟩ (Fr.setObj _ _ _) (by
   intro b k9;have k9:=a0A.1 k9;subst k9;exact ⟨by omega,fun c e f hc=>by rw [Ou] at hc;cases hc⟩))
theorem zb (hR:d9 H hb F r){a2:Option Addr}{l2 c2:Nat}{ws:List Int} (hk:Rd 1 H a2 l2 (az ws)) (I6:l2<=1000000)
  (h:∀ a l c G H',bZ 1 H' a l c (az (r.reach ws)) G->Fr [] H H'->(∀ x∈G,H.size<=x)->Q (.tuple #[.slice a l c,ac 0]) H'):ag PP 82 #[QW hb,.slice a2 l2 c2] Q H:=by
 have hw:=hR.wf;have To:fB PP 213=some (.int .i64,some (ac 0)):=by kernel_rfl
 have i7:bd PP 25=some (1,8,some (ac 0)):=by kernel_rfl
 have K2:l2=ws.length:=by have:=hk.1;simpa [az] using this.symm
 have b8:r.all.length<=65537:=by
  have:=r.upto_len (r.oops+1).toNat;have h1:=hw.o1;exact a0O this (by omega)
 apply Mw;unfold QV;dsimp only [aL,A6,pz,aP,iS,ah,kg,fe,bP,aX,nX,ay,aK,nZ,bc,ac,bf,QU,Ph,av,bm,gS,cD,am,aJ,zz,bM,ax,bj,bJ,aI];simp only [aM,ck,a1e,a0l,a0f,aY,a1w,a2q,a2r,a1D,a1b,a1s,a1O,a1y,a1C,Nat.add_assoc,Nat.reduceAdd];have e1:H.size+1=(H.push (.map #[] 0)).size:=by simp
 have e3:H.size+3=(((H.push (.map #[] 0)).push (.cells #[.map (some H.size)] 213)).push (.cells #[.slice none 0 0] 25)).size:=by simp
 have w1:Wr ((H.push (.map #[] 0)).push (.cells #[.map none] 213)) ⟨H.size+1,0,none⟩:=by rw [e1];exact aY.2 (by simp)
 have x1:aQ ((H.push (.map #[] 0)).push (.cells #[.map none] 213)) ⟨H.size+1,0,none⟩ (.map (some H.size))=(H.push (.map #[] 0)).push (.cells #[.map (some H.size)] 213):=by rw [e1,aM];rfl
 rw [x1];refine ⟨w1,?_⟩;have w2:Wr ((((H.push (.map #[] 0)).push (.cells #[.map (some H.size)] 213)).push (.cells #[.slice none 0 0] 25)).push (.cells #[.nilFunc] 214)) ⟨H.size+3,0,none⟩:=by rw [e3];exact aY.2 (by simp)
 have x2:aQ ((((H.push (.map #[] 0)).push (.cells #[.map (some H.size)] 213)).push (.cells #[.slice none 0 0] 25)).push (.cells #[.nilFunc] 214)) ⟨H.size+3,0,none⟩ (gN H.size)=(((H.push (.map #[] 0)).push (.cells #[.map (some H.size)] 213)).push (.cells #[.slice none 0 0] 25)).push (.cells #[gN H.size] 214):=by rw [e3,aM];rfl
 refine ⟨w2,?_⟩;rw [x2];have Ws:St H ((((H.push (.map #[] 0)).push (.cells #[.map (some H.size)] 213)).push (.cells #[.slice none 0 0] 25)).push (.cells #[gN H.size] 214)) [] []:=by
  have f0:Fr [] H (H.push (.map #[] 0)):=Fr.push _ _ _;refine ⟨[],{ b1:=?_,b2:=⟨none,0,0,?_,bZ.nil 1 _⟩,mp:=?_,n1:=by omega,n2:=by omega,n3:=by omega,n4:=by simp },f0.more.more.more,by simp,?_⟩
  ·have:=((bI.new (H.push (.map #[] 0)) #[.map (some H.size)] 213).push (.cells #[.slice none 0 0] 25)).push (.cells #[gN H.size] 214);simpa using this
  ·have:=(bI.new ((H.push (.map #[] 0)).push (.cells #[.map (some H.size)] 213)) #[.slice none 0 0] 25).push (.cells #[gN H.size] 214);simpa using this
  ·exact (eH.new H).fr (G:=[]) ((Fr.push [] _ _).more.more) (by simp)
  ·have:=bI.new (((H.push (.map #[] 0)).push (.cells #[.map (some H.size)] 213)).push (.cells #[.slice none 0 0] 25)) #[gN H.size] 214;simpa using this
 generalize ((((H.push (.map #[] 0)).push (.cells #[.map (some H.size)] 213)).push (.cells #[.slice none 0 0] 25)).push (.cells #[gN H.size] 214))=H0 at Ws ⊢;have U3:bU F []:=bU.nil_right F;have a0n:∀ {H2:au}{S T:List Int},St H H2 S T->d9 H2 hb F r:=fun hs=>hR.fr hs.fr U3 (by simp);refine ⟨fun w H2=>∃(i:Nat) (S:List Int),w=[ac i]∧i<=l2∧St H H2 S S∧Walk r ws S S∧∀ w∈ws.take i,bD r w≠0->bD r w∈S,fun w _=>match w with
  | [.int _ i]=>(l2-i).toNat
  | _=>0,⟨0,[],rfl,a07 _,Ws,⟨by simp,by simp,by simp,by simp⟩,by simp⟩,?_⟩
 rintro w4 H2 ⟨i,S,rfl,hi,s8,QD,OZ⟩ g5;refine ⟨_,rfl,?_⟩;rw [ae];refine aD (fun an=>?_) fun an=>?_
 ·
  have b9:i<ws.length:=by omega
  obtain ⟨p,rfl,aj,be⟩:=(hk.fr' s8.fr (by simp)).int (i:=(i:Int)) (by omega) an;rw [a0j] at aj be;have hx:ws.getD i 0=ws[i]:=by simp [be]
  rw [hx] at aj;have lj:ws.take (i+1)=ws.take i++[ws[i]]:=by rw [a1i];simp [be]
  have e:IntKind.wrap .i64 ((i:Int)+1)=((i+1:Nat):Int):=by rw [ao (by omega) (by omega)];omega
  have Ui:((l2:Int)-((i+1:Nat):Int)).toNat<((l2:Int)-(i:Int)).toNat:=by omega
  refine ⟨⟨by omega,an⟩,_,rfl,_,by rw [a0j,a0y];exact aj,?_⟩;rw [e];refine tY (a0n s8) (fun ic=>⟨_,_,rfl,?_⟩) fun he x=>⟨_,_,rfl,?_⟩
  ·simp only [a0P];refine .inl ⟨_,_,_,s8.cell,?_⟩;have HS:=QD.le hw;refine s8.visit (by omega) fun H' Wt=>⟨rfl,⟨i+1,(ga (S,S) (bD r ws[i])).1,rfl,by omega,?_,?_,?_⟩,Ui⟩
   ·have:(ga (S,S) (bD r ws[i])).2=(ga (S,S) (bD r ws[i])).1:=by unfold ga;split <;> rfl
    rw [this] at Wt;exact Wt
   ·have:=QD.fold (xs:=[bD r ws[i]]) (by intro x hx;simp only [a0A] at hx;subst hx;exact .root (by simp) ic);simp only [a3D,List.foldl_nil] at this;have e2:(ga (S,S) (bD r ws[i])).2=(ga (S,S) (bD r ws[i])).1:=by unfold ga;split <;> rfl
    rw [e2] at this;exact this
   ·intro w I5 TM;obtain ⟨nw,a1,_,a3,_⟩:=tq (S,S) (bD r ws[i]);rw [lj] at I5;rcases a0T.1 I5 with I5 | I5
    ·rw [a1];exact a2U _ (OZ w I5 TM)
    ·simp only [a0A] at I5;subst I5;exact a3
  ·simp only [a0f];refine ⟨⟨i+1,S,rfl,by omega,s8,QD,fun w I5 TM=>?_⟩,Ui⟩;rw [lj] at I5;rcases a0T.1 I5 with I5 | I5
   ·exact OZ w I5 TM
   ·simp only [a0A] at I5;subst I5;exact absurd he TM
 ·
  have ui:i=ws.length:=by omega
  rw [ui,a29] at OZ;refine ⟨fun w H5=>w=[]∧∃ S T,St H H5 S T∧Walk r ws S T∧PT r S T∧∀ w∈ws,bD r w≠0->bD r w∈S,fun _ H5=>(r.all.length-wV H5 H.size)+qc H5 (H.size+2),⟨rfl,S,S,s8,QD,fun k h1 h2=>absurd h1 h2,OZ⟩,?_⟩;clear s8 QD OZ;rintro w15 H5 ⟨rfl,S,T,s8,QD,hdo,OZ⟩ g16;obtain ⟨TN,hsl⟩:=s8.lens;have Uj:=QD.le hw;have a0o:=s8;obtain ⟨G,hV,w5,hG,hvb⟩:=a0o;obtain ⟨a,l,c,hBt,hO⟩:=hV.b2;have hl:l=T.length:=by have:=hO.len;simpa [az] using this.symm
  have ct:aq H5 ⟨H.size+2,0,none⟩=some (.slice a l c):=hBt.cell 0;refine ⟨rfl,_,_,_,ct,?_⟩;rw [ae];refine aD (fun In=>?_) fun In=>?_
  ·
   have Zp:0<T.length:=by omega
   obtain ⟨T0,k,rfl⟩:∃ T0 k,T=T0++[k]:=by
    rcases a2G T with h1 | ⟨m,x,h1⟩
    ·rw [h1] at Zp;simp at Zp
    ·exact ⟨m,x,by simpa using h1⟩
   have hlT:l=T0.length+1:=by simpa using hl
   have e2:IntKind.wrap .i64 ((l:Int)-1)=(T0.length:Int):=by rw [ao (by omega) (by omega)];omega
   have hTb:T0.length+1<=r.all.length:=by have:=Uj.2;simpa using this
   have hlec:=hO.2.1;refine ⟨_,_,_,ct,_,_,_,ct,?_⟩;rw [e2];obtain ⟨p,rfl,aj,be⟩:=hO.rd.int (i:=(T0.length:Int)) (by omega) (by omega);rw [a0j] at aj;have hx:(T0++[k]).getD T0.length 0=k:=by simp
   rw [hx] at aj;refine ⟨⟨by omega,by omega⟩,_,rfl,k,by rw [a0j,a0y];exact aj,_,_,_,ct,_,_,_,ct,?_⟩;rw [e2];rw [a0j];refine ⟨⟨by omega,by omega⟩,hBt.wr (by simp),?_⟩;have Wu:St H (aQ H5 ⟨H.size+2,0,none⟩ (.slice (some p) T0.length c)) S T0:=by
    have SV:Fr [H.size+2] H5 (aQ H5 ⟨H.size+2,0,none⟩ (.slice (some p) T0.length c)):=Fr.set (by simp);have hn4:=hV.n4;refine ⟨G,{ b1:=hV.b1.fr SV (by simp),b2:=⟨some p,T0.length,c,hBt.set 0 _,?_⟩,mp:=hV.mp.fr SV (by simp),n1:=hV.n1,n2:=hV.n2,n3:=hV.n3,n4:=hV.n4 },?_,hG,hvb.fr SV (by simp)⟩
    ·have h1:=hO.fr SV (fun x hx hm=>(hn4 x hx).2.1 (by simpa using hm));refine ⟨by simp [az],by omega,?_⟩;rcases h1.2.2 with ⟨h2,_,_⟩ | ⟨b',cs,h2,h3,h4,h5,h6⟩
     ·cases h2
     ·refine .inr ⟨b',cs,h2,h3,h4,h5,?_⟩;have h7:(cs.toList.take (l*1)).take T0.length=(az (T0++[k])).take T0.length:=by rw [h6]
      have h8:(az T0).take T0.length=az T0:=a0Y (by simp [az]);have h9:min T0.length (l*1)=T0.length:=by omega
      rw [a4f,bR,a2J (by simp [az]),h8,h9] at h7;rw [←h7,a0y]
    ·refine ⟨a0O w5.1 SV.1,fun b hb _=>?_⟩;rw [SV.2 b (a0X hb w5.1) (by simp;omega),w5.2 b hb (by simp)]
   have VU:∀ H6,H6=aQ H5 ⟨H.size+2,0,none⟩ (.slice (some p) T0.length c)->H6=aQ H5 ⟨H.size+2,0,none⟩ (.slice (some p) T0.length c):=fun _ h=>h;generalize hH6:aQ H5 ⟨H.size+2,0,none⟩ (.slice (some p) T0.length c)=H6 at Wu ⊢;clear VU;have hkS:k∈S:=QD.sub k (by simp);have Wq:Reaches r ws k:=QD.sound k hkS;obtain ⟨o,JM⟩:∃ o,aT r.objs k=some o:=by
    cases ho:aT r.objs k with
    | none=>exact absurd ho Wq.there
    | some o=>exact ⟨o,rfl⟩
   refine Mr (H:=H6) (hb:=hb) ⟨_,_,_,rfl,fun fn26=>?_⟩;have Wv:Walk r ws S T0:={ QD with ndT:=QD.ndT.sublist (by simp),sub:=fun x hx=>QD.sub x (by simp [hx]) };simp only [a1e,Nat.add_assoc,Nat.reduceAdd];refine Rj (H:=H) (ws:=ws) hR Wu Wv JM Wq b8 (fun hl hq=>jR hl hq) rfl rfl fun H8 Ww=>?_;have TG:∀ x∈mo r o,Reaches r ws x:=oZ JM Wq;obtain ⟨nw,b1,b2,b3,b4,b5⟩:=ti (S,T0) (mo r o);simp only at b1 b2;have Wx:=Wv.fold TG;obtain ⟨hm8,hs8⟩:=Ww.lens;have hle8:=Wx.le hw;refine ⟨⟨trivial,_,_,Ww,Wx,fun j RY JD o' xB x hx=>?_,fun w I5 ic=>?_⟩,?_⟩
   ·by_cases T8:j=k
    ·subst T8;rw [JM] at xB;cases xB;exact b3 x hx
    ·rw [b2] at JD;rw [b1] at RY ⊢;have hjS:j∈S:=by
      rcases a0T.1 RY with h1 | h1
      ·exact h1
      ·exact absurd (a3o T0 h1) JD
     refine a2U _ (hdo j hjS (fun hm=>?_) o' xB x hx);rcases a0T.1 hm with h1 | h1
     ·exact JD (a2U _ h1)
     ·simp only [a0A] at h1;exact T8 h1
   ·rw [b1];exact a2U _ (OZ w I5 ic)
   ·rw [hm8,hs8,TN,hsl];have l1:=congrArg List.length b1;have l2:=congrArg List.length b2;simp only [a1h,a1b,a1s] at l1 l2 ⊢;omega
  ·
   have OM:T=[]:=a1o (by omega);subst OM;have D7:=QD.closed hw hdo OZ;have cm:aq H5 ⟨H.size+1,0,none⟩=some (.map (some H.size)):=hV.b1.cell 0;refine ⟨_,cm,xX To hV.mp ⟨_,rfl,?_⟩⟩;have hSl:(gQ S).length=S.length:=by simp [gQ]
   have hSle:=Uj.1;refine dQ i7 rfl (a1F _) (by omega) (by omega) (by decide) fun e=>⟨_,_,_,rfl,?_⟩;have OX:Fr [] H5 (H5.push (.cells (Array.replicate ((gQ S).length:Int).toNat (ac 0)) e)):=Fr.push _ _ _;refine ⟨_,(show _=some (Value.map (some H.size)) from (hV.b1.fr OX (by simp)).cell 0),?_⟩;refine ug To (hV.mp.fr OX (by simp)) fun H11 hit U4=>?_;have U5:H.size+3<H5.size:=hvb.lt;refine ⟨fun w HH=>∃(a:Option Addr) (l c:Nat) (G':aS) (done:List (Key × Value)),w=[.slice a l c]∧iO HH (H5.size+1) H.size (gQ S) done∧bZ 1 HH a l c (az (gT done)) G'∧Fr [] H HH∧(∀ x∈G',H5.size<=x∧x≠H5.size+1)∧G'≠[]∧H5.size+2<=HH.size,fun w _=>match w with
    | [.slice _ l _]=>S.length-l
    | _=>0,⟨_,_,_,[H5.size],[],rfl,?_,?_,?_,?_,by simp,?_⟩,?_⟩
   ·simpa using hit
   ·exact (bZ.newMem H5 ((gQ S).length:Int).toNat e).fr U4 (by simp)
   ·exact (w5.trans OX).trans U4
   ·simp
   ·have:=U4.1;simp only [a1e] at this;have h2:=hit;obtain ⟨_,_,_,_,_,_,_,_,h3,_⟩:=h2
    have:=(a1j.1 h3).1;simp only [a1e] at this;omega
   ·rintro w HH ⟨a1,l1,c1,G1,done,rfl,Wy,IN,bw,VV,a0q,Wz⟩ g;refine ⟨_,_,_,rfl,?_⟩;have J9:l1=done.length:=by have:=IN.len;simpa [az,gT] using this.symm
    have a0r:=Wy.len;rw [hSl] at a0r;simp only [a1e];refine wx Wy (fun OY=>.inl ⟨rfl,?_⟩) fun p H12 hp U6 fa=>.inr ⟨_,_,rfl,?_⟩
    ·
     have U1:(gT done).Perm S:=by
      have:=a3R (fun p:Key × Value=>(gT [p]).headD 0) OY;have e:∀ l:List (Key × Value),l.map (fun p=>(gT [p]).headD 0)=gT l:=fun l=>by unfold gT;apply a3B;intro p _;simp
      rw [e,e,wH] at this;exact this
     rcases IN.2.2 with ⟨_,_,h0⟩ | ⟨b,cs,h1,h2,_⟩
     ·exact absurd h0 a0q
     ·subst h1;subst h2;refine qY Tryz.sortI ⟨_,Tryz.func167,rfl⟩ IN (by omega) fun H13 WA WB=>⟨rfl,fun H14 Jg=>?_⟩;rw [tD hw QD.nd (fun k=>D7.iff) U1] at WA;have hb:=VV b (by simp);have a0s:Fr [] H H13:=⟨a0O bw.1 WB.1,fun x hx _=>by
       rw [WB.2 x (a0X hx bw.1) (fun hm=>by have:=a0A.1 hm;have:=w5.1;omega),bw.2 x hx (by simp)]⟩
      exact h _ _ _ [b] H14 (lB.own Jg WA) (lB.fr Jg a0s rfl) (fun x hx=>by have:=a0A.1 hx;have:=w5.1;omega)
    ·obtain ⟨n,hn⟩:∃ n,p.1=.int n:=by
      simp only [gQ,a1n] at hp;obtain ⟨k,_,rfl⟩:=hp;exact ⟨k,rfl⟩
     refine tB U6 ⟨n,p.2,by rw [hn];rfl,?_⟩;have WC:(H5.size+1)∉G1:=fun hm=>(VV _ hm).2 rfl;have JN:bZ 1 H12 a1 l1 c1 (az (gT done)) G1:=IN.fr fa (fun x hx hm=>(VV x hx).2 (by simpa using hm));have yB:Fr [] H H12:=⟨a0O bw.1 fa.1,fun x hx _=>by
      rw [fa.2 x (a0X hx bw.1) (fun hm=>by have:=a0A.1 hm;have:=w5.1;omega),bw.2 x hx (by simp)]⟩
     have WD:=U6.len;rw [hSl,a1h] at WD;simp only [a1b,a1s] at WD;refine bK i7 rfl (by kernel_rfl) JN rfl (by simp [dJ]) (by omega) (by decide) (by decide) fun a' c' G2 H3 g1 g2 g3=>⟨_,_,_,rfl,⟨a',l1+1,c',G2,done++[p],rfl,?_,?_,?_,?_,?_,?_⟩,?_⟩
     ·exact U6.fr g2.1 WC (fun hm=>by have:=(VV _ hm).1;have:=w5.1;omega)
     ·have:gT (done++[p])=gT done++[n]:=by simp [gT,hn]
      rw [this,bR];exact g1
     ·refine ⟨a0O yB.1 g2.1.1,fun x hx _=>?_⟩;rw [g2.1.2 x (a0X hx yB.1) (fun hm=>by have:=(VV _ hm).1;have:=w5.1;omega),yB.2 x hx (by simp)]
     ·intro x hx;rcases g2.2 x hx with h4 | h4
      ·exact VV x h4
      ·have:=fa.1;omega
     ·intro h0;subst h0;rcases g1.2.2 with ⟨_,h1,_⟩ | ⟨_,_,_,h1,_⟩
      ·have:=g1.2.1;omega
      ·cases h1
     ·have:=fa.1;have:=g2.1.1;omega
     ·omega
end
end Go.Proofs.YtgjfejoohojokaaGreatDoor
namespace Kw
open Go
structure SP where
 h:RH
 king:Int
 stack:List Int
 op:Bool
 born:Int
 turn:Int
 mark:Int
structure WFS (s:SP):Prop where
 h:WFH s.h
 king0:0<=s.king
 king1:s.king<=65536
 many:s.stack.length<=65536
 words:∀ w∈s.stack,dL w
def SP.roots (s:SP):List Int:=(4*s.king) :: s.stack
noncomputable def SP.reach (s:SP):List Int:=s.h.reach s.roots
noncomputable def SP.collect (s:SP):(Int × Int × Int) × SP:=if s.op then ((0,0,25),s) else ((s.h.keep s.reach).1,{ s with h:=(s.h.keep s.reach).2 })
noncomputable def SP.alloc (s:SP) (cls n fmt:Int):(Int × Int) × SP :=
 if (s.h.alloc cls n fmt).1.2≠23∨s.op=true then ((4*(s.h.alloc cls n fmt).1.1,(s.h.alloc cls n fmt).1.2),{ s with h:=(s.h.alloc cls n fmt).2 })
 else ((4*((s.h.keep s.reach).2.alloc cls n fmt).1.1,((s.h.keep s.reach).2.alloc cls n fmt).1.2),{ s with h:=((s.h.keep s.reach).2.alloc cls n fmt).2 })
def SP.keepW (s:SP) (ws:List Int):Int × SP:=if ∃ w∈ws,¬ dL w then (10,s) else if 65536<s.stack.length+ws.length then (22,s) else (0,{ s with stack:=s.stack++ws })
def SP.drop (s:SP) (n:Int):Int × SP:=if n<0∨(s.stack.length:Int)<n then (28,s) else (0,{ s with stack:=s.stack.take (s.stack.length-n.toNat) })
def SP.crown (s:SP) (k:Int):Int × SP:=if (s.h.clsAt k).2≠0 then ((s.h.clsAt k).2,s) else (0,{ s with king:=k })
def SP.setRoot (s:SP) (i w:Int):Int × SP:=((s.h.put s.king i w).1,{ s with h:=(s.h.put s.king i w).2 })
noncomputable def SP.room (s:SP):Int × Int:=(s.h.words-((s.reach.map fun k=>match aT s.h.objs k with | some o=>o.len | none=>2).sum),s.h.oops-(s.reach.length:Int))
theorem qr {h:RH}{cls n fmt:Int} (he:(h.alloc cls n fmt).1.2=23):(h.alloc cls n fmt).2=h:=by
 unfold RH.alloc at *;split
 ·rfl
 split
 ·rfl
 split
 ·rfl
 rename_i h1 h2 h3;rw [a0a h1,a0a h2,a0a h3] at he;split
 ·rename_i h4;rw [a0b h4] at he;simp at he
 ·rename_i h4;rw [a0a h4] at he;simp at he
end Kw
namespace Go.Proofs.YtgjfejoohojokaaGreatDoor
open Kw
section
variable {H:au}{Q:QT}
theorem vg {a:Option Addr}{l c:Nat}{ws:List Int}{f:Nat}{p:Int->Bool} (hk:Rd 1 H a l (az ws)) (I6:l<=1000000000)
  (hf:∀ x Q',Q' (.bool (p x)) H->ag PP f ((#[]++#[ac x])++#[]) Q' H) (h1:(∃ w∈ws,p w=true)->∀ n:Int,0<=n->Q (ac n) H) (h2:(∀ w∈ws,p w=false)->Q (ac (-1)) H):ag PP 267 #[.slice a l c,.func (.func f) #[] #[]] Q H:=by
 have hl:l=ws.length:=by have:=hk.1;simpa [az] using this.symm
 apply HV;dsimp only [bk,ah,aX,ay,bc,ac,bf,bX,bm,aI];refine ⟨fun w H'=>H'=H∧∃ i:Nat,w=[ac i]∧i<=l∧∀ w∈ws.take i,p w=false,fun w _=>match w with
  | [.int _ i]=>(l-i).toNat
  | _=>0,⟨rfl,0,rfl,a07 _,by simp⟩,?_⟩
 rintro w H1 ⟨rfl,i,rfl,hi,b8⟩ _;refine ⟨_,rfl,?_⟩;rw [ae];refine aD (fun an=>?_) fun an=>?_
 ·obtain ⟨q,rfl,aj,be⟩:=hk.int (i:=(i:Int)) (by omega) an;rw [a0j] at aj be;have hx:ws.getD i 0=ws[i]:=by simp [be]
  rw [hx] at aj;have lj:ws.take (i+1)=ws.take i++[ws[i]]:=by rw [a1i];simp [be]
  have e:IntKind.wrap .i64 ((i:Int)+1)=((i+1:Nat):Int):=by rw [ao (by omega) (by omega)];omega
  refine ⟨⟨by omega,an⟩,_,rfl,_,by rw [a0j,a0y];exact aj,hf _ _ ⟨_,rfl,?_⟩⟩;cases hp:p ws[i] with
  | true=>exact h1 ⟨_,a04 be,hp⟩ _ (by omega)
  | false =>
   simp only [a0f];rw [e];refine ⟨⟨trivial,i+1,rfl,by omega,fun w hw=>?_⟩,by simp;omega⟩;rw [lj] at hw;rcases a0T.1 hw with hw | hw
   ·exact b8 w hw
   ·simp only [a0A] at hw;rw [hw];exact hp
 ·have:i=ws.length:=by omega
  rw [this,a29] at b8;exact h2 b8
theorem DI {w:Int} (hk:eM H) (h:Q (.bool (!decide (dL w))) H):ag PP 144 #[ac w] Q H:=by
 apply Ku;dsimp only [aP,aC,ac];refine lm hk ⟨_,rfl,?_⟩
 have:(aU w == 0)=!decide (dL w):=by rw [bq];unfold dL;by_cases h:aU w=0 <;> simp [h]
 rw [this];exact h
theorem rP {a:Option Addr}{l c:Nat}{ws:List Int} (hK:eM H) (hk:Rd 1 H a l (az ws)) (I6:l<=1000000000) (h:Q (.bool (decide (∃ w∈ws,¬ dL w))) H):ag PP 143 #[.slice a l c,.func (.func 144) #[] #[]] Q H:=by
 apply Kq;dsimp only [aP,aC,av];refine vg (p:=fun w=>!decide (dL w)) hk I6 (fun x Q' hq=>?_) (fun he n hn=>⟨_,rfl,?_⟩) fun b8=>⟨_,rfl,?_⟩
 ·show ag PP 144 #[ac x] Q' H;exact DI hK hq
 ·have:(∃ w∈ws,¬ dL w):=by obtain ⟨w,h1,h2⟩:=he;exact ⟨w,h1,by simpa using h2⟩
  rw [a00 this] at h;rw [a00 (show n ≥ 0 from hn)];exact h
 ·have:¬ (∃ w∈ws,¬ dL w):=fun ⟨w,h1,h2⟩=>by have:=b8 w h1;simp at this;exact h2 this
  rw [a09 this] at h;exact h
theorem Bv {a:Option Addr}{l c:Nat}{ws:List Int} (hk:Rd 1 H a l (az ws)) (I6:l<=1000000000) (h:∀ a' c' F H',bZ 1 H' a' l c' (az ws) F->Fr [] H H'->(∀ x∈F,H.size<=x)->Q (.slice a' l c') H'):ag PP 124 #[.slice a l c] Q H:=by
 have i7:bd PP 30=some (1,8,some (ac 0)):=by kernel_rfl
 apply FW;dsimp only [aL,ah,av,cD,aJ,bM];cases a with
 | none =>
  have h0:=hk.2.1 rfl;subst h0
  have:ws=[]:=a1o (by have:=hk.1;simpa [az] using this);subst this;exact h none 0 [] H (bZ.nil 1 H) (Fr.refl _ _) (by simp)
 | some p =>
  simp only [a0l,a0f];have fb:bZ 1 (H.push (.cells #[] 26)) (some ⟨H.size,0,none⟩) 0 0 (az []) [H.size]:=⟨by simp [az],a0U _,.inr ⟨H.size,_,rfl,rfl,bI.new _ _ _,by simp,by simp [az]⟩⟩;refine dz i7 rfl (by kernel_rfl) fb (hk.fr' (Fr.push [] _ _) (by simp)) fO (by omega) (by decide) (by decide) fun a' c' F' H' g1 g2 g3=>⟨_,_,_,rfl,?_⟩;have o3:=Up.fresh (H:=H) (Fr.push [] H _) g2 (by simp)
  have:=h a' c' F' H' (by simpa [az] using g1) o3.1 o3.2;simpa using this
end
def ja (H:au) (b:Nat) (F:aS) (s:SP):Prop:=∃ hb a l c F1 F2 po b5 b6 b7,F=b :: (F1++F2)∧b∉F1∧b∉F2∧bU F1 F2∧b≠bl∧bl∉F2 ∧
 bI H b #[QW hb,ac s.king,.slice a l c,.bool s.op,.pointer po,ac b5,ac b6,ac b7]∧d9 H hb F1 s.h∧bZ 1 H a l c (az s.stack) F2∧WFS s ∧
 (s.op=true->po=some ⟨hb,0,none⟩∧b5=s.born∧b6=s.turn∧b7=s.mark)
theorem ja.wf {H:au}{b:Nat}{F:aS}{s:SP} (h:ja H b F s):WFS s:=by
 obtain ⟨_,_,_,_,_,_,_,_,_,_,_,_,_,_,_,_,_,_,_,h,_⟩:=h;exact h
theorem ja.lt {H:au}{b:Nat}{F:aS}{s:SP} (h:ja H b F s):∀ x∈F,x<H.size:=by
 obtain ⟨hb,a,l,c,F1,F2,po,b5,b6,b7,rfl,h1,h2,h3,k1,k2,hB,hR,hO,_⟩:=h;intro x hx;rcases a0E.1 hx with rfl | hx
 ·exact hB.lt
 ·rcases a0T.1 hx with hx | hx
  ·exact hR.lt x hx
  ·exact hO.lt x hx
theorem ja.kinds {H:au}{b:Nat}{F:aS}{s:SP} (h:ja H b F s):eM H:=by
 obtain ⟨_,_,_,_,_,_,_,_,_,_,_,_,_,_,_,_,_,hR,_⟩:=h;exact hR.kinds
theorem ja.gk {H:au}{b:Nat}{F:aS}{s:SP} (h:ja H b F s):bl∉F:=by
 obtain ⟨hb,a,l,c,F1,F2,po,b5,b6,b7,rfl,h1,h2,h3,k1,k2,hB,hR,hO,_⟩:=h;simp only [a0E,a0T,a21];exact ⟨fun e=>k1 e.symm,hR.gk,k2⟩
theorem ja.bmem {H:au}{b:Nat}{F:aS}{s:SP} (h:ja H b F s):b∈F:=by obtain ⟨_,_,_,_,_,_,_,_,_,_,rfl,_⟩:=h;simp
theorem ja.fr {H H':au}{b:Nat}{F G:aS}{s:SP} (h:ja H b F s) (hf:Fr G H H') (hd:bU F G) (hg:bl∉G):ja H' b F s:=by
 obtain ⟨hb,a,l,c,F1,F2,po,b5,b6,b7,rfl,h1,h2,h3,k1,k2,hB,hR,hO,hw,ho⟩:=h;exact ⟨hb,a,l,c,F1,F2,po,b5,b6,b7,rfl,h1,h2,h3,k1,k2,hB.fr hf (hd b (by simp)),hR.fr hf (hd.mono (fun x hx=>by simp [hx]) fun _ h=>h) hg,hO.fr hf (hd.mono (fun x hx=>by simp [hx]) fun _ h=>h),hw,ho⟩
theorem eM.lt {H:au} (h:eM H):bl<H.size:=by
 have h0:=h.1;unfold aq at h0;rcases a2t bl H.size with h1 | h1
 ·exact h1
 ·simp only [a2u h1] at h0;cases h0
section
variable {H:au}{b:Nat}{F F':aS}{s:SP}{Q:QT}
theorem ip (hS:ja H b F s) (h:Q (.bool false) H):ag PP 27 #[QW b] Q H:=by
 obtain ⟨hb,a,l,c,F1,F2,po,b5,b6,b7,rfl,h1,h2,h3,k1,k2,hB,hR,hO,hw,ho⟩:=hS;have Jm:aq H ⟨b,0,none⟩=some (QW hb):=hB.cell 0;apply Nw;dsimp only [aP,ah,aF,aE,cD];simp only [a0l,a0f];exact ⟨_,rfl,_,Jm,h⟩
theorem Gh {words oops:Int} (hk:eM H) (gw:¬ (0<=words∧words<=1048576∧0<=oops∧oops<=65536)->Q (.tuple #[.pointer none,ac 1]) H)
  (h:(0<=words∧words<=1048576∧0<=oops∧oops<=65536)->∀ b F H',ja H' b F ⟨⟨words,oops,0,0,0,[]⟩,0,[],false,0,0,0⟩->Fr [] H H'->(∀ x∈F,H.size<=x)->Q (.tuple #[QW b,ac 0]) H'):ag PP 69 #[ac words,ac oops] Q H:=by
 have Tp:=hk.lt;apply Ml;dsimp only [aL,aP,ah,fN,ac,av,am,aJ,ax,bJ];refine AN hk (fun hb=>⟨_,_,rfl,gw hb⟩) fun hg hb F H1 hR hf hF=>⟨_,_,rfl,?_⟩;simp only [show ((0:Int) != 0)=false from rfl,a0f];have an:=hR.lt;have HS:=hf.1;refine h hg H1.size (H1.size :: (F++[])) _ ⟨hb,none,0,0,F,[],none,0,0,0,rfl,fun hx=>?_,by simp,bU.nil_right _,by omega,by simp,bI.new _ _ _,hR.fr (Fr.push [] _ _) (bU.nil_right _) (by simp),bZ.nil 1 _,?_,by simp⟩ hf.more ?_
 ·have:=an _ hx;omega
 ·exact ⟨hR.wf,by simp,by simp,by simp,by simp⟩
 ·intro x hx;simp only [a2S,a0E] at hx;rcases hx with rfl | hx
  ·exact HS
  ·exact hF x hx
theorem ja.upd (hS:ja H b F s):∃ hb F1,d9 H hb F1 s.h∧aq H ⟨b,0,none⟩=some (QW hb)∧aq H ⟨b,3,none⟩=some (.bool s.op)∧aq H ⟨b,1,none⟩=some (ac s.king)∧(∀ x∈F1,x∈F)∧b∉F1 ∧
  ∀ H' r',d9 H' hb F1 r'->Fr F1 H H'->ja H' b F { s with h:=r' }:=by
 obtain ⟨hb,a,l,c,F1,F2,po,b5,b6,b7,rfl,h1,h2,h3,k1,k2,hB,hR,hO,hw,ho⟩:=hS;refine ⟨hb,F1,hR,hB.cell 0,hB.cell 3,hB.cell 1,fun x hx=>by simp [hx],h1,fun H' r' RC hf=>?_⟩;exact ⟨hb,a,l,c,F1,F2,po,b5,b6,b7,rfl,h1,h2,h3,k1,k2,hB.fr hf h1,RC,hO.fr hf h3.symm,{ hw with h:=RC.wf },ho⟩
theorem eQ (hS:ja H b F s) (h:∀ hb F1,d9 H hb F1 s.h->(∀ x∈F1,x∈F)->(∀ H' r',d9 H' hb F1 r'->Fr F1 H H'->ja H' b F { s with h:=r' })->Q (QW hb) H):ag PP 44 #[QW b] Q H:=by
 obtain ⟨hb,F1,hR,c0,c3,c1,ff,Of,s6⟩:=hS.upd;apply B0;dsimp only [bk,ah,aF,aE,am];refine ip hS ⟨_,rfl,?_⟩;simp only [a0f];exact ⟨_,rfl,_,c0,h hb F1 hR ff s6⟩
theorem zF (hS:ja H b F s){k:Int} (h:∀ H',ja H' b F (s.crown k).2->Fr F H H'->Q (ac (s.crown k).1) H'):ag PP 76 #[QW b,ac k] Q H:=by
 have JZ:=hS;apply N7;dsimp only [bk,ah,ak,aF,ac,aE,am,bj];refine ip hS ⟨_,rfl,?_⟩;simp only [a0f];obtain ⟨hb,a,l,c,F1,F2,po,b5,b6,b7,rfl,h1,h2,h3,k1,k2,hB,hR,hO,hw,ho⟩:=hS;have Jm:aq H ⟨b,0,none⟩=some (QW hb):=hB.cell 0;refine ⟨_,rfl,_,Jm,kU hR ⟨_,_,rfl,?_⟩⟩;unfold SP.crown at h;rw [bn,ae];refine aD (fun he=>?_) fun he=>?_
 ·rw [a0b he] at h;exact h H JZ (Fr.refl _ _)
 ·rw [a0a he] at h;refine ⟨_,rfl,hB.wr (by simp),h _ ⟨hb,a,l,c,F1,F2,po,b5,b6,b7,rfl,h1,h2,h3,k1,k2,hB.set 1 (ac k),hR.fr (Fr.set (F:=[b]) (by simp)) (fun x hx hn=>h1 (by simp only [a0A] at hn;rw [←hn];exact hx)) (by simpa using a3t k1),hO.fr (Fr.set (F:=[b]) (by simp)) (fun x hx hn=>h2 (by simp only [a0A] at hn;rw [←hn];exact hx)),?_,ho⟩ (Fr.set (by simp))⟩
  have:∃ o,aT s.h.objs k=some o:=by
   unfold RH.clsAt at he;cases ho:aT s.h.objs k with
   | none=>rw [ho] at he;simp at he
   | some o=>exact ⟨o,rfl⟩
  obtain ⟨o,JM⟩:=this;have hg:=hw.h.objs.good o (aR JM).1;have g1:=hg.oop1;have g2:=hg.oop2;have g3:=hw.h.o1;rw [(aR JM).2] at g1 g2;exact { hw with king0:=by simp;omega,king1:=by simp;omega }
theorem wD (hS:ja H b F s){i w:Int} (hf:∀ o,aT s.h.objs s.king=some o->o.fmt=0) (h:∀ H',ja H' b F (s.setRoot i w).2->Fr F H H'->Q (ac (s.setRoot i w).1) H'):ag PP 162 #[QW b,ac i,ac w] Q H:=by
 obtain ⟨hb,F1,hR,c0,c3,c1,ff,Of,s6⟩:=hS.upd;apply Er;dsimp only [bk,aC,ah,ay,aF,ac,aE,am];refine ip hS ⟨_,rfl,?_⟩;simp only [a0f];refine ⟨_,rfl,_,c0,_,rfl,_,by rw [aB];exact c1,?_⟩;refine rz hR hf fun H' RC s7=>⟨_,rfl,trivial,?_⟩;exact h H' (s6 H' _ RC s7) (s7.mono ff)
theorem sm (hS:ja H b F s) (h:∀ a l c H' ws,Rd 1 H' a l (az ws)->l<=65537->s.h.reach ws=s.reach->Fr [] H H'->Q (.slice a l c) H'):ag PP 29 #[QW b] Q H:=by
 obtain ⟨hb,a,l,c,F1,F2,po,b5,b6,b7,rfl,h1,h2,h3,k1,k2,hB,hR,hO,hw,ho⟩:=hS;have uF:aq H ⟨b,1,none⟩=some (ac s.king):=hB.cell 1;have w7:aq H ⟨b,2,none⟩=some (.slice a l c):=hB.cell 2;have hk0:=hw.king0;have JC:=hw.king1;have hm:=hw.many;have hl:l=s.stack.length:=by have:=hO.len;simpa [az] using this.symm
 have i7:bd PP 30=some (1,8,some (ac 0)):=by kernel_rfl
 apply MK;dsimp only [aL,ah,ak,ay,aK,ac,av,aE,aJ,bM,ax];refine ⟨_,rfl,_,by rw [aB];exact uF,?_⟩;by_cases hz:s.king=0
 ·refine LU (by omega) ⟨_,_,rfl,?_⟩;simp only [show ((1:Int) != 0)=true from rfl,a0P];refine ⟨_,rfl,_,_,_,by rw [aB];exact w7,h _ _ _ H _ hO.rd (by omega) ?_ (Fr.refl _ _)⟩;unfold SP.reach SP.roots RH.reach;rw [hz]
  congr 1
  funext k
  have Ox:bD s.h (4*0)=0:=by
   unfold bD;rw [a0a];rintro ⟨h1,_⟩;exact absurd h1 (by decide)
  have:Reaches s.h s.stack k↔Reaches s.h (4*0 :: s.stack) k:=by
   constructor
   ·intro hr
    induction hr with
    | root I5 ic=>exact .root (by simp [I5]) ic
    | cls _ h2 h3 ih=>exact .cls ih h2 h3
    | slot _ h2 h3 h4 h5 ih=>exact .slot ih h2 h3 h4 h5
   ·intro hr
    induction hr with
    | @root w I5 ic =>
     rcases a0E.1 I5 with rfl | I5
     ·exact absurd Ox ic
     ·exact .root I5 ic
    | cls _ h2 h3 ih=>exact .cls ih h2 h3
    | slot _ h2 h3 h4 h5 ih=>exact .slot ih h2 h3 h4 h5
  rw [a2L,decide_eq_true_iff,decide_eq_true_iff];exact this
 ·refine pr (by omega) ⟨_,_,rfl,?_⟩;simp only [show ((0:Int) != 0)=false from rfl,a0f];refine ⟨_,rfl,_,_,_,by rw [aB];exact (eD hB.lt).trans w7,?_⟩;have fb:bZ 1 (H.push (.cells #[ac (4*s.king)] 26)) (some ⟨H.size,0,none⟩) 1 1 (az [4*s.king]) [H.size]:=⟨by simp [az],a0U _,.inr ⟨H.size,_,rfl,rfl,bI.new _ _ _,by simp,by simp [az]⟩⟩;refine dz i7 rfl (by kernel_rfl) fb (hO.fr (Fr.push [] _ _) (by simp)).rd fO (by omega) (by decide) (by decide) fun a' c' F' H' g1 g2 g3=>⟨_,_,_,rfl,?_⟩;have o3:=Up.fresh (H:=H) (Fr.push [] H _) g2 (by simp);refine h _ _ _ H' s.roots ?_ (by omega) rfl o3.1;have e2:az s.roots=az [4*s.king]++az s.stack:=by simp [az,SP.roots]
  rw [e2];exact g1.rd
end
section
variable {H:au}{b:Nat}{F F':aS}{s:SP}{Q:QT}
theorem PW {hb:Nat}{F1:aS}{r:RH} (hR:d9 H hb F1 r){a2:Option Addr}{l2 c2:Nat}{ws:List Int} (hk:Rd 1 H a2 l2 (az ws)) (I6:l2<=1000000)
  (h:∀ H',d9 H' hb F1 (r.keep (r.reach ws)).2->Fr F1 H H'->Q (nM (r.keep (r.reach ws)).1) H'):ag PP 28 #[QW hb,.slice a2 l2 c2] Q H:=by
 apply LZ;dsimp only [ah,bW,dM,ac,av,am,bJ];refine zb hR hk I6 fun a l c G H1 ho hf hG=>⟨_,_,_,_,rfl,?_⟩;simp only [show ((0:Int) != 0)=false from rfl,a0f];have If:=hR.fr hf (bU.nil_right _) (by simp);have an:=hR.lt;have QR:l<=1099511627776:=by
  have h1:=ho.len;have h2:(r.reach ws).length<=r.all.length:=a2w _ _;have h3:=r.upto_len (r.oops+1).toNat;have h4:=hR.wf.o1;have h5:r.all.length<=(r.oops+1).toNat:=h3;simp only [az,a1p] at h1;omega
 refine CX (sM hb r) If ho.rd (fun p hp Jk=>?_) QR fun H2 Jn fa=>⟨_,_,_,rfl,h H2 Jn ((hf.of_nil).trans fa)⟩;have hpG:p.block∈G:=by
  rcases ho.2.2 with ⟨h1,_⟩ | ⟨b',_,h1,rfl,_⟩
  ·rw [h1] at hp;cases hp
  ·rw [h1] at hp;cases hp;simp
 have h1:=hG _ hpG;have h2:=an _ Jk;omega
theorem ja.nilfr {H':au} (hS:ja H b F s) (hf:Fr [] H H'):ja H' b F s:=hS.fr hf (bU.nil_right _) (by simp)
theorem vM (hS:ja H b F s) (h:∀ H',ja H' b F s.collect.2->Fr F H H'->aq H' ⟨b,0,none⟩=aq H ⟨b,0,none⟩->Q (nM s.collect.1) H'):ag PP 10 #[QW b] Q H:=by
 obtain ⟨hb,F1,hR,c0,c3,c1,ff,Of,s6⟩:=hS.upd;apply MC;dsimp only [bk,cq,ah,bW,C6,aF,ac,av,aE,am,bJ];unfold SP.collect at h;refine ip hS ⟨_,rfl,?_⟩;simp only [a0f];refine ⟨_,rfl,_,by rw [aB];exact c3,?_⟩;cases JV:s.op with
 | true =>
  rw [JV] at h;simp only [a0P];exact h H hS (Fr.refl _ _) rfl
 | false =>
  rw [a0a (by rw [JV];simp)] at h;simp only [a0f];refine ⟨_,rfl,_,c0,sm hS fun a l c H1 ws hk hl he hf=>?_⟩;have Om:=hS.nilfr hf;obtain ⟨k9,F1',If,c01,c31,c11,Og,a0t,a0u⟩:=Om.upd;have an:=hS.lt;have D0:b<H.size:=an b hS.bmem;have Jl:aq H1 ⟨b,0,none⟩=aq H ⟨b,0,none⟩:=by unfold aq;rw [hf.2 b D0 (by simp)]
  have hbe:k9=hb:=by rw [Jl,c0] at c01;simpa using c01.symm
  subst hbe;refine ⟨_,_,_,rfl,⟨⟨by rw [Jl];exact c0,trivial⟩,trivial⟩,?_⟩;refine PW If hk (by omega) fun H2 Jn fa=>⟨_,_,_,rfl,trivial,?_⟩;rw [he] at Jn ⊢;refine h H2 (a0u H2 _ Jn fa) ((hf.of_nil).trans (fa.mono Og)) ?_;rw [←Jl];unfold aq;rw [fa.2 b (a0X D0 hf.1) a0t]
theorem jZ (hS:ja H b F s){cls n f:Int} (h:∀ H',ja H' b F (s.alloc cls n f).2->Fr F H H'->Q (.tuple #[ac (if (s.alloc cls n f).1.2=0 then (s.alloc cls n f).1.1 else 0),ac (s.alloc cls n f).1.2]) H') :
  ag PP 279 #[QW b,ac cls,ac n,ac f] Q H:=by
 have JZ:ja (H.push (.cells #[QW b] 34)) b F s:=hS.nilfr (Fr.push [] _ _);have R2:bI (H.push (.cells #[QW b] 34)) H.size #[QW b]:=bI.new _ _ _;have an:=hS.lt;have WE:H.size∉F:=fun hx=>by have:=an _ hx;omega
 apply EY;dsimp only [aL,aA,bk,ah,ak,aF,ac,aE,am,aJ,ax];refine ⟨_,R2.cell 0,ip JZ ⟨_,rfl,?_⟩⟩;simp only [a0f];have w5:Fr F H (H.push (.cells #[QW b] 34)):=Fr.push _ _ _;generalize (H.push (.cells #[QW b] 34))=H0 at JZ R2 w5 ⊢;obtain ⟨hb,F1,hR,c0,c3,c1,ff,Of,s6⟩:=JZ.upd;refine ⟨_,R2.cell 0,_,rfl,_,c0,?_⟩;have fin:∀ (p:Int × Int) (s':SP) (H2:au),ja H2 b F s'->Fr F H H2->s.alloc cls n f=((4*p.1,p.2),s')->(p.2=0->1<=p.1∧p.1<=65536) ->
   ∃ n12 n13:Int,wK p=.tuple #[ac n12,ac n13]∧cond (n13 != 0) (Q (.tuple #[ac 0,ac n13]) H2) (ag PP 84 #[ac n12] (fun v14 H3=>∃ n15:Int,∃ n16:Int,v14=.tuple #[ac n15,ac n16]∧Q (.tuple #[ac n15,ac n16]) H3) H2):=by
  intro p s' H2 J2 fa he hb;rw [he] at h;refine ⟨_,_,rfl,?_⟩;rw [bn,ae];refine aD (fun ic=>?_) fun ic=>?_
  ·have:=h H2 J2 fa;simp only [ic,if_false] at this;exact this
  ·have hz:p.2=0:=a0v ic;have WF:=hb hz;refine pr WF ⟨_,_,rfl,?_⟩
   have:=h H2 J2 fa;simp only [hz,if_true] at this;exact this
 have bnd:∀ (r:RH),WFH r->(r.alloc cls n f).1.2=0->1<=(r.alloc cls n f).1.1∧(r.alloc cls n f).1.1<=65536:=by
  intro r hw hz;have IN:=hw.o1;unfold RH.alloc at hz ⊢;split at hz
  ·simp at hz
  rename_i g1;split at hz
  ·simp at hz
  rename_i g2;split at hz
  ·simp at hz
  rename_i g3;split at hz
  ·simp at hz
  rename_i g4;rw [a0a g1,a0a g2,a0a g3,a0a g4]
  have:=eX hw.objs hw.o1 (by omega);exact ⟨this.1,by have:=this.2.1;simp only;omega⟩
 apply II;dsimp only [aA,bk,ah,ak,ac];show ag PP 72 #[QW hb,ac cls,ac n,ac f] _ H0;refine tQ hR fun H1 If bw=>⟨_,_,rfl,?_⟩;have Om:=s6 H1 _ If bw;have RE:Fr F H H1:=w5.trans (bw.mono ff);have u7:=R2.fr (bw.mono ff) WE;have pe:=hS.wf.h;rw [bq,ae];refine aD (fun he=>?_) fun he=>?_
 ·have R3:=qr he;have RF:ja H1 b F s:=by
   have e:({ s with h:=(s.h.alloc cls n f).2 }:SP)=s:=by rw [R3]
   rw [e] at Om;exact Om
  show ag PP 339 #[.pointer (some ⟨H.size,0,none⟩)] _ H1;apply Dy;dsimp only [aP,bW,aF,am];refine ⟨_,u7.cell 0,vM RF fun H2 J2 fa hsm=>⟨_,_,_,rfl,_,rfl,?_⟩⟩;have Da:=u7.fr fa WE;cases JV:s.op with
  | true =>
   have ec:s.collect=((0,0,25),s):=by unfold SP.collect;rw [JV];rfl
   rw [ec] at J2 ⊢;simp only [show ((25:Int) == 0)=false from rfl,a0f];have ea:s.alloc cls n f=((4*(s.h.alloc cls n f).1.1,(s.h.alloc cls n f).1.2),s):=by
    unfold SP.alloc;rw [a0b (.inr JV),R3]
   exact fin (s.h.alloc cls n f).1 s H2 J2 (RE.trans fa) ea (bnd _ pe)
  | false =>
   have ec:s.collect=((s.h.keep s.reach).1,{ s with h:=(s.h.keep s.reach).2 }):=by unfold SP.collect;rw [JV];rfl
   have ek:(s.h.keep s.reach).1.2.2=0:=by
    unfold RH.keep;rw [a0a];rintro ⟨k,hk,hn⟩;exact ((RH.mem_reach pe).1 hk).there hn
   rw [ec] at J2 ⊢;simp only [ek,show ((0:Int) == 0)=true from rfl,a0P];obtain ⟨k9,F1',Uk,c03,_,_,JJ,_,Oy⟩:=J2.upd;have hbe:k9=hb:=by
    have h1:aq H2 ⟨b,0,none⟩=some (QW hb):=by
     rw [hsm,←c0];unfold aq;rw [bw.2 b (by have:=JZ.lt b JZ.bmem;exact this) Of]
    rw [c03] at h1;simpa using h1
   subst hbe;show ag PP 72 #[QW k9,ac cls,ac n,ac f] _ H2;refine tQ Uk fun H4 Uh uH=>⟨_,_,rfl,?_⟩;have Tq:=Oy H4 _ Uh uH;have ea:s.alloc cls n f=((4*((s.h.keep s.reach).2.alloc cls n f).1.1,((s.h.keep s.reach).2.alloc cls n f).1.2),{ s with h:=((s.h.keep s.reach).2.alloc cls n f).2 }):=by
    unfold SP.alloc;rw [a0a (by simp [he,JV])]
   exact fin ((s.h.keep s.reach).2.alloc cls n f).1 _ H4 Tq ((RE.trans fa).trans (uH.mono JJ)) ea (bnd _ (fT pe _))
 ·have ea:s.alloc cls n f=((4*(s.h.alloc cls n f).1.1,(s.h.alloc cls n f).1.2),{ s with h:=(s.h.alloc cls n f).2 }):=by
   unfold SP.alloc;rw [a0b (.inl he)]
  exact fin (s.h.alloc cls n f).1 _ H1 Om RE ea (bnd _ pe)
theorem rj (hS:ja H b F s){a2:Option Addr}{l2 c2:Nat}{ws:List Int} (hk:Rd 1 H a2 l2 (az ws)) (I6:l2<=1000000000) (h:∀ H' F',ja H' b F' (s.keepW ws).2->Up F H F' H'->Q (ac (s.keepW ws).1) H'):ag PP 74 #[QW b,.slice a2 l2 c2] Q H:=by
 have JZ:=hS;have Is:=hS.lt;have hkd:=hS.kinds;have Tp:=hkd.lt;apply M3;dsimp only [bk,ah,bP,aK,ac,av,aE,am,bM,bj,aI];unfold SP.keepW at h;refine ip hS ⟨_,rfl,?_⟩;simp only [a0f];refine rP hkd hk I6 ⟨_,rfl,?_⟩;rw [ae];refine aD (fun gw=>?_) fun gw=>?_
 ·rw [a0b gw] at h;exact h H F JZ (Up.refl _ _)
 rw [a0a gw] at h;obtain ⟨hb,a,l,c,F1,F2,po,b5,b6,b7,rfl,h1,h2,h3,k1,k2,hB,hR,hO,hw,ho⟩:=hS;have w7:aq H ⟨b,2,none⟩=some (.slice a l c):=hB.cell 2;have hl:l=s.stack.length:=by have:=hO.len;simpa [az] using this.symm
 have K2:l2=ws.length:=by have:=hk.1;simpa [az] using this.symm
 have hm:=hw.many;have i7:bd PP 30=some (1,8,some (ac 0)):=by kernel_rfl
 refine ⟨_,rfl,_,_,_,by rw [aB];exact w7,?_⟩;rw [ao (by omega) (by omega),ae];refine aD (fun SW=>?_) fun SW=>?_
 ·rw [a0b (by omega)] at h;exact h H _ JZ (Up.refl _ _)
 rw [a0a (by omega)] at h;refine ⟨_,rfl,_,_,_,by rw [aB];exact w7,?_⟩;refine dz i7 rfl (by kernel_rfl) hO hk fO (by omega) (by decide) (by decide) fun a' c' F3 H1 g1 g2 g3=>⟨_,_,_,rfl,_,rfl,?_⟩;have Jh:b∉F3:=fun hx=>by
  rcases g2.2 b hx with h4 | h4
  ·exact h2 h4
  ·have:=Is b (by simp);omega
 have a0w:bl∉F3:=fun hx=>by
  rcases g2.2 _ hx with h4 | h4
  ·exact k2 h4
  ·omega
 have u7:=hB.fr g2.1 h2;have I7:Fr [b] H1 (aQ H1 ⟨b,2,none⟩ (.slice a' (l+l2) c')):=Fr.set (by simp);rw [aB];refine ⟨u7.wr (by simp),h _ (b :: (F1++F3)) ⟨hb,a',l+l2,c',F1,F3,po,b5,b6,b7,rfl,h1,Jh,fun x hx Sg=>?_,k1,a0w,u7.set 2 (.slice a' (l+l2) c'),?_,?_,?_,ho⟩ ⟨?_,fun x hx=>?_⟩⟩
 ·rcases g2.2 x Sg with h4 | h4
  ·exact h3 x hx h4
  ·have:=Is x (by simp [hx]);omega
 ·exact (hR.fr g2.1 h3 k2).fr I7 (fun x hx hn=>h1 (by simp only [a0A] at hn;rw [←hn];exact hx)) (by simpa using a3t k1)
 ·simp only;rw [bR];exact g1.fr I7 (fun x hx hn=>Jh (by simp only [a0A] at hn;rw [←hn];exact hx))
 ·refine { hw with many:=?_,words:=fun w I5=>?_ }
  ·simp only [a1h];omega
  ·rcases a0T.1 I5 with h4 | h4
   ·exact hw.words w h4
   ·exact a0v fun hn=>gw ⟨w,h4,hn⟩
 ·exact (g2.1.mono (F':=b :: (F1++F2)) fun x hx=>by simp [hx]).trans (I7.mono fun x hx=>by simp only [a0A] at hx;simp [hx])
 ·rcases a0E.1 hx with rfl | hx
  ·exact .inl (by simp)
  ·rcases a0T.1 hx with hx | hx
   ·exact .inl (by simp [hx])
   ·exact (g2.2 x hx).imp (fun h4=>by simp [h4]) id
theorem rH (hS:ja H b F s) (h:∀ a c H',Rd 1 H' a s.stack.length (az s.stack)->Fr [] H H'->Q (.slice a s.stack.length c) H'):ag PP 63 #[QW b] Q H:=by
 apply Me;dsimp only [bk,cq,ah,aK,av,aE,am];refine ip hS ⟨_,rfl,?_⟩;simp only [a0f];obtain ⟨hb,a,l,c,F1,F2,po,b5,b6,b7,rfl,h1,h2,h3,k1,k2,hB,hR,hO,hw,ho⟩:=hS;have w7:aq H ⟨b,2,none⟩=some (.slice a l c):=hB.cell 2;have hl:l=s.stack.length:=by have:=hO.len;simpa [az] using this.symm
 have hm:=hw.many;refine ⟨_,rfl,_,_,_,by rw [aB];exact w7,?_⟩;refine Bv hO.rd (by omega) fun a' c' G H1 IN bw hG=>⟨_,_,_,rfl,?_⟩;apply DC;dsimp only [av,ax];have hlc:=IN.2.1;refine ⟨⟨⟨by omega,by omega⟩,by omega,by omega⟩,_,_,_,rfl,?_⟩;rw [a0j,hl];rw [hl] at IN;exact h _ _ H1 IN.rd bw
theorem qk (hS:ja H b F s){n:Int} (hn:Ej n) (h:∀ H',ja H' b F (s.drop n).2->Fr F H H'->Q (ac (s.drop n).1) H'):ag PP 8 #[QW b,ac n] Q H:=by
 have JZ:=hS;apply PD;dsimp only [bk,ah,bP,aX,aK,ac,av,aE,am,ax,bj,aI];unfold SP.drop at h;refine ip hS ⟨_,rfl,?_⟩;simp only [a0f,ae];refine aD (fun Sh=>?_) fun Sh=>?_
 ·rw [a0b (.inl Sh)] at h;exact h H JZ (Fr.refl _ _)
 obtain ⟨hb,a,l,c,F1,F2,po,b5,b6,b7,rfl,h1,h2,h3,k1,k2,hB,hR,hO,hw,ho⟩:=hS;have w7:aq H ⟨b,2,none⟩=some (.slice a l c):=hB.cell 2;have hl:l=s.stack.length:=by have:=hO.len;simpa [az] using this.symm
 have hm:=hw.many;refine ⟨_,rfl,_,_,_,by rw [aB];exact w7,aD (fun SW=>?_) fun SW=>?_⟩
 ·rw [a0b (.inr (by omega))] at h;exact h H JZ (Fr.refl _ _)
 rw [a0a (by omega)] at h;have e:IntKind.wrap .i64 ((l:Int)-n)=(l:Int)-n:=ao (by omega) (by omega);have hlc:=hO.2.1;refine ⟨_,rfl,_,_,_,by rw [aB];exact w7,_,rfl,_,_,_,by rw [aB];exact w7,?_⟩;rw [e];have I7:Fr [b] H (aQ H ⟨b,2,none⟩ (.slice a ((l:Int)-n).toNat c)):=Fr.set (by simp);refine ⟨⟨by omega,by omega⟩,_,rfl,by rw [aB];exact hB.wr (by simp),trivial,?_⟩;rw [aB];refine h _ ⟨hb,a,((l:Int)-n).toNat,c,F1,F2,po,b5,b6,b7,rfl,h1,h2,h3,k1,k2,hB.set 2 _,?_,?_,?_,ho⟩ (I7.mono fun x hx=>by simp only [a0A] at hx;simp [hx])
 ·exact hR.fr I7 (fun x hx hn=>h1 (by simp only [a0A] at hn;rw [←hn];exact hx)) (by simpa using a3t k1)
 ·have h4:=hO.fr I7 (fun x hx hn=>h2 (by simp only [a0A] at hn;rw [←hn];exact hx));have h5:s.stack.length-n.toNat=((l:Int)-n).toNat:=by omega
  simp only;rw [h5];refine ⟨by simp [az];omega,by omega,?_⟩;rcases h4.2.2 with ⟨h6,h7,h8⟩ | ⟨b',cs,h6,h7,h8,h9,qz⟩
  ·exact .inl ⟨h6,h7,h8⟩
  ·refine .inr ⟨b',cs,h6,h7,h8,h9,?_⟩;have I3:(cs.toList.take (l*1)).take (((l:Int)-n).toNat*1)=(az s.stack).take (((l:Int)-n).toNat*1):=by rw [qz]
   rw [a4f] at I3;have Jb:min (((l:Int)-n).toNat*1) (l*1)=((l:Int)-n).toNat*1:=by omega
   rw [Jb] at I3;rw [I3];simp [az,List.map_take]
 ·refine { hw with many:=?_,words:=fun w I5=>hw.words w (a2W I5) };simp only [a1q];omega
end
theorem C5 {H:au}{b:Nat}{cs:Array Value} (hB:bI H b cs){o:Nat} (ho:o+3<cs.size) (v0 v1 v2 v3:Value) :
  Wr H ⟨b,o,none⟩∧Wr (aQ H ⟨b,o,none⟩ v0) ⟨b,o+1,none⟩∧Wr (aQ (aQ H ⟨b,o,none⟩ v0) ⟨b,o+1,none⟩ v1) ⟨b,o+2,none⟩ ∧
  Wr (aQ (aQ (aQ H ⟨b,o,none⟩ v0) ⟨b,o+1,none⟩ v1) ⟨b,o+2,none⟩ v2) ⟨b,o+3,none⟩ ∧
  bI (aQ (aQ (aQ (aQ H ⟨b,o,none⟩ v0) ⟨b,o+1,none⟩ v1) ⟨b,o+2,none⟩ v2) ⟨b,o+3,none⟩ v3) b ((((cs.setIfInBounds o v0).setIfInBounds (o+1) v1).setIfInBounds (o+2) v2).setIfInBounds (o+3) v3) ∧
  Fr [b] H (aQ (aQ (aQ (aQ H ⟨b,o,none⟩ v0) ⟨b,o+1,none⟩ v1) ⟨b,o+2,none⟩ v2) ⟨b,o+3,none⟩ v3):=by
 have h0:=hB.set o v0;have h1:=h0.set (o+1) v1;have h2:=h1.set (o+2) v2;refine ⟨hB.wr (by omega),h0.wr (by simp;omega),h1.wr (by simp;omega),h2.wr (by simp;omega),h2.set (o+3) v3,?_⟩;exact (((Fr.set (by simp)).step (by simp)).step (by simp)).step (by simp)
def Dz (cs:Array Value) (i:Nat) (o:RO):Prop:=∃ a c,cs[i*4]?=some (ac o.oop)∧cs[i*4+1]?=some (ac o.cls)∧cs[i*4+2]?=some (ac o.fmt)∧cs[i*4+3]?=some (.slice a o.slots.length c)
theorem Dz.set {cs:Array Value}{i:Nat}{o:RO}{a:Option Addr}{c:Nat} (hs:i*4+3<cs.size) :
  Dz ((((cs.setIfInBounds (i*4) (ac o.oop)).setIfInBounds (i*4+1) (ac o.cls)).setIfInBounds (i*4+2) (ac o.fmt)).setIfInBounds (i*4+3) (.slice a o.slots.length c)) i o:=by
 refine ⟨a,c,?_,?_,?_,?_⟩ <;> simp [a3z] <;> omega
theorem Dz.keep {cs:Array Value}{i j:Nat}{o:RO}{v0 v1 v2 v3:Value} (h:Dz cs j o) (UM:j<i) :
  Dz ((((cs.setIfInBounds (i*4) v0).setIfInBounds (i*4+1) v1).setIfInBounds (i*4+2) v2).setIfInBounds (i*4+3) v3) j o:=by
 obtain ⟨a,c,h0,h1,h2,h3⟩:=h;refine ⟨a,c,?_,?_,?_,?_⟩
 all_goals
  rw [a1Z (by omega),a1Z (by omega),a1Z (by omega),a1Z (by omega)]
  assumption
def QZ (H:au) (a:Option Addr) (l:Nat) (objs:List RO):Prop:=l=objs.length∧∃ ob cs,a=some ⟨ob,0,none⟩∧bI H ob cs∧∀ j (hj:j<objs.length),Dz cs j objs[j]
section
variable {H:au}{hb:Nat}{F:aS}{r:RH}{Q:QT}
theorem sK {H0 G7:au}{wb tb bb:Nat}{W T B:Int->Int}{low:Int}{o:RO}{o1 sb:Nat}{Kend:au->Prop} (ON:∀ {H':au},Fr [] H0 H'->PHs H' hb wb tb bb W T B low r) (ho:o∈r.objs) (w5:Fr [] H0 G7)
  (hm:fc G7 sb o.slots.length fun _=>0) (hB:bI G7 o1 #[ac o.oop,ac o.cls,ac o.fmt,.slice (some ⟨sb,0,none⟩) o.slots.length o.slots.length]) (h1:H0.size<=sb) (h2:o1≠sb)
  (Rv:∀ H8,Fr [sb] G7 H8->bI H8 o1 #[ac o.oop,ac o.cls,ac o.fmt,.slice (some ⟨sb,0,none⟩) o.slots.length o.slots.length]->Kend H8) :
  ∃(I:List Value->au->Prop) (μ:List Value->au->Nat),I [ac 0] G7∧∀ w H7,I w H7->∀ _g:Nat->Value,∃ n:Int,w=[ac n]∧cond (decide (n<(o.slots.length:Int))) (∃ a:Option Addr,∃ l:Nat,∃ c:Nat,aq H7 ⟨o1,3,none⟩=some (.slice a l c) ∧
   ag PP 57 #[QW hb,ac o.oop,ac n] (fun v H8=>∃ x:Int,∃ y:Int,v=.tuple #[ac x,ac y]∧((aq H8 ⟨o1,3,none⟩=some (.slice a l c)∧True)∧True)∧((0:Int)<=n∧n<(l:Int))∧∃ q,a=some q∧Wr H8 (q.add (Int.toNat n))∧True ∧
    I [ac (IntKind.wrap .i64 (n+1))] (aQ H8 (q.add (Int.toNat n)) (ac x))∧μ [ac (IntKind.wrap .i64 (n+1))] (aQ H8 (q.add (Int.toNat n)) (ac x))<μ w H7) H7) (Kend H7):=by
 have Jp:=((ON w5).in_ ho).2.2.2.2.2;refine ⟨fun w H7=>∃ i:Nat,w=[ac i]∧i<=o.slots.length∧Fr [sb] G7 H7∧(∃ f,fc H7 sb o.slots.length f)∧bI H7 o1 #[ac o.oop,ac o.cls,ac o.fmt,.slice (some ⟨sb,0,none⟩) o.slots.length o.slots.length],fun w _=>match w with
  | [.int _ i]=>(o.slots.length-i).toNat
  | _=>0,⟨0,rfl,a07 _,Fr.refl _ _,⟨_,hm⟩,hB⟩,?_⟩
 rintro w H7 ⟨i,rfl,hi,hf,⟨f,Ul⟩,Tr⟩ _;refine ⟨_,rfl,?_⟩;rw [ae];refine aD (fun an=>?_) fun an=>Rv H7 hf Tr;have J7:Fr [] H0 H7:=⟨a0O w5.1 hf.1,fun x hx _=>by rw [hf.2 x (a0X hx w5.1) (by simp;omega),w5.2 x hx (by simp)]⟩;have e:IntKind.wrap .i64 ((i:Int)+1)=((i+1:Nat):Int):=by rw [ao (by omega) (by omega)];omega
 refine ⟨_,_,_,Tr.cell 3,PY (ON J7) ⟨_,_,rfl,⟨⟨Tr.cell 3,trivial⟩,trivial⟩,⟨by omega,an⟩,_,rfl,?_⟩⟩;rw [aB,a0K,e];refine ⟨Ul.wr (by omega) (by omega),trivial,⟨i+1,rfl,by omega,hf.step (by simp),⟨_,Ul.set (by omega) _⟩,Tr.set_ne h2 _⟩,by simp;omega⟩
theorem IA (hR:d9 H hb F r) (h:∀ a c H',QZ H' a r.objs.length r.objs->Fr [] H H'->Q (.agg #[.int .i64 r.words,.int .i64 r.oops,.int .i64 r.mark,.slice a r.objs.length c]) H'):ag PP 119 #[.pointer (some ⟨hb,0,none⟩)] Q H:=by
 have Is:=hR.lt;have hw:=hR.wf;have X7:=hw.w0;have JY:=hw.w1;have Tm:=hw.o0;have IN:=hw.o1;have T9:bd PP 174=some (4,48,some (.agg #[.int .i64 0,.int .i64 0,.int .i64 0,.slice none 0 0])):=by kernel_rfl
 have i7:bd PP 30=some (1,8,some (.int .i64 0)):=by kernel_rfl
 have hcount:r.objs.length<=65537:=by
  have h1:r.objs.length=(r.objs.map (·.oop)).length:=by simp
  have h2:(r.objs.map (·.oop)).length<=r.all.length:=lg (by
   rw [a2A,a2M];exact hw.objs.pw.imp fun h=>h.1) fun k hk=>by
    obtain ⟨o,ho,rfl⟩:=a1n.1 hk;rw [RH.mem_all hw,cN hw.objs ho];simp
  have h3:=r.upto_len (r.oops+1).toNat;have h4:r.all.length<=(r.oops+1).toNat:=h3;omega
 apply Ed;dsimp only [aL,aN,bk,cq,ah,ak,aX,ay,aK,bc,aZ,ac,bf,bX,av,bm,aE,am,aJ,bM,ax,bj,aI];have Zq:Fr [] H (H.push (.cells #[.int .i64 0,.int .i64 0,.int .i64 0,.slice none 0 0] 176)):=Fr.push _ _ _;have hBR:bI (H.push (.cells #[.int .i64 0,.int .i64 0,.int .i64 0,.slice none 0 0] 176)) H.size #[.int .i64 0,.int .i64 0,.int .i64 0,.slice none 0 0]:=bI.new _ _ _;have Wz:(H.push (.cells #[.int .i64 0,.int .i64 0,.int .i64 0,.slice none 0 0] 176)).size=H.size+1:=by simp
 generalize (H.push (.cells #[.int .i64 0,.int .i64 0,.int .i64 0,.slice none 0 0] 176))=H1 at Zq hBR Wz ⊢;obtain ⟨wb,tb,bb,W,T,B,low,rfl,hP⟩:=hR;have ON:∀ {H':au},Fr [] H H'->PHs H' hb wb tb bb W T B low r:=fun hf=>by
  obtain ⟨_,_,_,_,_,_,_,_,_⟩:=hP.rep.fr hf (bU.nil_right _) (by simp);exact { hP with hd:=hP.hd.fr hf (by simp),mw:=hP.mw.fr hf (by simp),mt:=hP.mt.fr hf (by simp),mb:=hP.mb.fr hf (by simp),kinds:=hP.kinds.fr hf (by simp) }
 have Um:=ON Zq;refine ov Um ⟨_,rfl,?_⟩;simp only [a0f];refine ⟨_,rfl,_,_,_,Um.c0,_,rfl,_,_,_,by rw [aB];exact Um.c1,_,rfl,_,by rw [aB];exact Um.c6,?_⟩;simp only [aB,a0K];have e1:IntKind.wrap .i64 ((((r.oops+1).toNat:Nat):Int)-1)=r.oops:=by rw [ao (by omega) (by omega)];omega
 have e2:((r.words.toNat:Nat):Int)=r.words:=by omega
 rw [e1,e2];have hp:=ON (Zq.trans (Fr.push [] H1 (.cells #[.int .i64 0,.int .i64 0,.int .i64 0,.slice none 0 0] 176)));refine ⟨⟨⟨hp.c6,trivial⟩,⟨hp.c1,trivial⟩,⟨hp.c0,trivial⟩,trivial⟩,?_⟩;obtain ⟨w0,w1,w2,w3,RG,Sd⟩:=C5 (bI.new H1 #[.int .i64 0,.int .i64 0,.int .i64 0,.slice none 0 0] 176) (o:=0) (by simp) (.int .i64 r.words) (.int .i64 r.oops) (.int .i64 r.mark) (.slice none 0 0);refine ⟨w0,w1,w2,w3,trivial,_,rfl,?_⟩;simp only [a0K] at RG Sd;rw [aB];have fa:Fr [] H (aQ (aQ (aQ (aQ (H1.push (.cells #[.int .i64 0,.int .i64 0,.int .i64 0,.slice none 0 0] 176)) ⟨H1.size,0,none⟩ (.int .i64 r.words)) ⟨H1.size,1,none⟩ (.int .i64 r.oops)) ⟨H1.size,2,none⟩ (.int .i64 r.mark)) ⟨H1.size,3,none⟩ (.slice none 0 0)):=⟨by have:=Sd.1;simp only [a1e] at this;omega,fun x hx _=>by
  rw [Sd.2 x (by simp;omega) (by simp;omega),a2D,a0a (by omega),Zq.2 x hx (by simp)]⟩
 have WG:=(hBR.push (.cells #[.int .i64 0,.int .i64 0,.int .i64 0,.slice none 0 0] 176)).fr Sd (by simp;omega);have a0x:H1.size+1=(aQ (aQ (aQ (aQ (H1.push (.cells #[.int .i64 0,.int .i64 0,.int .i64 0,.slice none 0 0] 176)) ⟨H1.size,0,none⟩ (.int .i64 r.words)) ⟨H1.size,1,none⟩ (.int .i64 r.oops)) ⟨H1.size,2,none⟩ (.int .i64 r.mark)) ⟨H1.size,3,none⟩ (.slice none 0 0)).size:=by simp [ck]
 generalize (aQ (aQ (aQ (aQ (H1.push (.cells #[.int .i64 0,.int .i64 0,.int .i64 0,.slice none 0 0] 176)) ⟨H1.size,0,none⟩ (.int .i64 r.words)) ⟨H1.size,1,none⟩ (.int .i64 r.oops)) ⟨H1.size,2,none⟩ (.int .i64 r.mark)) ⟨H1.size,3,none⟩ (.slice none 0 0))=H2 at RG fa WG a0x ⊢

 have hP2:=ON fa;refine ⟨_,hP2.c3,qX T9 (by omega) (a1F _) (by omega) (by decide) fun e cs hcs=>⟨_,_,_,rfl,?_⟩⟩;simp only [a0j,aB,a0K] at hcs ⊢;have WH:=RG.push (.cells cs e);refine ⟨WH.wr (by simp),?_⟩;have Ts:=WH.set 3 (.slice (some ⟨H2.size,0,none⟩) r.objs.length r.objs.length);simp only [a1w,a2q,a2r,a1D,a1b,a1s,a1O,a1y,a1C] at Ts;have Si:Fr [H1.size] (H2.push (.cells cs e)) (aQ (H2.push (.cells cs e)) ⟨H1.size,3,none⟩ (.slice (some ⟨H2.size,0,none⟩) r.objs.length r.objs.length)):=Fr.set (by simp);have TO:bI (aQ (H2.push (.cells cs e)) ⟨H1.size,3,none⟩ (.slice (some ⟨H2.size,0,none⟩) r.objs.length r.objs.length)) H2.size cs:=(bI.new H2 cs e).fr Si (by simp;omega);have WI:=(WG.push (.cells cs e)).fr Si (by simp;omega);have uH:Fr [] H (aQ (H2.push (.cells cs e)) ⟨H1.size,3,none⟩ (.slice (some ⟨H2.size,0,none⟩) r.objs.length r.objs.length)):=⟨by have:=fa.1;simp [ck];omega,fun x hx _=>by
  rw [Si.2 x (by have:=fa.1;simp;omega) (by simp;omega),a2D,a0a (by have:=fa.1;omega),fa.2 x hx (by simp)]⟩
 have a0z:H2.size+1=(aQ (H2.push (.cells cs e)) ⟨H1.size,3,none⟩ (.slice (some ⟨H2.size,0,none⟩) r.objs.length r.objs.length)).size:=by simp [ck]
 generalize (aQ (H2.push (.cells cs e)) ⟨H1.size,3,none⟩ (.slice (some ⟨H2.size,0,none⟩) r.objs.length r.objs.length))=H4 at Ts TO WI uH a0z ⊢;have hP4:=ON uH;refine sM hb r hP4 fun a l c G H5 fb JA hG=>⟨_,_,_,rfl,?_⟩;have hl:l=r.objs.length:=by have:=fb.len;simpa [az] using this.symm
 subst hl;have VT:∀ x,x<H4.size->x∉G:=fun x hx hm=>by have:=hG x hm;omega
 refine ⟨fun w H'=>∃(i:Nat) (cs':Array Value),w=[.int .i64 i]∧i<=r.objs.length∧Fr [] H H'∧bI H' H1.size #[.int .i64 r.words,.int .i64 r.oops,.int .i64 r.mark,.slice (some ⟨H2.size,0,none⟩) r.objs.length r.objs.length] ∧
   bI H' H2.size cs'∧cs'.size=r.objs.length*4∧(∀ j (hj:j<r.objs.length),j<i->Dz cs' j r.objs[j])∧bZ 1 H' a r.objs.length c (az (r.objs.map (·.oop))) G∧bI H' H.size #[.int .i64 0,.int .i64 0,.int .i64 0,.slice none 0 0]∧H4.size<=H'.size,fun w _=>match w with
  | [.int _ i]=>(r.objs.length-i).toNat
  | _=>0,⟨0,cs,rfl,a07 _,uH.trans JA,Ts.fr JA (by simp),TO.fr JA (by simp),hcs,by simp,fb,WI.fr JA (by simp),JA.1⟩,?_⟩
 rintro w H6 ⟨i,cs6,rfl,hi,Jo,SC,U7,WJ,U8,SX,U9,a0B⟩ _;refine ⟨_,rfl,?_⟩;rw [ae];refine aD (fun an=>?_) fun an=>?_
 ·have b9:i<r.objs.length:=by omega
  have TP:r.objs[i]∈r.objs:=a04 b9;have Un:=ON Jo;obtain ⟨p,rfl,aj,be⟩:=SX.rd.int (i:=(i:Int)) (by omega) an;rw [a0j] at aj be;have hx:(r.objs.map (·.oop)).getD i 0=r.objs[i].oop:=by simp [b9]
  rw [hx] at aj;have hg:=hw.objs.good r.objs[i] TP;have UV:=hg.oop1;have Z6:=hg.oop2;have hgp:=hg.pl;have hgf:=hg.fits;have Tp:=r.objs[i].len_pos;have Jp:=hg.many;have TQ:=Un.sim.tab r.objs[i].oop (by omega) (by omega);rw [cN hw.objs TP] at TQ;simp only at TQ;have Zr:=Un.tabc (i:=r.objs[i].oop) (by omega) (by omega);rw [TQ] at Zr;have hwc:=Un.word (i:=r.objs[i].place) (by omega) (by omega);rw [Un.sim.cls _ TP] at hwc;refine ⟨⟨by omega,an⟩,_,rfl,_,by rw [a0j,a0y];exact aj,_,rfl,_,_,_,Un.c1,⟨by omega,by omega⟩,_,rfl,_,by rw [aB,a0K,a0y];exact Zr,?_⟩;refine ud Un TP ⟨_,_,rfl,_,rfl,_,_,_,Un.c0,_,rfl,_,_,_,Un.c1,⟨by omega,by omega⟩,_,rfl,_,by rw [aB,a0K,a0y];exact Zr,⟨by omega,by omega⟩,_,rfl,_,by rw [aB,a0K,a0y];exact hwc,?_⟩;simp only [aB,a0K,a0y,a0j];have OK:∀ {H':au},Fr [] H6 H'->PHs H' hb wb tb bb W T B low r:=fun hf=>ON (Jo.trans hf);have holds:∀ {H':au},Fr [] H6 H'->(((aq H' ⟨wb,r.objs[i].place.toNat,none⟩=some (.int .i64 r.objs[i].cls)∧True)∧(aq H' ⟨tb,r.objs[i].oop.toNat,none⟩=some (.int .i64 r.objs[i].place)∧True)∧(aq H' ⟨hb,1,none⟩=some (.slice (some ⟨tb,0,none⟩) (r.oops+1).toNat (r.oops+1).toNat)∧True)∧(aq H' ⟨hb,0,none⟩=some (.slice (some ⟨wb,0,none⟩) r.words.toNat r.words.toNat)∧True)∧True)):=fun hf=>by
   have hq:=OK hf;have h1:=hq.tabc (i:=r.objs[i].oop) (by omega) (by omega);rw [TQ] at h1;have h2:=hq.word (i:=r.objs[i].place) (by omega) (by omega);rw [hq.sim.cls _ TP] at h2;exact ⟨⟨h2,trivial⟩,⟨h1,trivial⟩,⟨hq.c1,trivial⟩,⟨hq.c0,trivial⟩,trivial⟩
  have e:IntKind.wrap .i64 ((i:Int)+1)=((i+1:Nat):Int):=by rw [ao (by omega) (by omega)];omega
  have D0:H1.size<H6.size:=SC.lt;have a0D:H2.size<H6.size:=U7.lt;have hHl:H.size<H6.size:=U9.lt;have Zs:=SX.lt;have entry:∀ (G7 H8:au) (o1 sb:Nat),H6.size<=o1->H6.size<=sb->Fr [] H6 G7->Fr [sb] G7 H8->bI H8 o1 #[.int .i64 r.objs[i].oop,.int .i64 r.objs[i].cls,.int .i64 r.objs[i].fmt,.slice (some ⟨sb,0,none⟩) r.objs[i].slots.length r.objs[i].slots.length] ->
    Fr [] H H8∧bI H8 H1.size #[.int .i64 r.words,.int .i64 r.oops,.int .i64 r.mark,.slice (some ⟨H2.size,0,none⟩) r.objs.length r.objs.length]∧bI H8 H2.size cs6∧bZ 1 H8 (some p) r.objs.length c (az (r.objs.map (·.oop))) G∧bI H8 H.size #[.int .i64 0,.int .i64 0,.int .i64 0,.slice none 0 0]∧H4.size<=H8.size:=by
   intro G7 H8 o1 sb h1 h2 Tt I7 hbo;have SY:∀ x,x<H6.size->H8[x]?=H6[x]?:=fun x hx=>by rw [I7.2 x (a0X hx Tt.1) (by simp;omega),Tt.2 x hx (by simp)]
   refine ⟨⟨a0O (a0O Jo.1 Tt.1) I7.1,fun x hx _=>by rw [SY x (a0X hx Jo.1),Jo.2 x hx (by simp)]⟩,SC.of_eq (SY _ D0),U7.of_eq (SY _ a0D),SX.keep fun b hb=>SY b (Zs b hb),U9.of_eq (SY _ hHl),a0O a0B (a0O Tt.1 I7.1)⟩
  refine ⟨?_,?_⟩
  ·refine dQ i7 rfl (by omega) (a1F _) (by omega) (by decide) fun e7=>⟨_,_,_,rfl,holds (Fr.push _ _ _),holds ((Fr.push [] H6 _).more),?_⟩;simp only [a0j];have Ul:fc (H6.push (.cells (Array.replicate r.objs[i].slots.length (.int .i64 0)) e7)) H6.size r.objs[i].slots.length fun _=>0:=fc.new _ _ _;have hs7:(H6.push (.cells (Array.replicate r.objs[i].slots.length (.int .i64 0)) e7)).size=H6.size+1:=by simp
   have J7:Fr [] H6 (H6.push (.cells (Array.replicate r.objs[i].slots.length (.int .i64 0)) e7)):=Fr.push _ _ _;generalize (H6.push (.cells (Array.replicate r.objs[i].slots.length (.int .i64 0)) e7))=H7 at Ul hs7 J7 ⊢;obtain ⟨v0,v1,v2,v3,Sj,OS⟩:=C5 (bI.new H7 #[.int .i64 0,.int .i64 0,.int .i64 0,.slice none 0 0] 179) (o:=0) (by simp) (.int .i64 r.objs[i].oop) (.int .i64 r.objs[i].cls) (.int .i64 r.objs[i].fmt) (.slice (some ⟨H6.size,0,none⟩) r.objs[i].slots.length r.objs[i].slots.length);simp only [a0K] at Sj OS;refine ⟨v0,v1,v2,v3,trivial,_,_,_,Sj.cell 3,?_⟩;refine sK (hb:=hb) (r:=r) (H0:=H6) (o1:=H7.size) (sb:=H6.size) OK TP ⟨by have:=OS.1;simp only [a1e] at this;omega,fun x hx _=>?_⟩ ((Ul.push _).fr OS (by simp;omega)) Sj (a0U _) (by omega) fun H8 Oz Oh=>?_
   ·rw [OS.2 x (by simp;omega) (by simp;omega),a2D,a0a (by omega),J7.2 x hx (by simp)]
   obtain ⟨k1,k2,k3,k4,k5,k6⟩:=entry _ H8 H7.size H6.size (by omega) (by omega) (show Fr [] H6 _ from ⟨by have:=OS.1;simp only [a1e] at this;omega,fun x hx _=>by rw [OS.2 x (by simp;omega) (by simp;omega),a2D,a0a (by omega),J7.2 x hx (by simp)]⟩) Oz Oh;refine ⟨_,_,_,k2.cell 3,_,Oh.cell 0,_,Oh.cell 1,_,Oh.cell 2,_,_,_,Oh.cell 3,⟨by omega,an⟩,_,rfl,?_⟩;simp only [aB,a0K];obtain ⟨u0,u1,u2,u3,Rp,On⟩:=C5 k3 (o:=i*4) (by omega) (.int .i64 r.objs[i].oop) (.int .i64 r.objs[i].cls) (.int .i64 r.objs[i].fmt) (.slice (some ⟨H6.size,0,none⟩) r.objs[i].slots.length r.objs[i].slots.length);refine ⟨u0,u1,u2,u3,?_⟩;rw [e];have Va:H2.size∉G:=VT _ (by omega);refine ⟨⟨i+1,_,rfl,by omega,⟨a0O k1.1 On.1,fun x hx _=>by rw [On.2 x (a0X hx k1.1) (by have:=fa.1;simp;omega),k1.2 x hx (by simp)]⟩,k2.fr On (by simp;omega),Rp,by simpa using WJ,fun j hj JW=>?_,k4.fr On (fun x hx hm=>Va (by simp only [a0A] at hm;rw [←hm];exact hx)),k5.fr On (by have:=fa.1;simp;omega),a0O k6 On.1⟩,by simp;omega⟩;by_cases TJ:j=i
   ·subst TJ;exact Dz.set (by omega)
   ·exact (U8 j hj (by omega)).keep (by omega)
  ·refine ⟨holds (Fr.push _ _ _),?_⟩;have WL:bI (H6.push (.cells #[.int .i64 0,.int .i64 0,.int .i64 0,.slice none 0 0] 179)) H6.size #[.int .i64 0,.int .i64 0,.int .i64 0,.slice none 0 0]:=bI.new _ _ _;have OX:Fr [] H6 (H6.push (.cells #[.int .i64 0,.int .i64 0,.int .i64 0,.slice none 0 0] 179)):=Fr.push _ _ _;have hsp:(H6.push (.cells #[.int .i64 0,.int .i64 0,.int .i64 0,.slice none 0 0] 179)).size=H6.size+1:=by simp
   generalize (H6.push (.cells #[.int .i64 0,.int .i64 0,.int .i64 0,.slice none 0 0] 179))=HP at WL OX hsp ⊢;refine dQ i7 rfl (by omega) (a1F _) (by omega) (by decide) fun e7=>⟨_,_,_,rfl,holds (OX.more),?_⟩;simp only [a0j];have Ul:fc (HP.push (.cells (Array.replicate r.objs[i].slots.length (.int .i64 0)) e7)) HP.size r.objs[i].slots.length fun _=>0:=fc.new _ _ _;have hs7:(HP.push (.cells (Array.replicate r.objs[i].slots.length (.int .i64 0)) e7)).size=H6.size+2:=by simp;omega
   have J7:Fr [] H6 (HP.push (.cells (Array.replicate r.objs[i].slots.length (.int .i64 0)) e7)):=OX.more;have WM:=WL.push (.cells (Array.replicate r.objs[i].slots.length (.int .i64 0)) e7);generalize (HP.push (.cells (Array.replicate r.objs[i].slots.length (.int .i64 0)) e7))=H7 at Ul hs7 J7 WM ⊢;obtain ⟨v0,v1,v2,v3,Sj,OS⟩:=C5 WM (o:=0) (by simp) (.int .i64 r.objs[i].oop) (.int .i64 r.objs[i].cls) (.int .i64 r.objs[i].fmt) (.slice (some ⟨HP.size,0,none⟩) r.objs[i].slots.length r.objs[i].slots.length);simp only [a0K] at Sj OS;refine ⟨v0,v1,v2,v3,trivial,_,_,_,Sj.cell 3,?_⟩;refine sK (hb:=hb) (r:=r) (H0:=H6) (o1:=H6.size) (sb:=HP.size) OK TP ⟨by have:=OS.1;omega,fun x hx _=>?_⟩ (Ul.fr OS (by simp;omega)) Sj (by omega) (by omega) fun H8 Oz Oh=>?_
   ·rw [OS.2 x (by omega) (by simp;omega),J7.2 x hx (by simp)]
   obtain ⟨k1,k2,k3,k4,k5,k6⟩:=entry _ H8 H6.size HP.size (by omega) (by omega) (show Fr [] H6 _ from ⟨by have:=OS.1;omega,fun x hx _=>by rw [OS.2 x (by omega) (by simp;omega),J7.2 x hx (by simp)]⟩) Oz Oh;refine ⟨_,_,_,k2.cell 3,_,Oh.cell 0,_,Oh.cell 1,_,Oh.cell 2,_,_,_,Oh.cell 3,⟨by omega,an⟩,_,rfl,?_⟩;simp only [aB,a0K];obtain ⟨u0,u1,u2,u3,Rp,On⟩:=C5 k3 (o:=i*4) (by omega) (.int .i64 r.objs[i].oop) (.int .i64 r.objs[i].cls) (.int .i64 r.objs[i].fmt) (.slice (some ⟨HP.size,0,none⟩) r.objs[i].slots.length r.objs[i].slots.length);refine ⟨u0,u1,u2,u3,?_⟩;rw [e];have Va:H2.size∉G:=VT _ (by omega);refine ⟨⟨i+1,_,rfl,by omega,⟨a0O k1.1 On.1,fun x hx _=>by rw [On.2 x (a0X hx k1.1) (by have:=fa.1;simp;omega),k1.2 x hx (by simp)]⟩,k2.fr On (by simp;omega),Rp,by simpa using WJ,fun j hj JW=>?_,k4.fr On (fun x hx hm=>Va (by simp only [a0A] at hm;rw [←hm];exact hx)),k5.fr On (by have:=fa.1;simp;omega),a0O k6 On.1⟩,by simp;omega⟩;by_cases TJ:j=i
   ·subst TJ;exact Dz.set (by omega)
   ·exact (U8 j hj (by omega)).keep (by omega)
 ·have hii:i=r.objs.length:=by omega
  subst hii;obtain ⟨v0,v1,v2,v3,Sj,OS⟩:=C5 U9 (o:=0) (by simp) (.int .i64 r.words) (.int .i64 r.oops) (.int .i64 r.mark) (.slice (some ⟨H2.size,0,none⟩) r.objs.length r.objs.length);simp only [a0K] at Sj OS;refine ⟨_,SC.cell 0,_,SC.cell 1,_,SC.cell 2,_,_,_,SC.cell 3,v0,v1,v2,v3,_,Sj.cell 0,_,Sj.cell 1,_,Sj.cell 2,_,_,_,Sj.cell 3,?_⟩;refine h _ _ _ ⟨rfl,H2.size,cs6,rfl,U7.fr OS (by have:=fa.1;simp;omega),fun j hj=>U8 j hj hj⟩ ⟨a0O Jo.1 OS.1,fun x hx _=>?_⟩;rw [OS.2 x (a0X hx Jo.1) (by simp;omega),Jo.2 x hx (by simp)]
end
section
variable {Q:QT}{H:au}
variable {a b c d A B D P:Option Addr}{i j k m n x y z I J K M N:Int}{l o r s u v L O R S U V:Nat}{t w T W:ByteArray}{e E g:Bool}{q:Option Nat}{p X Y Z:Value}{F G:Addr}
theorem KQ (h:Q (aP (i != i)) H):ag PP 247 #[ac i] Q H :=
 okF Tryz.func247 rfl h
end
section
variable {H:au}{Q:QT}
theorem M5 {n m:Int} (h:Q (.bool (decide (n<m))) H):ag PP 246 #[ac n,ac m] Q H:=by
 apply KG;dsimp only [aP,bk,ah,aX,ac];apply Hm;dsimp only [aP];refine ⟨_,rfl,?_⟩;rw [bn];simp only [a3Q,not_true_eq_false,decide_false,a0f];exact h
theorem Qj {n:Int} (h:Q (.bool false) H):ag PP 247 #[ac n] Q H:=by
 apply KQ;dsimp only [aP];rw [bn];simpa using h
theorem Nt {x:Int} (h0:0<=x) (h1:x<=4000000000):IntKind.wrap .i64 (iL .u64 (IntKind.wrap .u64 (IntKind.wrap .i64 x)) 1)=x / 2:=by
 rw [ao (n:=x) (by omega) (by omega)];have e:IntKind.wrap .u64 x=x:=by
  simp only [IntKind.wrap,IntKind.bits,IntKind.signed];simp;omega
 rw [e];unfold iL
 have:min (Int.toNat (1:Int)) (IntKind.bits .u64)=1:=by decide
 rw [this,Int.fdiv_eq_ediv_of_nonneg _ (by decide)];have e2:(2:Int) ^ 1=2:=by decide
 rw [e2,ao (by omega) (by omega)]
theorem A3 {a:Option Addr}{l c:Nat}{ks:List Int}{n:Int} (hk:Rd 1 H a l (az ks)) (I6:l<=1000000000) (hs:ks.Pairwise (· < ·)) (h:∀ x:Int,Q (.tuple #[ac x,.bool (decide (n∈ks))]) H):ag PP 120 #[.slice a l c,ac n] Q H:=by
 have hl:l=ks.length:=by have:=hk.1;simpa [az] using this.symm
 have JF:∀ (i j:Nat) (hi:i<ks.length) (hj:j<ks.length),i<j->ks[i]<ks[j]:=fun i j hi hj UM=>(List.pairwise_iff_getElem.1 hs) i j hi hj UM;apply IL;dsimp only [aP,bk,ah,aX,ay,bc,ac,bf,js,bm,ax,bJ,aI];refine ⟨fun w H'=>H'=H∧∃ i j:Nat,w=[ac i,ac j]∧i<=j∧j<=l∧(∀ t (ht:t<ks.length),t<i->ks[t]<n)∧∀ t (ht:t<ks.length),j<=t->n<=ks[t],fun w _=>match w with
  | [.int _ i,.int _ j]=>(j-i).toNat
  | _=>0,⟨rfl,0,l,rfl,a07 _,a0U _,by simp,fun t ht HS=>by omega⟩,?_⟩
 rintro w H1 ⟨rfl,i,j,rfl,UM,OR,J5,V7⟩ _;refine ⟨_,_,rfl,?_⟩;rw [ae,Nt (by omega) (by omega)];refine aD (fun an=>?_) fun an=>?_
 ·have VQ:((i:Int)+j) / 2=(((i+j) / 2:Nat):Int):=by omega
  rw [VQ];have TN:(i+j) / 2<ks.length:=by omega
  obtain ⟨p,rfl,aj,be⟩:=hk.int (i:=(((i+j) / 2:Nat):Int)) (by omega) (by omega);rw [a0j] at aj;have hx:ks.getD ((i+j) / 2) 0=ks[(i+j) / 2]:=by simp [TN]
  rw [hx] at aj;refine ⟨⟨by omega,by omega⟩,_,rfl,_,by rw [a0j,a0y];exact aj,M5 ⟨_,rfl,?_⟩⟩;rw [ae];have e:IntKind.wrap .i64 ((((i+j) / 2:Nat):Int)+1)=(((i+j) / 2+1:Nat):Int):=by rw [ao (by omega) (by omega)];omega
  refine aD (fun JS=>?_) fun JS=>?_
  ·rw [e];refine ⟨⟨rfl,_,j,rfl,by omega,OR,fun t ht hti=>?_,V7⟩,by simp;omega⟩;rcases a2t t ((i+j) / 2) with h1 | h1
   ·have:=JF t _ ht TN h1;omega
   ·have:t=(i+j) / 2:=by omega
    subst this;exact JS
  ·refine ⟨⟨rfl,i,_,rfl,by omega,by omega,J5,fun t ht hti=>?_⟩,by simp;omega⟩;rcases a2t ((i+j) / 2) t with h1 | h1
   ·have:=JF _ t TN ht h1;omega
   ·have:t=(i+j) / 2:=by omega
    subst this;omega
 ·have a0F:i=j:=by omega
  subst a0F;rw [ae];refine aD (fun JS=>?_) fun JS=>?_
  ·have ui:i<ks.length:=by omega
   obtain ⟨p,rfl,aj,be⟩:=hk.int (i:=(i:Int)) (by omega) JS;rw [a0j] at aj;have hx:ks.getD i 0=ks[i]:=by simp [ui]
   rw [hx] at aj;refine ⟨⟨by omega,JS⟩,_,rfl,_,by rw [a0j,a0y];exact aj,?_⟩;rw [bq,ae];refine aD (fun heq=>?_) fun heq=>?_
   ·have:n∈ks:=by rw [←heq];exact a04 ui
    have h2:=h i;rw [a00 this] at h2;exact h2
   ·refine ⟨⟨by omega,JS⟩,_,rfl,_,by rw [a0j,a0y];exact aj,Qj ⟨_,rfl,?_⟩⟩;simp only [a0f]
    have:n∉ks:=fun hm=>by
     obtain ⟨t,ht,hte⟩:=a2X.1 hm;rcases Nat.lt_trichotomy t i with h1 | h1 | h1
     ·have:=J5 t ht h1;omega
     ·subst h1;exact heq hte
     ·have h2:=JF i t ui ht h1;have h3:=V7 i ui (a0U _);omega
    have h2:=h i;rw [a09 this] at h2;exact h2
  ·have:n∉ks:=fun hm=>by
    obtain ⟨t,ht,hte⟩:=a2X.1 hm
    have:=J5 t ht (by omega);omega
   have h2:=h i;rw [a09 this] at h2;exact h2
theorem zM {n f:Int} (h0:0<=n) (h1:n<=1000000000) (h:Q (ac (lenOf n f)) H):ag PP 121 #[ac n,ac f] Q H:=by
 apply Ko;dsimp only [ah,ac,aI];rw [bq,ae];unfold lenOf at h;refine aD (fun hf=>?_) fun hf=>?_
 ·rw [a0b hf] at h;rw [ao (n:=n+3) (by omega) (by omega),lM,a0b (by omega),ao (n:=(n+3) / 4) (by omega) (by omega),ao (by omega) (by omega)];exact h
 ·rw [a0a hf] at h;rw [ao (by omega) (by omega)];exact h
end
theorem nk {r:RH} (ws:List Int):(r.reach ws).Pairwise (· < ·):=(RH.all_sorted r).filter _
def Mh (r:RH) (k:Int):Int:=match aT r.objs k with
 | some o=>o.len
 | none=>2
theorem BV {l m:List Int} (h:l.Perm m):l.sum=m.sum:=by
 induction h with
 | nil=>rfl
 | cons x _ ih=>simp [ih]
 | swap x y l=>simp;omega
 | trans _ _ ih1 ih2=>exact ih1.trans ih2
theorem z8 {r:RH} (hw:WFH r) (ws:List Int):((r.objs.filter fun o=>decide (o.oop∈r.reach ws)).map RO.len).sum=((r.reach ws).map (Mh r)).sum:=by
 have h1:((r.objs.filter fun o=>decide (o.oop∈r.reach ws)).map (·.oop)).Perm (r.reach ws):=by
  rw [a3p]
  ·intro k;simp only [a1n,a2l,decide_eq_true_eq];constructor
   ·rintro ⟨o,⟨_,h2⟩,rfl⟩;exact h2
   ·intro hk
    have:=((RH.mem_reach hw).1 hk).there;cases ho:aT r.objs k with
    | none=>exact absurd ho this
    | some o=>exact ⟨o,⟨(aR ho).1,by rw [(aR ho).2];exact hk⟩,(aR ho).2⟩
  ·rw [a2A,a2M];exact (hw.objs.pw.filter _).imp fun h=>h.1
  ·exact (nk ws).imp fun h e=>by omega
 rw [←BV (a3R (Mh r) h1),a3n]
 congr 1
 apply a3B;intro o ho
 have:=cN hw.objs (a2l.1 ho).1;simp [Mh,this]
theorem xF {r:RH} (hw:WFH r):r.objs.length<=65537:=by
 have Tm:=hw.o0;have IN:=hw.o1;have h1:r.objs.length=(r.objs.map (·.oop)).length:=by simp
 have h2:(r.objs.map (·.oop)).length<=r.all.length:=lg (by
  rw [a2A,a2M];exact hw.objs.pw.imp fun h=>h.1) fun k hk=>by
   obtain ⟨o,ho,rfl⟩:=a1n.1 hk;rw [RH.mem_all hw,cN hw.objs ho];simp
 have h3:=r.upto_len (r.oops+1).toNat;have h4:r.all.length<=(r.oops+1).toNat:=h3;omega
section
variable {H:au}{b:Nat}{F F':aS}{s:SP}{Q:QT}
theorem CU (hS:ja H b F s) (h:∀ H',Fr [] H H'->Q (wK s.room) H'):ag PP 58 #[QW b] Q H:=by
 have hw:=hS.wf.h;have X7:=hw.w0;have JY:=hw.w1;have Tm:=hw.o0;have IN:=hw.o1;have hcount:=xF hw;have an:=hS.lt;have D0:b<H.size:=an b hS.bmem;apply NN;dsimp only [aL,aN,aA,bk,aC,cq,ah,rZ,kg,dM,aX,ay,aK,aF,bc,ac,bf,js,av,bm,aE,am,aJ,ax,bj,aI];refine ip hS ⟨_,rfl,?_⟩;simp only [a0f];obtain ⟨hb,F1,hR,c0,c3,c1,ff,Of,s6⟩:=hS.upd;refine ⟨_,rfl,_,c0,sm hS fun a l c H1 ws hk hl he bw=>⟨_,_,_,rfl,?_⟩⟩;have cell0:∀ {H':au},Fr [] H H'->aq H' ⟨b,0,none⟩=some (QW hb):=fun hf=>by
  rw [←c0];unfold aq;rw [hf.2 b D0 (by simp)]
 have repOf:∀ {H':au},Fr [] H H'->d9 H' hb F1 s.h:=fun hf=>hR.fr hf (bU.nil_right _) (by simp);refine ⟨⟨⟨cell0 bw,trivial⟩,trivial⟩,?_⟩;refine zb (repOf bw) hk (by omega) fun a2 l2 c2 G H2 Sk fa hG=>⟨_,_,_,_,rfl,trivial,?_⟩;rw [he] at Sk;simp only [show ((0:Int) != 0)=false from rfl,a0f];have yB:=bw.trans fa;refine ⟨_,rfl,_,cell0 yB,IA (repOf yB) fun a3 c3' H3 s8 l7=>⟨_,_,_,_,_,_,rfl,?_⟩⟩;have K2:l2=s.reach.length:=by have:=Sk.len;simpa [az] using this.symm
 have hreach:s.reach.length<=65537:=by
  have h2:s.reach.length<=s.h.all.length:=a2w _ _;have h3:=s.h.upto_len (s.h.oops+1).toNat;have h4:s.h.all.length<=(s.h.oops+1).toNat:=h3;omega
 obtain ⟨v0,v1,v2,v3,RG,Sd⟩:=C5 (bI.new H3 #[ac 0,ac 0,ac 0,.slice none 0 0] 176) (o:=0) (by simp) (ac s.h.words) (ac s.h.oops) (ac s.h.mark) (.slice a3 s.h.objs.length c3');simp only [aB,a0K] at RG Sd ⊢;refine ⟨v0,v1,v2,v3,_,RG.cell 0,_,_,_,RG.cell 3,?_⟩;have o3:∀ x,x<H3.size->(aQ (aQ (aQ (aQ (H3.push (.cells #[ac 0,ac 0,ac 0,.slice none 0 0] 176)) ⟨H3.size,0,none⟩ (ac s.h.words)) ⟨H3.size,1,none⟩ (ac s.h.oops)) ⟨H3.size,2,none⟩ (ac s.h.mark)) ⟨H3.size,3,none⟩ (.slice a3 s.h.objs.length c3'))[x]?=H3[x]?:=fun x hx=>by
  rw [Sd.2 x (by simp;omega) (by simp;omega),a2D,a0a (by omega)]
 have zw:H3.size+1=(aQ (aQ (aQ (aQ (H3.push (.cells #[ac 0,ac 0,ac 0,.slice none 0 0] 176)) ⟨H3.size,0,none⟩ (ac s.h.words)) ⟨H3.size,1,none⟩ (ac s.h.oops)) ⟨H3.size,2,none⟩ (ac s.h.mark)) ⟨H3.size,3,none⟩ (.slice a3 s.h.objs.length c3')).size:=by simp [ck]
 generalize (aQ (aQ (aQ (aQ (H3.push (.cells #[ac 0,ac 0,ac 0,.slice none 0 0] 176)) ⟨H3.size,0,none⟩ (ac s.h.words)) ⟨H3.size,1,none⟩ (ac s.h.oops)) ⟨H3.size,2,none⟩ (ac s.h.mark)) ⟨H3.size,3,none⟩ (.slice a3 s.h.objs.length c3'))=H4 at RG o3 zw ⊢;have Vb:Fr [] H3 H4:=⟨by omega,fun x hx _=>o3 x hx⟩;have uH:Fr [] H H4:=(yB.trans l7).trans Vb;obtain ⟨_,ob,cs,rfl,OQ,a0G⟩:=s8;have TO:=OQ.fr Vb (by simp);have a0H:=(Sk.fr l7 (by simp)).fr Vb (by simp);have WN:s.reach.Pairwise (· < ·):=nk _;have OV:s.room=(s.h.words-((s.h.objs.filter fun o=>decide (o.oop∈s.reach)).map RO.len).sum,s.h.oops-(s.reach.length:Int)):=by
  unfold SP.room;rw [show ((s.h.objs.filter fun o=>decide (o.oop∈s.reach)).map RO.len).sum=_ from z8 hw s.roots];rfl
 refine ⟨fun w H'=>∃ i:Nat,w=[ac (s.h.words-(((s.h.objs.take i).filter fun o=>decide (o.oop∈s.reach)).map RO.len).sum),ac i]∧i<=s.h.objs.length∧Fr [] H4 H',fun w _=>match w with
  | [_,.int _ i]=>(s.h.objs.length-i).toNat
  | _=>0,⟨0,by simp,a07 _,Fr.refl _ _⟩,?_⟩
 rintro w H5 ⟨i,rfl,hi,JA⟩ _;have Vc:=RG.fr JA (by simp);refine ⟨_,_,rfl,?_⟩;rw [ae];refine aD (fun U5=>?_) fun U5=>?_
 ·have b9:i<s.h.objs.length:=by omega
  obtain ⟨ai,ci,g0,g1,g2,g3⟩:=a0G i b9;have TR:=TO.fr JA (by simp);have TP:s.h.objs[i]∈s.h.objs:=a04 b9;have hg:=hw.objs.good _ TP;have Jp:=hg.many;have e:IntKind.wrap .i64 ((i:Int)+1)=((i+1:Nat):Int):=by rw [ao (by omega) (by omega)];omega
  have lj:s.h.objs.take (i+1)=s.h.objs.take i++[s.h.objs[i]]:=by rw [a1i];simp [b9]
  refine ⟨⟨by omega,U5⟩,_,rfl,?_⟩;simp only [aB,a0K,a0j];refine ⟨_,by rw [TR.cell];exact g0,_,by rw [TR.cell];exact g1,_,by rw [TR.cell];exact g2,_,_,_,by rw [TR.cell];exact g3,?_⟩;obtain ⟨u0,u1,u2,u3,TS,Si⟩:=C5 (bI.new H5 #[ac 0,ac 0,ac 0,.slice none 0 0] 179) (o:=0) (by simp) (ac s.h.objs[i].oop) (ac s.h.objs[i].cls) (ac s.h.objs[i].fmt) (.slice ai s.h.objs[i].slots.length ci);simp only [a0K] at TS Si;refine ⟨u0,u1,u2,u3,_,TS.cell 0,?_⟩;have Vd:Fr [] H5 (aQ (aQ (aQ (aQ (H5.push (.cells #[ac 0,ac 0,ac 0,.slice none 0 0] 179)) ⟨H5.size,0,none⟩ (ac s.h.objs[i].oop)) ⟨H5.size,1,none⟩ (ac s.h.objs[i].cls)) ⟨H5.size,2,none⟩ (ac s.h.objs[i].fmt)) ⟨H5.size,3,none⟩ (.slice ai s.h.objs[i].slots.length ci)):=⟨by have:=Si.1;simp only [a1e] at this;omega,fun x hx _=>by
   rw [Si.2 x (by simp;omega) (by simp;omega),a2D,a0a (by omega)]⟩
  have a0I:=(a0H.fr JA (by simp)).fr Vd (by simp);refine A3 a0I.rd (by omega) WN fun x=>⟨_,_,rfl,?_⟩;have Ui:((s.h.objs.length:Int)-((i+1:Nat):Int)).toNat<((s.h.objs.length:Int)-(i:Int)).toNat:=by omega
  have hsumle:∀ l:List RO,(∀ o∈l,o∈s.h.objs)->0<=(l.map RO.len).sum∧(l.map RO.len).sum<=9000*(l.length:Int):=by
   intro l
   induction l with
   | nil=>simp
   | cons o l ih =>
    intro hl;have h1:=ih fun x hx=>hl x (by simp [hx]);have h2:=o.len_pos;have h3:=(hw.objs.good o (hl o (by simp))).many;have h4:o.len<=2+(o.slots.length:Int)+3:=jg (by omega);simp only [a2k,List.sum_cons,a1b];omega
  rw [ae];refine aD (fun Jk=>?_) fun Jk=>?_
  ·refine ⟨_,_,_,TS.cell 3,_,TS.cell 2,zM (by omega) (by omega) ⟨_,rfl,?_⟩⟩;have SZ:(((s.h.objs.take (i+1)).filter fun o=>decide (o.oop∈s.reach)).map RO.len).sum=(((s.h.objs.take i).filter fun o=>decide (o.oop∈s.reach)).map RO.len).sum+s.h.objs[i].len:=by
    rw [lj,a2T,a2m,a4G];simp [Jk]
   have cj:=hsumle ((s.h.objs.take i).filter fun o=>decide (o.oop∈s.reach)) fun o ho=>a2W (a2l.1 ho).1;have k8:((s.h.objs.take i).filter fun o=>decide (o.oop∈s.reach)).length<=s.h.objs.length:=a0O (a2w _ _) (by simp;omega);have Ju:=s.h.objs[i].len_pos;have Jq:s.h.objs[i].len<=2+(s.h.objs[i].slots.length:Int)+3:=jg (by omega);have hlen:lenOf (s.h.objs[i].slots.length:Int) s.h.objs[i].fmt=s.h.objs[i].len:=rfl;rw [hlen,ao (n:=_-s.h.objs[i].len) (by omega) (by omega),e];refine ⟨⟨i+1,by rw [SZ,←Int.sub_sub],by omega,JA.trans Vd⟩,Ui⟩
  ·have SZ:(((s.h.objs.take (i+1)).filter fun o=>decide (o.oop∈s.reach)).map RO.len).sum=(((s.h.objs.take i).filter fun o=>decide (o.oop∈s.reach)).map RO.len).sum:=by
    rw [lj,a2T,a2m,a4G];simp [Jk]
   rw [e];exact ⟨⟨i+1,by rw [SZ],by omega,JA.trans Vd⟩,Ui⟩
 ·have RA:i=s.h.objs.length:=by omega
  subst RA;rw [a29];refine ⟨_,Vc.cell 1,?_⟩;rw [K2,ao (by omega) (by omega)]
  have:=h H5 (uH.trans JA);rw [OV] at this;exact this
end
end Go.Proofs.YtgjfejoohojokaaGreatDoor
namespace Kw
open Go
def bC (l:List ByteArray):List Value:=l.map .string
theorem sD {l:List ByteArray}:∀ v∈bC l,dJ v=true:=by
 intro v hv;simp only [bC,a1n] at hv;obtain ⟨i,_,rfl⟩:=hv;rfl
theorem dB (l m:List ByteArray):bC (l++m)=bC l++bC m:=by simp [bC]
theorem Rd.str {H:au}{a:Option Addr}{l:Nat}{ys:List ByteArray} (h:Rd 1 H a l (bC ys)){i:Int} (h0:0<=i) (h1:i<l):∃ p,∃ an:i.toNat<ys.length,a=some p∧aq H (p.add i.toNat)=some (.string ys[i.toNat]):=by
 have hl:=h.1;simp only [bC,a1p] at hl;cases a with
 | none=>have:=h.2.1 rfl;omega
 | some p =>
  have hi:i.toNat<ys.length:=by omega
  refine ⟨p,hi,rfl,?_⟩;rw [h.2.2 p rfl i.toNat (by omega)];simp [bC,hi]
structure TB where
 most:Int
 texts:List ByteArray
def dE (s:ByteArray):Prop:=1<=s.size∧s.size<=96
instance (s:ByteArray):Decidable (dE s):=inferInstanceAs (Decidable (_∧_))
structure WFT (t:TB):Prop where
 m0:0<=t.most
 m1:t.most<=4096
 len:(t.texts.length:Int)<=t.most
 nodup:t.texts.Nodup
 good:∀ s∈t.texts,dE s
def dt:List ByteArray->ByteArray->Option Nat
 | [],_=>none
 | x :: l,s=>if x=s then some 0 else (dt l s).map (·+1)
theorem wY {l:List ByteArray}{s:ByteArray}{n:Nat} (hn:n<l.length) (h1:l[n]=s) (h2:∀ j (hj:j<l.length),j<n->l[j]≠s):dt l s=some n:=by
 induction l generalizing n with
 | nil=>simp at hn
 | cons x l ih =>
  unfold dt;cases n with
  | zero=>simp only [a3w] at h1;rw [a0b h1]
  | succ n =>
   have h3:=h2 0 (by simp) (by omega);simp only [a3w] at h3;rw [a0a h3,ih (n:=n) (by simpa using hn) (by simpa using h1) fun j hj Zt=>h2 (j+1) (by simpa using hj) (by omega)];rfl
theorem ku {l:List ByteArray}{s:ByteArray}:dt l s=none↔s∉l:=by
 induction l with
 | nil=>simp [dt]
 | cons x l ih =>
  unfold dt;by_cases h:x=s
  ·simp [h]
  ·rw [a0a h];simp only [Option.map_eq_none_iff,ih,a0E,a21];exact ⟨fun h1=>⟨fun e=>h e.symm,h1⟩,fun h1=>h1.2⟩
theorem tP {l:List ByteArray}{s x:ByteArray}:dt (l++[s]) x=match dt l x with
  | some n=>some n
  | none=>if s=x then some l.length else none:=by
 induction l with
 | nil=>simp [dt]
 | cons y l ih =>
  simp only [a3k,dt];by_cases h:y=x
  ·simp [h]
  ·rw [a0a h,a0a h,ih];cases dt l x with
   | some n=>rfl
   | none =>
    simp only [a30];by_cases h2:s=x <;> simp [h2]
def TB.add (t:TB) (s:ByteArray):(Int × Int) × TB :=
 if ¬ dE s then ((0,61),t) else match dt t.texts s with
 | some n=>(((n:Int),0),t)
 | none=>if t.most<=(t.texts.length:Int) then ((0,60),t) else (((t.texts.length:Int),0),{ t with texts:=t.texts++[s] })
theorem iq {t:TB} (h:WFT t) (s:ByteArray):WFT (t.add s).2:=by
 unfold TB.add;split
 ·exact h
 ·rename_i hg;have hg:dE s:=a0v hg;cases hn:dt t.texts s with
  | some n=>exact h
  | none =>
   simp only;split
   ·exact h
   ·refine { h with len:=by simp;omega,nodup:=?_,good:=fun x hx=>?_ }
    ·rw [a23];exact ⟨h.nodup,by simp,fun a ha b hb e=>ku.1 hn (by simp only [a0A] at hb;rw [←hb,←e];exact ha)⟩
    ·rcases a0T.1 hx with hx | hx
     ·exact h.good x hx
     ·simp only [a0A] at hx;rw [hx];exact hg
def iK (r:RH) (o:Int) (ws:List Int):Prop:=∃ x,aT r.objs o=some x∧x.fmt=0∧x.slots=ws
theorem iK.uniq {r:RH}{o:Int}{ws ws':List Int} (h:iK r o ws) (h':iK r o ws'):ws=ws':=by
 obtain ⟨x,h1,_,h3⟩:=h;obtain ⟨y,h4,_,h6⟩:=h';rw [h1] at h4;cases h4;rw [←h3,←h6]
theorem iK.size {r:RH}{o:Int}{ws:List Int} (h:iK r o ws):r.size o=((ws.length:Int),0,0):=by
 obtain ⟨x,h1,h2,h3⟩:=h;simp [RH.size,h1,h2,h3]
theorem iK.at {r:RH}{o:Int}{ws:List Int} (h:iK r o ws){i:Int} (h0:0<=i) (h1:i<ws.length):r.at o i=(ws[i.toNat]'(by omega),0):=by
 obtain ⟨x,h2,_,h3⟩:=h;subst h3;simp only [RH.at,h2];rw [a0a (by omega)]
 have:i.toNat<x.slots.length:=by omega
 simp [this]
theorem iK.bnd {r:RH} (hw:WFH r){o:Int}{ws:List Int} (h:iK r o ws):1<=o∧o<=65536∧ws.length<=8192∧∀ w∈ws,dL w:=by
 obtain ⟨x,h1,h2,h3⟩:=h;have hg:=hw.objs.good x (aR h1).1;have ho:=(aR h1).2;have h4:=hg.oop1;have h5:=hg.oop2;have h6:=hw.o1;subst h3;refine ⟨by omega,by omega,hg.many,fun w I5=>?_⟩
 have:=hg.may w I5;unfold fv at this;rw [a0a (by omega)] at this;exact this
theorem iK.there {r:RH}{o:Int}{ws:List Int} (h:iK r o ws):aT r.objs o≠none:=by
 obtain ⟨x,h1,_⟩:=h;rw [h1];simp
theorem tu {r:RH}{o:Int} (h0:1<=o) (h1:o<=65536) (h:aT r.objs o≠none):bD r (4*o)=o:=by
 unfold bD;have hk:aU (4*o)=3:=by
  have:=bE (4*o);omega
 have e:4*o / 4=o:=by omega
 have hs:(aT r.objs o).isSome:=by cases ho:aT r.objs o with
  | none=>exact absurd ho h
  | some _=>rfl
 rw [e,a0b ⟨hk,hs⟩]
def co (r r':RH) (P:Int->Prop):Prop:=∀ k,P k->∀ x,aT r.objs k=some x->∃ y,aT r'.objs k=some y∧y.cls=x.cls∧y.fmt=x.fmt∧y.slots=x.slots
theorem co.refl (r:RH) (P:Int->Prop):co r r P:=fun k _ x hx=>⟨x,hx,rfl,rfl,rfl⟩
theorem co.trans {r r' r'':RH}{P:Int->Prop} (h:co r r' P) (h':co r' r'' P):co r r'' P:=fun k hk x hx=>by
 obtain ⟨y,h1,h2,h3,h4⟩:=h k hk x hx;obtain ⟨z,g1,g2,g3,g4⟩:=h' k hk y h1;exact ⟨z,g1,g2.trans h2,g3.trans h3,g4.trans h4⟩
theorem co.mono {r r':RH}{P P':Int->Prop} (h:co r r' P) (hp:∀ k,P' k->P k):co r r' P':=fun k hk=>h k (hp k hk)
theorem iK.keep {r r':RH}{P:Int->Prop}{o:Int}{ws:List Int} (h:iK r o ws) (hk:co r r' P) (hp:P o):iK r' o ws:=by
 obtain ⟨x,h1,h2,h3⟩:=h;obtain ⟨y,g1,_,g3,g4⟩:=hk o hp x h1;exact ⟨y,g1,g3.trans h2,g4.trans h3⟩
theorem lE {r:RH} (hw:WFH r) (cls n f:Int):co r (r.alloc cls n f).2 fun _=>True:=by
 intro k _ x hx;unfold RH.alloc;split
 ·exact ⟨x,hx,rfl,rfl,rfl⟩
 split
 ·exact ⟨x,hx,rfl,rfl,rfl⟩
 split
 ·exact ⟨x,hx,rfl,rfl,rfl⟩
 split
 ·exact ⟨x,hx,rfl,rfl,rfl⟩
 ·refine ⟨x,?_,rfl,rfl,rfl⟩;rw [fS,hx]
theorem nR {r:RH} (hw:WFH r){cls n f:Int} (h:(r.alloc cls n f).1.2=0):aT r.objs (r.alloc cls n f).1.1=none∧1<=(r.alloc cls n f).1.1∧(r.alloc cls n f).1.1<=65536∧0<=n∧n<=8192 ∧
  (f=0->iK (r.alloc cls n f).2 (r.alloc cls n f).1.1 (List.replicate n.toNat 4)):=by
 have IN:=hw.o1;unfold RH.alloc at h ⊢;split at h
 ·simp at h
 rename_i g1;split at h
 ·simp at h
 rename_i g2;split at h
 ·simp at h
 rename_i g3;split at h
 ·simp at h
 rename_i g4;have hl:=eX hw.objs hw.o1 (by omega);rw [a0a g1,a0a g2,a0a g3,a0a g4];refine ⟨hl.2.2.1,hl.1,by have:=hl.2.1;simp only;omega,by omega,by omega,fun hf=>?_⟩;subst hf;refine ⟨ft r cls n 0,?_,rfl,by simp [ft]⟩;simp only;rw [fS,hl.2.2.1];simp [ft]
theorem sg {r:RH} (k i w:Int):co r (r.put k i w).2 fun j=>j≠k:=by
 intro j hj x hx;unfold RH.put;split
 ·exact ⟨x,hx,rfl,rfl,rfl⟩
 split
 ·exact ⟨x,hx,rfl,rfl,rfl⟩
 split
 ·exact ⟨x,hx,rfl,rfl,rfl⟩
 ·refine ⟨x,?_,rfl,rfl,rfl⟩;show aT (gX r.objs k (d8 i w)) j=some x;rw [dH (f:=d8 i w) (fun o=>rfl),hx]
  have:=(aR hx).2;simp only [a2Q];rw [a0a (by omega)]
theorem zu {r:RH}{k:Int}{ws:List Int} (h:iK r k ws){i w:Int} (h0:0<=i) (h1:i<ws.length) (hw:dL w):iK (r.put k i w).2 k (ws.set i.toNat w)∧(r.put k i w).1=0:=by
 obtain ⟨x,h2,h3,h4⟩:=h;subst h4;have hm:fv x.fmt w:=by unfold fv;rw [a0a (by omega)];exact hw
 simp only [RH.put,h2];rw [a0a (by omega),a0a (by simpa using hm)];refine ⟨⟨d8 i w x,?_,h3,rfl⟩,rfl⟩;show aT (gX r.objs k (d8 i w)) k=some (d8 i w x);rw [dH (f:=d8 i w) (fun o=>rfl),h2]
 have:=(aR h2).2;simp [this]
theorem wT {at_:Int}{l:List RO}{k:Int}:∀ x,aT l k=some x->∃ y,aT (cF at_ l) k=some y∧y.cls=x.cls∧y.fmt=x.fmt∧y.slots=x.slots:=by
 induction l generalizing at_ with
 | nil=>intro x hx;cases hx
 | cons o l ih =>
  intro x hx;unfold aT at *;simp only [cF,a3u] at hx ⊢;by_cases h:o.oop=k
  ·simp only [h,decide_true] at hx ⊢;cases hx;exact ⟨_,rfl,rfl,rfl,rfl⟩
  ·simp only [h,decide_false] at hx ⊢;exact ih x hx
theorem kn {r:RH} (l:List Int):co r (r.keep l).2 fun k=>k∈l:=by
 intro k hk x hx;unfold RH.keep;split
 ·exact ⟨x,hx,rfl,rfl,rfl⟩
 ·simp only [RH.keepO];refine wT x ?_;unfold aT at hx ⊢;rw [List.find?_filter];have ho:=(aR (l:=r.objs) (k:=k) (o:=x) hx).2;rw [←hx]
  congr 1
  funext a
  by_cases h:a.oop=k
  ·simp [h,hk]
  ·simp [h]
theorem lk {r:RH} (k:Int):co r (r.marks k).2 fun _=>True:=by
 intro j _ x hx;unfold RH.marks;split <;> exact ⟨x,hx,rfl,rfl,rfl⟩
theorem Reaches.mono {r r':RH}{ws ws':List Int} (hw:WFH r) (h:co r r' (Reaches r ws)) (hs:∀ w∈ws,w∈ws'){k:Int} (hk:Reaches r ws k):Reaches r' ws' k:=by
 have hn:∀ {w:Int},bD r w≠0->Reaches r ws (bD r w)->bD r' w=bD r w:=by
  intro w ic hr;have ht:=hr.there;cases ho:aT r.objs (bD r w) with
  | none=>exact absurd ho ht
  | some x =>
   obtain ⟨y,g1,_⟩:=h _ hr x ho;unfold bD at *;split at ic
   ·rename_i hc;rw [a0b hc] at g1;rw [a0b hc,a0b ⟨hc.1,by rw [g1];rfl⟩]
   ·exact absurd rfl ic
 induction hk with
 | @root w h1 h2 =>
  have hr:Reaches r ws (bD r w):=.root h1 h2;have e:=hn h2 hr;rw [←e];exact .root (hs w h1) (by rw [e];exact h2)
 | @cls o h1 h2 h3 ih =>
  have hr:Reaches r ws (bD r o.cls):=.cls h1 h2 h3;have e:=hn h3 hr;obtain ⟨y,g1,g2,g3,g4⟩:=h _ h1 o (cN hw.objs h2);have gy:=aR g1;rw [←e,←g2];rw [←gy.2] at ih;exact .cls ih gy.1 (by rw [g2,e];exact h3)
 | @slot o w h1 h2 h3 h4 h5 ih =>
  have hr:Reaches r ws (bD r w):=.slot h1 h2 h3 h4 h5;have e:=hn h5 hr;obtain ⟨y,g1,g2,g3,g4⟩:=h _ h1 o (cN hw.objs h2);have gy:=aR g1;rw [←e];rw [←gy.2] at ih;exact .slot ih gy.1 (g3.trans h3) (by rw [g4];exact h4) (by rw [e];exact h5)
theorem Reaches.arr {r:RH}{ws l:List Int}{o k:Int} (h:Reaches r ws o) (ha:iK r o l) (h0:1<=k) (h1:k<=65536) (hk:aT r.objs k≠none) (hm:4*k∈l):Reaches r ws k:=by
 obtain ⟨x,g1,g2,g3⟩:=ha;have gx:=aR g1;have e:=tu h0 h1 hk;rw [←gx.2] at h
 have:=Reaches.slot (w:=4*k) h gx.1 g2 (by rw [g3];exact hm) (by rw [e];omega);rw [e] at this;exact this
theorem Reaches.of_root {r:RH}{ws:List Int}{k:Int} (h0:1<=k) (h1:k<=65536) (hk:aT r.objs k≠none) (hm:4*k∈ws):Reaches r ws k:=by
 have e:=tu h0 h1 hk
 have:=Reaches.root (r:=r) (ws:=ws) (w:=4*k) hm (by rw [e];omega);rw [e] at this;exact this
theorem mm {s:SP} (hw:WFH s.h):co s.h s.collect.2.h (Reaches s.h s.roots):=by
 unfold SP.collect;split
 ·exact co.refl _ _
 ·exact (kn _).mono fun k hk=>(RH.mem_reach hw).2 hk
theorem rG {s:SP} (hw:WFS s):WFS s.collect.2:=by
 unfold SP.collect;split
 ·exact hw
 ·exact { hw with h:=fT hw.h _ }
theorem mZ (s:SP):s.collect.2.king=s.king∧s.collect.2.stack=s.stack∧s.collect.2.op=s.op:=by
 unfold SP.collect;split <;> exact ⟨rfl,rfl,rfl⟩
theorem oU (s:SP) (cls n f:Int):(s.alloc cls n f).2.king=s.king∧(s.alloc cls n f).2.stack=s.stack∧(s.alloc cls n f).2.op=s.op:=by
 unfold SP.alloc;split <;> exact ⟨rfl,rfl,rfl⟩
theorem sE {s:SP} (hw:WFS s) (cls n f:Int):WFS (s.alloc cls n f).2:=by
 unfold SP.alloc;split
 ·exact { hw with h:=ke hw.h _ _ _ }
 ·exact { hw with h:=ke (fT hw.h _) _ _ _ }
theorem nh {s:SP} (hw:WFS s) (cls n f:Int):co s.h (s.alloc cls n f).2.h (Reaches s.h s.roots):=by
 unfold SP.alloc;split
 ·exact (lE hw.h _ _ _).mono fun _ _=>trivial
 ·exact ((kn _).mono fun k hk=>(RH.mem_reach hw.h).2 hk).trans ((lE (fT hw.h _) _ _ _).mono fun _ _=>trivial)
theorem ox {s:SP} (hw:WFS s){cls n:Int} (h:(s.alloc cls n 0).1.2=0):∃ o,(s.alloc cls n 0).1.1=4*o∧1<=o∧o<=65536∧0<=n∧n<=8192∧iK (s.alloc cls n 0).2.h o (List.replicate n.toNat 4)∧¬ Reaches s.h s.roots o:=by
 unfold SP.alloc at h ⊢;split at h
 ·rename_i hc;rw [a0b hc];obtain ⟨h1,h2,h3,h4,h5,h6⟩:=nR hw.h h;exact ⟨_,rfl,h2,h3,h4,h5,h6 rfl,fun hr=>hr.there h1⟩
 ·rename_i hc;rw [a0a hc];obtain ⟨h1,h2,h3,h4,h5,h6⟩:=nR (fT hw.h _) h;refine ⟨_,rfl,h2,h3,h4,h5,h6 rfl,fun hr=>?_⟩;have ht:=hr.there;cases ho:aT s.h.objs ((s.h.keep s.reach).2.alloc cls n 0).1.1 with
  | none=>exact ht ho
  | some x =>
   obtain ⟨y,g1,_⟩:=kn s.reach _ ((RH.mem_reach hw.h).2 hr) x ho;rw [h1] at g1;cases g1
structure CV where
 oop:Int
 name:Nat
 up:Int
 own:List Nat
 ownA:Int
 selA:Int
 metA:Int
 sels:List Int
 mets:List Int
 lay:Int
structure KV where
 cls:List CV
 clsA:Int
 glob:List (Nat × Int)
 globA:Int
 rest:List Int
def fw (n:Nat):Int:=4*(n:Int)+2
def CV.slots (c:CV) (i:Nat):List Int:=[fw c.name,4*c.up,4*c.ownA,4*c.selA,4*c.metA,2*c.lay+1,2*((i:Int)+1)+1]
def gR:List (Nat × Int)->List Int
 | []=>[]
 | (n,v) :: l=>fw n :: v :: gR l
theorem oe (l:List (Nat × Int)):(gR l).length=2*l.length:=by
 induction l with
 | nil=>rfl
 | cons p l ih=>obtain ⟨n,v⟩:=p;simp only [gR,a1b,ih];omega
theorem sn {l:List (Nat × Int)}{i:Nat} (h:i<l.length):(gR l)[2*i]?=some (fw l[i].1)∧(gR l)[2*i+1]?=some l[i].2:=by
 induction l generalizing i with
 | nil=>simp at h
 | cons p l ih =>
  obtain ⟨n,v⟩:=p;cases i with
  | zero=>simp [gR]
  | succ i =>
   have:=ih (i:=i) (by simpa using h);have e:2*(i+1)=2*i+2:=by omega
   rw [e];simpa [gR] using this
abbrev tS:=Int × List Int
def crole (c:CV) (i:Nat):List tS:=[(c.oop,c.slots i),(c.ownA,c.own.map fw),(c.selA,c.sels),(c.metA,c.mets)]
def fY:List CV->Nat->List tS
 | [],_=>[]
 | c :: l,i=>crole c i++fY l (i+1)
theorem ml (l m:List CV) (i:Nat):fY (l++m) i=fY l i++fY m (i+l.length):=by
 induction l generalizing i with
 | nil=>simp [fY]
 | cons c l ih =>
  simp only [a3k,fY,ih,a18,a1b]
  have:i+1+l.length=i+(l.length+1):=by omega
  rw [this]
theorem kz {l:List CV}{i j:Nat} (h:j<l.length){p:tS} (hp:p∈crole l[j] (i+j)):p∈fY l i:=by
 induction l generalizing i j with
 | nil=>simp at h
 | cons c l ih =>
  simp only [fY,a0T];cases j with
  | zero=>exact .inl (by simpa using hp)
  | succ j =>
   refine .inr (ih (j:=j) (by simpa using h) ?_);have e:i+1+j=i+(j+1):=by omega
   rw [e];simpa using hp
theorem AO {l:List CV}{i:Nat}{p:tS} (h:p∈fY l i):∃ j,∃ hj:j<l.length,p∈crole l[j] (i+j):=by
 induction l generalizing i with
 | nil=>cases h
 | cons c l ih =>
  simp only [fY,a0T] at h;rcases h with h | h
  ·exact ⟨0,by simp,by simpa using h⟩
  ·obtain ⟨j,hj,h1⟩:=ih h;refine ⟨j+1,by simpa using hj,?_⟩;have e:i+1+j=i+(j+1):=by omega
   rw [e] at h1;simpa using h1
def KV.rootW (v:KV):List Int:=4*v.clsA :: 4*v.globA :: v.rest
def KV.clsW (v:KV):List Int:=v.cls.map fun c=>4*c.oop
def KV.roles (v:KV):List tS:=(19,v.rootW) :: (v.clsA,v.clsW) :: (v.globA,gR v.glob) :: (1,[]) :: (18,[]) :: fY v.cls 0
def fo (r:RH) (v:KV):Prop:=∀ p∈v.roles,iK r p.1 p.2
def Pz (v:KV):Prop:=v.roles.Pairwise fun p q=>p.1=q.1->p.2=[]
structure KShape (v:KV):Prop where
 rest:v.rest.length=6
 many0:14<=v.cls.length
 many1:v.cls.length<=256
 globs:v.glob.length<=256
 up0:∀ h:0<v.cls.length,(v.cls[0]).up=1∧(v.cls[0]).ownA=18
 ups:∀ i (h:i<v.cls.length),0<i->∃ j,∃ hj:j<v.cls.length,j<i∧(v.cls[j]).oop=(v.cls[i]).up
 kern:∀ i (h:i<v.cls.length),i<14->(v.cls[i]).oop=4+i
 lay:∀ c∈v.cls,0<=c.lay∧c.lay<=1073741823
structure KNames (v:KV) (t:TB):Prop where
 wf:WFT t
 name:∀ c∈v.cls,c.name<t.texts.length
 own:∀ c∈v.cls,∀ n∈c.own,n<t.texts.length
 glob:∀ p∈v.glob,p.1<t.texts.length
 nodup:(v.cls.map (·.name)).Nodup
section
variable {r:RH}{v:KV}
theorem fo.root (h:fo r v):iK r 19 v.rootW:=h (19,v.rootW) (by simp [KV.roles])
theorem fo.all (h:fo r v):iK r v.clsA v.clsW:=h (v.clsA,v.clsW) (by simp [KV.roles])
theorem fo.globs (h:fo r v):iK r v.globA (gR v.glob):=h (v.globA,gR v.glob) (by simp [KV.roles])
theorem fo.nil (h:fo r v):iK r 1 []:=h (1,[]) (by simp [KV.roles])
theorem fo.empty (h:fo r v):iK r 18 []:=h (18,[]) (by simp [KV.roles])
theorem fo.crole (h:fo r v){i:Nat} (hi:i<v.cls.length){p:tS} (hp:p∈crole v.cls[i] i):iK r p.1 p.2:=h p (by
 simp only [KV.roles,a0E];exact .inr (.inr (.inr (.inr (.inr (kz hi (by simpa using hp)))))))
theorem fo.cls (h:fo r v){i:Nat} (hi:i<v.cls.length):iK r (v.cls[i]).oop ((v.cls[i]).slots i):=h.crole hi (p:=((v.cls[i]).oop,(v.cls[i]).slots i)) (by simp [Kw.crole])
theorem fo.own (h:fo r v){i:Nat} (hi:i<v.cls.length):iK r (v.cls[i]).ownA ((v.cls[i]).own.map fw):=h.crole hi (p:=(_,_)) (by simp [Kw.crole])
theorem fo.sel (h:fo r v){i:Nat} (hi:i<v.cls.length):iK r (v.cls[i]).selA (v.cls[i]).sels:=h.crole hi (p:=(_,_)) (by simp [Kw.crole])
theorem fo.of (h1:iK r 19 v.rootW) (h2:iK r v.clsA v.clsW) (h3:iK r v.globA (gR v.glob)) (h4:iK r 1 []) (h5:iK r 18 []) (h6:∀ p∈fY v.cls 0,iK r p.1 p.2):fo r v:=by
 intro p hp;simp only [KV.roles,a0E] at hp;rcases hp with rfl | rfl | rfl | rfl | rfl | hp
 ·exact h1
 ·exact h2
 ·exact h3
 ·exact h4
 ·exact h5
 ·exact h6 p hp
theorem fo.keep {r':RH}{P:Int->Prop} (h:fo r v) (hk:co r r' P) (hp:∀ p∈v.roles,P p.1):fo r' v:=fun p hm=>(h p hm).keep hk (hp p hm)
theorem fo.inj (h:fo r v){i j:Nat} (hi:i<v.cls.length) (hj:j<v.cls.length) (he:(v.cls[i]).oop=(v.cls[j]).oop):i=j:=by
 have h1:=h.cls hi;have h2:=h.cls hj;rw [he] at h1
 have:=h1.uniq h2;simp only [CV.slots,List.cons.injEq] at this;omega
theorem fo.ne1 (h:fo r v){i:Nat} (hi:i<v.cls.length):(v.cls[i]).oop≠1:=fun e=>by
 have h1:=h.cls hi;rw [e] at h1
 have:=h1.uniq h.nil;simp [CV.slots] at this
theorem fo.idx (h:fo r v){c:CV} (hc:c∈v.cls):∃ i,∃ hi:i<v.cls.length,v.cls[i]=c:=a2O hc
theorem fo.reach (hw:WFH r) (h:fo r v) (hs:KShape v){ws:List Int} (hk:(76:Int)∈ws):∀ p∈v.roles,Reaches r ws p.1:=by
 have to:∀ {o k:Int}{l m:List Int},Reaches r ws o->iK r o l->iK r k m->4*k∈l->Reaches r ws k:=fun h1 h2 h3 h4=>by
  have hb:=h3.bnd hw;exact h1.arr h2 hb.1 hb.2.1 h3.there h4
 have WO:Reaches r ws 19:=Reaches.of_root (by decide) (by decide) h.root.there hk;have hA:Reaches r ws v.clsA:=to WO h.root h.all (by simp [KV.rootW]);have hG:Reaches r ws v.globA:=to WO h.root h.globs (by simp [KV.rootW]);have hC:∀ {i:Nat} (hi:i<v.cls.length),Reaches r ws (v.cls[i]).oop:=fun {i} hi=>to hA h.all (h.cls hi) (a1n.2 ⟨_,a04 hi,rfl⟩);have h0:0<v.cls.length:=by have:=hs.many0;omega
 have hu:=hs.up0 h0;intro p hp;simp only [KV.roles,a0E] at hp;rcases hp with rfl | rfl | rfl | rfl | rfl | hp
 ·exact WO
 ·exact hA
 ·exact hG
 ·exact to (hC h0) (h.cls h0) h.nil (by simp [CV.slots,hu.1])
 ·exact to (hC h0) (h.cls h0) h.empty (by simp [CV.slots,hu.2])
 ·obtain ⟨j,hj,hm⟩:=AO hp;have ha:=h.crole hj (p:=p) (by simpa using hm);simp only [Kw.crole,a0E,a1l,a2h] at hm;rcases hm with rfl | rfl | rfl | rfl
  ·exact hC hj
  ·exact to (hC hj) (h.cls hj) ha (by simp [CV.slots])
  ·exact to (hC hj) (h.cls hj) ha (by simp [CV.slots])
  ·exact to (hC hj) (h.cls hj) ha (by simp [CV.slots])
end
def iP (r:RH):Prop:=∀ o∈r.objs,aU o.cls=3
theorem vh {r:RH} (h:iP r){cls:Int} (hc:aU cls=3) (n f:Int):iP (r.alloc cls n f).2:=by
 unfold RH.alloc;split
 ·exact h
 split
 ·exact h
 split
 ·exact h
 split
 ·exact h
 ·intro o ho;simp only [a0T,a0A] at ho;rcases ho with ho | rfl
  ·exact h o ho
  ·exact hc
theorem xw {r:RH} (h:iP r) (k i w:Int):iP (r.put k i w).2:=by
 unfold RH.put;split
 ·exact h
 split
 ·exact h
 split
 ·exact h
 ·intro o ho;simp only [gX,a1n] at ho;obtain ⟨x,hx,rfl⟩:=ho;split
  ·exact h x hx
  ·exact h x hx
theorem Cl {r:RH} (h:iP r) (k:Int):iP (r.marks k).2:=by
 unfold RH.marks;split <;> exact h
theorem yU {r:RH} (h:iP r) (l:List Int):iP (r.keep l).2:=by
 unfold RH.keep;split
 ·exact h
 ·intro o ho;obtain ⟨x,hx,e,_⟩:=i8 ho
  have:=h x (a2l.1 hx).1;rw [e];exact this
theorem te {s:SP} (h:iP s.h){cls:Int} (hc:aU cls=3) (n f:Int):iP (s.alloc cls n f).2.h:=by
 unfold SP.alloc;split
 ·exact vh h hc _ _
 ·exact vh (yU h _) hc _ _
theorem rf {s:SP} (h:iP s.h):iP s.collect.2.h:=by
 unfold SP.collect;split
 ·exact h
 ·exact yU h _
structure KS (s:SP) (v:KV):Prop where
 wf:WFS s
 gc:iP s.h
 op:s.op=false
 king:s.king=19
 view:fo s.h v
 sep:Pz v
 shape:KShape v
theorem KS.roots {s:SP}{v:KV} (h:KS s v):s.roots=76 :: s.stack:=by unfold SP.roots;rw [h.king];rfl
theorem KS.reach {s:SP}{v:KV} (h:KS s v):∀ p∈v.roles,Reaches s.h s.roots p.1:=h.view.reach h.wf.h h.shape (by rw [h.roots];simp)
def RH.lay (r:RH) (o i:Int):List Int->RH
 | []=>r
 | w :: l=>RH.lay (r.put o i w).2 o (i+1) l
noncomputable def SP.make (s:SP) (cls:Int) (ws:List Int):(Int × Int) × SP :=
 if (s.alloc (4*cls) ws.length 0).1.2≠0 then ((0,(s.alloc (4*cls) ws.length 0).1.2),(s.alloc (4*cls) ws.length 0).2)
 else (((s.alloc (4*cls) ws.length 0).1.1,(SP.keepW { (s.alloc (4*cls) ws.length 0).2 with h:=(s.alloc (4*cls) ws.length 0).2.h.lay ((s.alloc (4*cls) ws.length 0).1.1 / 4) 0 ws } [(s.alloc (4*cls) ws.length 0).1.1]).1),
  (SP.keepW { (s.alloc (4*cls) ws.length 0).2 with h:=(s.alloc (4*cls) ws.length 0).2.h.lay ((s.alloc (4*cls) ws.length 0).1.1 / 4) 0 ws } [(s.alloc (4*cls) ws.length 0).1.1]).2)
noncomputable def SP.array (s:SP) (ws:List Int):(Int × Int) × SP:=if ws=[] then ((72,0),s) else s.make 11 ws
theorem xC {r:RH} (h:WFH r) (o i:Int) (l:List Int):WFH (r.lay o i l):=by
 induction l generalizing r i with
 | nil=>exact h
 | cons w l ih=>exact ih (kW h _ _ _) _
theorem Nz {r:RH} (h:iP r) (o i:Int) (l:List Int):iP (r.lay o i l):=by
 induction l generalizing r i with
 | nil=>exact h
 | cons w l ih=>exact ih (xw h _ _ _) _
theorem AC (r:RH) (o i:Int) (l:List Int):co r (r.lay o i l) fun j=>j≠o:=by
 induction l generalizing r i with
 | nil=>exact co.refl _ _
 | cons w l ih=>exact (sg o i w).trans (ih _ _)
theorem KM {r:RH}{o:Int}{pre l:List Int}{n:Nat} (h:iK r o (pre++List.replicate n 4)) (hl:l.length=n) (hw:∀ w∈l,dL w):iK (r.lay o pre.length l) o (pre++l):=by
 induction l generalizing r pre n with
 | nil=>subst hl;simpa [RH.lay] using h
 | cons w l ih =>
  subst hl;simp only [RH.lay];have h1:=(zu h (i:=(pre.length:Int)) (w:=w) (by omega) (by simp;omega) (hw w (by simp))).1;have e:(pre++List.replicate (w :: l).length 4).set (pre.length:Int).toNat w=(pre++[w])++List.replicate l.length 4:=by
   rw [a0j,a3W _ _ (a0U _)];simp [List.replicate_succ]
  rw [e] at h1
  have:=ih h1 rfl fun x hx=>hw x (by simp [hx]);simpa using this
theorem tf {s:SP}{w:Int} (hw:dL w) (hs:s.stack.length<65536):s.keepW [w]=(0,{ s with stack:=s.stack++[w] }):=by
 unfold SP.keepW;rw [a0a (by simpa using hw),a0a (by simp;omega)]
theorem dN {o:Int} (h0:1<=o) (h1:o<=65536):dL (4*o):=by
 unfold dL;have:=bE (4*o);omega
theorem lY {s:SP}{v:KV} (hk:KS s v) (s8:s.stack.length<65536){cls:Int} (J1:1<=cls∧cls<=65536){ws:List Int} (Do:∀ w∈ws,dL w) :
  KS (s.make cls ws).2 v∧co s.h (s.make cls ws).2.h (Reaches s.h s.roots) ∧
  ((s.make cls ws).1.2≠0->(s.make cls ws).2.stack=s.stack∧(s.make cls ws).1.1=0) ∧
  ((s.make cls ws).1.2=0->∃ o,(s.make cls ws).1.1=4*o∧(s.make cls ws).2.stack=s.stack++[4*o]∧1<=o∧o<=65536∧iK (s.make cls ws).2.h o ws∧¬ Reaches s.h s.roots o):=by
 have OJ:=oU s (4*cls) ws.length 0;have TT:=sE hk.wf (4*cls) ws.length 0;have Ve:=nh hk.wf (4*cls) ws.length 0;have WP:=te hk.gc (cls:=4*cls) (by have:=bE (4*cls);omega) ws.length 0;unfold SP.make;by_cases he:(s.alloc (4*cls) ws.length 0).1.2=0
 ·obtain ⟨o,e1,o1,o2,n0,n1,Vf,Jv⟩:=ox hk.wf he;rw [a0a (by simpa using he)];rw [e1];have e2:4*o / 4=o:=by omega
  rw [e2];generalize (s.alloc (4*cls) ws.length 0).2=s1 at *;have Jy:co s.h (s1.h.lay o 0 ws) (Reaches s.h s.roots):=Ve.trans ((AC _ _ _ _).mono fun k hk he=>Jv (he ▸ hk));have hl:iK (s1.h.lay o 0 ws) o ws:=by
   have:=KM (pre:=[]) (n:=ws.length) (l:=ws) (by simpa using Vf) rfl Do;simpa using this
  rw [tf (dN o1 o2) (by simp only [OJ.2.1];exact s8)];refine ⟨⟨?_,Nz WP _ _ _,OJ.2.2.trans hk.op,OJ.1.trans hk.king,hk.view.keep Jy hk.reach,hk.sep,hk.shape⟩,Jy,fun h=>absurd rfl h,fun _=>⟨o,rfl,by simp [OJ.2.1],o1,o2,hl,Jv⟩⟩;refine { TT with h:=xC TT.h _ _ _,many:=?_,words:=fun w hw=>?_ }
  ·simp only [a1h,a1b,a1s,OJ.2.1];omega
  ·rcases a0T.1 hw with hw | hw
   ·exact TT.words w hw
   ·simp only [a0A] at hw;rw [hw];exact dN o1 o2
 ·rw [a0b (by simpa using he)];exact ⟨⟨TT,WP,OJ.2.2.trans hk.op,OJ.1.trans hk.king,hk.view.keep Ve hk.reach,hk.sep,hk.shape⟩,Ve,fun _=>⟨OJ.2.1,rfl⟩,fun h=>absurd h he⟩
theorem kH {t:TB} (s:ByteArray) (h:(t.add s).1.2=0):∃ n:Nat,(t.add s).1.1=n∧(t.add s).2.texts[n]?=some s∧∃ l,(t.add s).2.texts=t.texts++l:=by
 unfold TB.add at h ⊢;split at h
 ·cases h
 rename_i hg;rw [a0a hg];cases hn:dt t.texts s with
 | some n =>
  simp only;refine ⟨n,rfl,?_,[],by simp⟩
  have:∀ (l:List ByteArray) n,dt l s=some n->l[n]?=some s:=by
   intro l
   induction l with
   | nil=>intro n h;cases h
   | cons x l ih =>
    intro n h;unfold dt at h;by_cases hx:x=s
    ·rw [a0b hx] at h;cases h;simp [hx]
    ·rw [a0a hx] at h;cases hm:dt l s with
     | none=>rw [hm] at h;cases h
     | some m=>rw [hm] at h;cases h;simpa using ih m hm
  exact this _ _ hn
 | none =>
  rw [hn] at h;simp only at h ⊢;split at h
  ·cases h
  rename_i hm;rw [a0a hm];exact ⟨t.texts.length,rfl,by simp,[s],rfl⟩
theorem uy (t:TB) (s:ByteArray):(t.add s).2.most=t.most∧∃ l,(t.add s).2.texts=t.texts++l:=by
 unfold TB.add;split
 ·exact ⟨rfl,[],by simp⟩
 cases hn:dt t.texts s with
 | some n=>exact ⟨rfl,[],by simp⟩
 | none =>
  simp only;split
  ·exact ⟨rfl,[],by simp⟩
  ·exact ⟨rfl,[s],rfl⟩
def TB.addAll (t:TB) (acc:List Int):List ByteArray->(List Int × Int) × TB
 | []=>((acc,0),t)
 | s :: l=>if (t.add s).1.2≠0 then (([],(t.add s).1.2),(t.add s).2) else TB.addAll (t.add s).2 (acc++[4*(t.add s).1.1+2]) l
theorem xp {t:TB} (h:WFT t) (acc:List Int) (l:List ByteArray):WFT (t.addAll acc l).2:=by
 induction l generalizing t acc with
 | nil=>exact h
 | cons s l ih =>
  unfold TB.addAll;split
  ·exact iq h s
  ·exact ih (iq h s) _
theorem kk (t:TB) (acc:List Int) (l:List ByteArray):(t.addAll acc l).2.most=t.most∧∃ m,(t.addAll acc l).2.texts=t.texts++m:=by
 induction l generalizing t acc with
 | nil=>exact ⟨rfl,[],by simp [TB.addAll]⟩
 | cons s l ih =>
  have h1:=uy t s;unfold TB.addAll;split
  ·exact h1
  ·have h2:=ih (t.add s).2 (acc++[4*(t.add s).1.1+2]);obtain ⟨m,e⟩:=h1.2;obtain ⟨m',e'⟩:=h2.2;exact ⟨h2.1.trans h1.1,m++m',by rw [e',e];simp⟩
theorem oz {t:TB} (acc:List Int) (l:List ByteArray) (h:(t.addAll acc l).1.2=0):∃ ns:List Nat,(t.addAll acc l).1.1=acc++ns.map fw∧ns.map (fun n=>(t.addAll acc l).2.texts[n]?)=l.map some:=by
 induction l generalizing t acc with
 | nil=>exact ⟨[],by simp [TB.addAll],rfl⟩
 | cons s l ih =>
  unfold TB.addAll at h ⊢;split at h
  ·rename_i hn;exact absurd h hn
  ·rename_i hn;rw [a0a hn];have hz:(t.add s).1.2=0:=a0v hn;obtain ⟨n,e1,e2,_⟩:=kH s hz;obtain ⟨ns,e3,e4⟩:=ih _ h;obtain ⟨_,m,e5⟩:=kk (t.add s).2 (acc++[4*(t.add s).1.1+2]) l;refine ⟨n :: ns,?_,?_⟩
   ·rw [e3,e1];simp [fw]
   ·simp only [a2k,e4]
    congr 1
    rw [e5];have an:n<(t.add s).2.texts.length:=by
     rcases a2t n (t.add s).2.texts.length with h | h
     ·exact h
     ·rw [a2I h] at e2;cases e2
    rw [a2x an,e2]
def TB.back (t:TB) (n:Int):Int × TB:=if n<0∨(t.texts.length:Int)<n then (1,t) else (0,{ t with texts:=t.texts.take n.toNat })
theorem Cf {t t':TB} (h1:t'.most=t.most) (h2:∃ l,t'.texts=t.texts++l):(t'.back t.texts.length).2=t:=by
 obtain ⟨l,e⟩:=h2;unfold TB.back;rw [a0a (by rw [e];simp;omega)];cases t with
 | mk most texts =>
  cases t' with
  | mk m ts =>
   simp only at e h1;subst h1 e;simp
def tx (t:TB) (n:Nat):ByteArray:=t.texts.getD n ⟨#[]⟩
theorem Nx {t t':TB} (h:∃ l,t'.texts=t.texts++l){n:Nat} (hn:n<t.texts.length):tx t' n=tx t n:=by
 obtain ⟨l,e⟩:=h;unfold tx;rw [e,a1f,a1f,a2x hn]
theorem ge {t:TB}{n:Nat}{s:ByteArray} (h:t.texts[n]?=some s):tx t n=s∧n<t.texts.length:=by
 refine ⟨by unfold tx;rw [a1f,h];rfl,?_⟩;rcases a2t n t.texts.length with h1 | h1
 ·exact h1
 ·rw [a2I h1] at h;cases h
theorem NQ {t:TB} (hw:WFT t){n m:Nat} (hn:n<t.texts.length) (hm:m<t.texts.length) (h:tx t n=tx t m):n=m:=by
 unfold tx at h;rw [a1f,a1f,a0Q hn,a0Q hm] at h;simp only [a4y] at h;exact (a4z hw.nodup).1 h
theorem DQ {t:TB} (hw:WFT t){n:Nat} (hn:n<t.texts.length):dE (tx t n):=by
 unfold tx;rw [a1f,a0Q hn];exact hw.good _ (a04 hn)
theorem lH {t:TB} (hw:WFT t){n:Nat} (hn:n<t.texts.length):dL (fw n):=by
 have h1:=hw.m1;have h2:=hw.len;unfold dL fw
 have:=bE (4*(n:Int)+2);omega
theorem KNames.grow {v:KV}{t t':TB} (h:KNames v t) (hw:WFT t') (hp:∃ l,t'.texts=t.texts++l):KNames v t':=by
 have:t.texts.length<=t'.texts.length:=by obtain ⟨l,e⟩:=hp;rw [e];simp
 exact ⟨hw,fun c hc=>a0X (h.name c hc) this,fun c hc n hn=>a0X (h.own c hc n hn) this,fun p hp=>a0X (h.glob p hp) this,h.nodup⟩
theorem iD {s:SP}{v:KV} (hk:KS s v) (s8:s.stack.length<65536){ws:List Int} (Do:∀ w∈ws,dL w) :
  KS (s.array ws).2 v∧co s.h (s.array ws).2.h (Reaches s.h s.roots)∧(∃ l,(s.array ws).2.stack=s.stack++l∧l.length<=1) ∧
  ((s.array ws).1.2=0->∃ o,(s.array ws).1.1=4*o∧1<=o∧o<=65536∧iK (s.array ws).2.h o ws∧Reaches (s.array ws).2.h (s.array ws).2.roots o∧(ws=[]∨¬ Reaches s.h s.roots o)):=by
 unfold SP.array;by_cases he:ws=[]
 ·rw [a0b he];subst he;refine ⟨hk,co.refl _ _,⟨[],by simp,by simp⟩,fun _=>⟨18,rfl,by decide,by decide,hk.view.empty,?_,.inl rfl⟩⟩;exact hk.reach (18,[]) (by simp [KV.roles])
 ·rw [a0a he];obtain ⟨h1,h2,h3,h4⟩:=lY hk s8 (cls:=11) (by decide) Do;refine ⟨h1,h2,?_,fun hz=>?_⟩
  ·by_cases hz:(s.make 11 ws).1.2=0
   ·obtain ⟨o,_,e,_⟩:=h4 hz;exact ⟨[4*o],e,by simp⟩
   ·exact ⟨[],by rw [(h3 hz).1];simp,by simp⟩
  ·obtain ⟨o,e1,e2,o1,o2,ha,hn⟩:=h4 hz;refine ⟨o,e1,o1,o2,ha,?_,.inr hn⟩;exact Reaches.of_root o1 o2 ha.there (by rw [h1.roots,e2];simp)
noncomputable def fI (s:SP) (t:TB) (cw:List Int) (c:Int):(Int × Int) × SP × TB :=
 if (s.array (cw++[c])).1.2≠0 then ((0,(s.array (cw++[c])).1.2),(s.array (cw++[c])).2,t)
 else ((c / 4,0),((s.array (cw++[c])).2.setRoot 0 (s.array (cw++[c])).1.1).2,t)
def cW (n:Int) (up l:Int) (k:Nat):List Int:=[n,4*up,l,72,72,1,2*((k:Int)+1)+1]
noncomputable def jo (s:SP) (t:TB) (cw:List Int) (n up l:Int):(Int × Int) × SP × TB :=
 if (s.make 12 (cW n up l cw.length)).1.2≠0 then ((0,(s.make 12 (cW n up l cw.length)).1.2),(s.make 12 (cW n up l cw.length)).2,t)
 else fI (s.make 12 (cW n up l cw.length)).2 t cw (s.make 12 (cW n up l cw.length)).1.1
noncomputable def lx (s:SP) (t:TB) (cw:List Int) (n up:Int) (names:List Int):(Int × Int) × SP × TB :=
 if (s.array names).1.2≠0 then ((0,(s.array names).1.2),(s.array names).2,t)
 else jo (s.array names).2 t cw n up (s.array names).1.1
noncomputable def gF (s:SP) (t:TB) (cw:List Int) (name:ByteArray) (up:Int) (own:List ByteArray):(Int × Int) × SP × TB :=
 if (t.add name).1.2≠0 then ((0,(t.add name).1.2),s,(t.add name).2)
 else if ((t.add name).2.addAll [] own).1.2≠0 then ((0,((t.add name).2.addAll [] own).1.2),s,((t.add name).2.addAll [] own).2)
 else lx s ((t.add name).2.addAll [] own).2 cw (4*(t.add name).1.1+2) up ((t.add name).2.addAll [] own).1.1
def pA (s:SP) (t:TB) (mark cnt kept e:Int):SP × TB :=
 if e=0 then ((s.drop ((s.stack.length:Int)-kept)).2,t)
 else ({ (s.drop ((s.stack.length:Int)-kept)).2 with h:=if e=24 then s.h else (s.h.marks mark).2 },(t.back cnt).2)
noncomputable def cU (s:SP) (t:TB) (cw:List Int) (name:ByteArray) (up:Int) (own:List ByteArray):(Int × Int) × SP × TB :=
 ((if (gF s t cw name up own).1.2=0 then (gF s t cw name up own).1.1 else 0,(gF s t cw name up own).1.2),pA (gF s t cw name up own).2.1 (gF s t cw name up own).2.2 s.h.mark t.texts.length s.stack.length (gF s t cw name up own).1.2)
theorem vx {v:KV}{r:RH} (hv:fo r v) (hs:Pz v):∀ p∈(v.clsA,v.clsW) :: (v.globA,gR v.glob) :: (1,[]) :: (18,[]) :: fY v.cls 0,p.1≠19:=by
 intro p hp he;have h:=(a2z.1 hs).1 p hp he.symm;simp [KV.rootW] at h
theorem rV {s:SP}{v:KV} (hk:KS s v){i w:Int} (h0:0<=i) (h1:i<8) (hw:dL w) :
  iK (s.setRoot i w).2.h 19 (v.rootW.set i.toNat w)∧co s.h (s.setRoot i w).2.h (fun k=>k≠19)∧WFS (s.setRoot i w).2∧(s.setRoot i w).2.king=19∧(s.setRoot i w).2.op=false∧(s.setRoot i w).2.stack=s.stack∧iP (s.setRoot i w).2.h:=by
 unfold SP.setRoot;have hl:v.rootW.length=8:=by simp [KV.rootW,hk.shape.rest]
 refine ⟨?_,by have:=sg (r:=s.h) s.king i w;rw [hk.king] at this ⊢;exact this,{ hk.wf with h:=kW hk.wf.h _ _ _ },hk.king,hk.op,rfl,xw hk.gc _ _ _⟩
 have:=(zu hk.view.root h0 (by rw [hl];exact h1) hw).1;simp only [hk.king];exact this
end Kw
namespace Go.Proofs.YtgjfejoohojokaaGreatDoor
open Kw
theorem cE {p:Prop} [Decidable p] {X Y:Prop} (h1:p->X) (h2:¬ p->Y):if p then X else Y:=by
 split
 ·exact h1 ‹_›
 ·exact h2 ‹_›
def uf (H:au) (b:Nat) (F:aS) (t:TB):Prop:=∃ a l c F',F=b :: F'∧b∉F'∧bI H b #[ac t.most,.slice a l c]∧bZ 1 H a l c (bC t.texts) F'∧WFT t
section
variable {H:au}{b:Nat}{F F':aS}{t:TB}{Q:QT}
theorem uf.wf (h:uf H b F t):WFT t:=by obtain ⟨_,_,_,_,_,_,_,_,h⟩:=h;exact h
theorem uf.lt (h:uf H b F t):∀ x∈F,x<H.size:=by
 obtain ⟨a,l,c,F',rfl,h1,hB,hO,hw⟩:=h;intro x hx;rcases a0E.1 hx with rfl | hx
 ·exact hB.lt
 ·exact hO.lt x hx
theorem uf.fr {H':au}{G:aS} (h:uf H b F t) (hf:Fr G H H') (hd:bU F G):uf H' b F t:=by
 obtain ⟨a,l,c,F',rfl,h1,hB,hO,hw⟩:=h;exact ⟨a,l,c,F',rfl,h1,hB.fr hf (hd b (by simp)),hO.fr hf fun x hx=>hd x (by simp [hx]),hw⟩
theorem C8 {n:Int} (gw:¬ (0<=n∧n<=4096)->Q (.tuple #[.pointer none,ac 1]) H) (h:(0<=n∧n<=4096)->∀ H',uf H' H.size [H.size] ⟨n,[]⟩->Fr [] H H'->Q (.tuple #[.pointer (some ⟨H.size,0,none⟩),ac 0]) H'):ag PP 92 #[ac n] Q H:=by
 apply Mf;dsimp only [aL,ah,bP,aX,ac,av,am,aJ,ax,bJ];simp only [ae];refine cE (fun h1=>gw (by omega)) fun h1=>cE (fun h2=>gw (by omega)) fun h2=>?_;exact h (by omega) _ ⟨none,0,0,[],rfl,by simp,bI.new _ _ _,bZ.nil 1 _,by simp;omega,by simp;omega,by simp;omega,by simp,by simp⟩ (Fr.push _ _ _)
theorem EE {s:ByteArray} (h:Q (.bool (decide (dE s))) H):ag PP 228 #[.string s] Q H:=by
 apply Dd;dsimp only [aP,ah];simp only [ae];have fin:∀ b:Bool,b=decide (dE s)->Q (.bool b) H:=fun b hb=>hb ▸ h;refine cE (fun h1=>fin _ ?_) fun h1=>fin _ ?_
 ·rw [a2L,decide_eq_true_iff,decide_eq_true_iff];unfold dE;omega
 ·rw [a2L,decide_eq_true_iff];unfold dE;simp;omega
theorem Pr (hT:uf H b F t){s:ByteArray} (h:Q (ac (match dt t.texts s with | some n=>(n:Int) | none=>-1)) H):ag PP 229 #[QW b,.string s] Q H:=by
 obtain ⟨a,l,c,F',rfl,h1,hB,hO,hw⟩:=hT;have uF:aq H ⟨b,1,none⟩=some (.slice a l c):=hB.cell 1;have hl:l=t.texts.length:=by have:=hO.len;simpa [bC] using this.symm
 have CO:=hw.m1;have hlen:=hw.len;apply Fi;dsimp only [ah,aX,aK,cX,bc,ac,bf,bX,bm,aE,aI];refine ⟨fun w H'=>H'=H∧∃ n:Nat,w=[ac n]∧n<=l∧∀ j (hj:j<t.texts.length),j<n->t.texts[j]≠s,fun w _=>match w with
  | [.int _ i]=>(l-i).toNat
  | _=>0,⟨rfl,0,rfl,a07 _,fun j hj h=>by omega⟩,?_⟩
 rintro w H1 ⟨rfl,n,rfl,Sb,Oc⟩ _;refine ⟨_,rfl,_,rfl,_,_,_,uF,?_⟩;rw [ae];refine cE (fun an=>?_) fun an=>?_
 ·obtain ⟨p,be,rfl,aj⟩:=hO.rd.str (i:=(n:Int)) (by omega) an;simp only [a0j] at aj be;refine ⟨_,rfl,_,_,_,uF,⟨by omega,an⟩,_,rfl,_,by rw [a0j,a0y];exact aj,?_⟩;rw [cV,ae];refine cE (fun he=>?_) fun he=>?_
  ·rw [wY be he Oc] at h;exact h
  ·have e:IntKind.wrap .i64 ((n:Int)+1)=((n+1:Nat):Int):=by rw [ao (by omega) (by omega)];omega
   rw [e];refine ⟨⟨rfl,n+1,rfl,by omega,fun j hj JD=>?_⟩,by simp;omega⟩;by_cases Zt:j=n
   ·subst Zt;exact he
   ·exact Oc j hj (by omega)
 ·have:dt t.texts s=none:=ku.2 fun hm=>by
   obtain ⟨j,hj,he⟩:=a2O hm;exact Oc j hj (by omega) he
  rw [this] at h;exact h
theorem xr (hT:uf H b F t){s:ByteArray} (h:∀ H' F',uf H' b F' (t.add s).2->Up F H F' H'->Q (.tuple #[ac (t.add s).1.1,ac (t.add s).1.2]) H'):ag PP 95 #[QW b,.string s] Q H:=by
 have OM:=hT;have Is:=hT.lt;have pe:=iq hT.wf s;obtain ⟨a,l,c,F',rfl,h1,hB,hO,hw⟩:=hT;have uF:aq H ⟨b,1,none⟩=some (.slice a l c):=hB.cell 1;have Jm:aq H ⟨b,0,none⟩=some (ac t.most):=hB.cell 0;have hl:l=t.texts.length:=by have:=hO.len;simpa [bC] using this.symm
 have CO:=hw.m1;have hlen:=hw.len;have i7:bd PP 61=some (1,16,some (.string (⟨#[]⟩:ByteArray))):=by kernel_rfl
 apply M4;dsimp only [aL,aA,bk,aC,ah,ay,aK,av,aE,cD,am,aJ,bM,aO,bj,aI];simp only [a0l,a0f];refine EE ⟨_,rfl,?_⟩;unfold TB.add at h pe;by_cases hg:dE s
 ·simp only [hg,not_true_eq_false,if_false,decide_true,a0p,a0f] at h pe ⊢;refine Pr OM ⟨_,rfl,?_⟩;cases hn:dt t.texts s with
  | some n =>
   rw [hn] at h;rw [ae,a0b (by simp only;omega)];exact h H _ OM (Up.refl _ _)
  | none =>
   rw [hn] at h pe;simp only at h pe;rw [ae,a0a (by simp)];refine ⟨_,rfl,_,_,_,uF,_,rfl,_,Jm,?_⟩;rw [ae];refine cE (fun h2=>?_) fun h2=>?_
   ·rw [a0b (by omega)] at h;exact h H _ OM (Up.refl _ _)
   ·rw [a0a (by omega)] at h pe;refine ⟨_,rfl,_,_,_,uF,?_⟩;refine bK i7 rfl (by kernel_rfl) hO rfl (by simp [dJ]) (by omega) (by decide) (by decide) fun a' c' F3 H2 g1 g2 g3=>⟨_,_,_,rfl,?_⟩;have Jh:b∉F3:=fun hx=>by
     rcases g2.2 b hx with h4 | h4
     ·exact h1 h4
     ·have:=Is b (by simp);omega
    have Da:=hB.fr g2.1 h1;have RG:=Da.set 1 (.slice a' (l+1) c');have e:IntKind.wrap .i64 (((l+1:Nat):Int)-1)=(t.texts.length:Int):=by rw [ao (by omega) (by omega)];omega
    refine ⟨_,rfl,Da.wr (by simp),_,rfl,_,_,_,RG.cell 1,?_⟩;rw [e];refine h _ (b :: F3) ⟨a',l+1,c',F3,rfl,Jh,RG,?_,pe⟩ ⟨(g2.1.mono fun x hx=>by simp [hx]).step (by simp),fun x hx=>?_⟩
    ·have h5:=g1.fr (G:=[b]) (Fr.set (a:=⟨b,1,none⟩) (v:=.slice a' (l+1) c') (by simp)) (fun x hx hn=>Jh (by simp only [a0A] at hn;rw [←hn];exact hx));simp only;rw [dB];exact h5
    ·rcases a0E.1 hx with rfl | hx
     ·exact .inl (by simp)
     ·exact (g2.2 x hx).imp (fun h4=>by simp [h4]) id
 ·simp only [hg,not_false_eq_true,if_true,decide_false,a0C,a0P] at h ⊢;exact h H _ OM (Up.refl _ _)
theorem vn (hT:uf H b F t) (h:Q (ac (t.texts.length:Int)) H):ag PP 107 #[QW b] Q H:=by
 obtain ⟨a,l,c,F',rfl,h1,hB,hO,hw⟩:=hT;have uF:aq H ⟨b,1,none⟩=some (.slice a l c):=hB.cell 1;have hl:l=t.texts.length:=by have:=hO.len;simpa [bC] using this.symm
 apply E1;dsimp only [ah,aK,ac,aE,cD];simp only [a0l,a0f];refine ⟨_,rfl,_,_,_,uF,?_⟩;rw [hl];exact h
def pd (t:TB) (n:Int):Value:=if h:0<=n∧n<t.texts.length then .tuple #[.string (t.texts[n.toNat]'(by omega)),ac 0] else .tuple #[.string (⟨#[]⟩:ByteArray),ac 61]
theorem zg (hT:uf H b F t){n:Int} (h:Q (pd t n) H):ag PP 334 #[QW b,ac n] Q H:=by
 obtain ⟨a,l,c,F',rfl,h1,hB,hO,hw⟩:=hT;have uF:aq H ⟨b,1,none⟩=some (.slice a l c):=hB.cell 1;have hl:l=t.texts.length:=by have:=hO.len;simpa [bC] using this.symm
 apply ER;dsimp only [ah,aX,aK,cX,bc,ac,bf,aE,cD,aO,ax,bJ];unfold pd at h;simp only [ae,a0l,a0f];refine cE (fun h2=>?_) fun h2=>?_
 ·rw [dif_neg (by omega)] at h;exact h
 refine ⟨_,rfl,_,_,_,uF,cE (fun h3=>?_) fun h3=>?_⟩
 ·rw [dif_neg (by omega)] at h;exact h
 ·rw [dif_pos (by omega)] at h;obtain ⟨p,be,rfl,aj⟩:=hO.rd.str (i:=n) (by omega) (by omega);exact ⟨_,rfl,_,_,_,uF,⟨by omega,by omega⟩,_,rfl,_,by rw [a0y];exact aj,h⟩
theorem M8 (hT:uf H b F t) (h:∀ a l c G H',bZ 1 H' a l c (bC t.texts) G->Fr [] H H'->(∀ x∈G,H.size<=x)->Q (.slice a l c) H'):ag PP 67 #[QW b] Q H:=by
 obtain ⟨a,l,c,F',rfl,h1,hB,hO,hw⟩:=hT;have hl:l=t.texts.length:=by have:=hO.len;simpa [bC] using this.symm
 have CO:=hw.m1;have hlen:=hw.len;have i7:bd PP 61=some (1,16,some (.string (⟨#[]⟩:ByteArray))):=by kernel_rfl
 apply MA;dsimp only [aL,ah,aX,aK,cX,bc,ac,bf,cL,av,bm,aE,cD,aJ,bM,aO,ax,aI];refine ⟨fun w H'=>∃(i:Nat) (a:Option Addr) (l' c:Nat) (G:aS),w=[.slice a l' c,ac i]∧i<=l∧bZ 1 H' a l' c (bC (t.texts.take i)) G∧Fr [] H H'∧(∀ x∈G,H.size<=x),fun w _=>match w with
  | [_,.int _ i]=>(l-i).toNat
  | _=>0,⟨0,none,0,0,[],rfl,a07 _,by simpa [bC] using bZ.nil 1 H,Fr.refl _ _,by simp⟩,?_⟩
 rintro w H1 ⟨i,a1,l1,c1,G,rfl,hi,ho,hf,hG⟩ _;have u7:=hB.fr hf (by simp);have uF:aq H1 ⟨b,1,none⟩=some (.slice a l c):=u7.cell 1;have J9:l1=i:=by have:=ho.len;simp only [bC,a1p,a1q] at this;omega
 refine ⟨_,_,_,_,rfl,?_⟩;simp only [a0l,a0C,a0P];refine ⟨_,rfl,_,_,_,uF,?_⟩;rw [ae];refine cE (fun an=>?_) fun an=>?_
 ·obtain ⟨p,be,rfl,aj⟩:=(hO.fr hf (by simp)).rd.str (i:=(i:Int)) (by omega) an;simp only [a0j] at aj be;have lj:t.texts.take (i+1)=t.texts.take i++[t.texts[i]]:=by rw [a1i];simp [be]
  have e:IntKind.wrap .i64 ((i:Int)+1)=((i+1:Nat):Int):=by rw [ao (by omega) (by omega)];omega
  refine ⟨_,rfl,_,_,_,uF,⟨by omega,an⟩,_,rfl,_,by rw [a0j,a0y];exact aj,?_⟩;refine bK i7 rfl (by kernel_rfl) ho rfl (by simp [dJ]) (by omega) (by decide) (by decide) fun a' c' G2 H2 g1 g2 g3=>⟨_,_,_,rfl,?_⟩;have o3:=Up.fresh hf g2 hG;rw [e];refine ⟨⟨i+1,a',l1+1,c',G2,rfl,by omega,?_,o3.1,o3.2⟩,by simp;omega⟩;rw [lj,dB];exact g1
 ·rw [a0Y (by omega)] at ho;exact h _ _ _ _ H1 ho hf hG
theorem Kz (hT:uf H b F t){n:Int} (h:∀ H' F',uf H' b F' (TB.back t n).2->Up F H F' H'->Q (ac (TB.back t n).1) H'):ag PP 243 #[QW b,ac n] Q H:=by
 have OM:=hT;have Is:=hT.lt;obtain ⟨a,l,c,F',rfl,h1,hB,hO,hw⟩:=hT;have uF:aq H ⟨b,1,none⟩=some (.slice a l c):=hB.cell 1;have hl:l=t.texts.length:=by have:=hO.len;simpa [bC] using this.symm
 have CO:=hw.m1;have hlen:=hw.len;have i7:bd PP 61=some (1,16,some (.string (⟨#[]⟩:ByteArray))):=by kernel_rfl
 apply DW;dsimp only [aL,ah,bP,aX,aK,cX,bc,ac,bf,cL,av,bm,aE,cD,aJ,bM,aO,bj,aI];unfold TB.back at h;simp only [ae,a0l,a0f];refine cE (fun h2=>?_) fun h2=>?_
 ·rw [a0b (.inl h2)] at h;exact h H _ OM (Up.refl _ _)
 refine ⟨_,rfl,_,_,_,uF,cE (fun h3=>?_) fun h3=>?_⟩
 ·rw [a0b (by omega)] at h;exact h H _ OM (Up.refl _ _)
 rw [a0a (by omega)] at h;refine ⟨fun w H'=>∃(i:Nat) (a:Option Addr) (l' c:Nat) (G:aS),w=[.slice a l' c,ac i]∧(i:Int)<=n∧bZ 1 H' a l' c (bC (t.texts.take i)) G∧Fr [] H H'∧(∀ x∈G,H.size<=x),fun w _=>match w with
  | [_,.int _ i]=>(n-i).toNat
  | _=>0,⟨0,none,0,0,[],rfl,by omega,by simpa [bC] using bZ.nil 1 H,Fr.refl _ _,by simp⟩,?_⟩
 rintro w H1 ⟨i,a1,l1,c1,G,rfl,hi,ho,hf,hG⟩ _;have u7:=hB.fr hf (by simp);have a0J:aq H1 ⟨b,1,none⟩=some (.slice a l c):=u7.cell 1;have J9:l1=i:=by have:=ho.len;simp only [bC,a1p,a1q] at this;omega
 refine ⟨_,_,_,_,rfl,cE (fun an=>?_) fun an=>?_⟩
 ·obtain ⟨p,be,rfl,aj⟩:=(hO.fr hf (by simp)).rd.str (i:=(i:Int)) (by omega) (by omega);simp only [a0j] at aj be;have lj:t.texts.take (i+1)=t.texts.take i++[t.texts[i]]:=by rw [a1i];simp [be]
  have e:IntKind.wrap .i64 ((i:Int)+1)=((i+1:Nat):Int):=by rw [ao (by omega) (by omega)];omega
  refine ⟨_,rfl,_,_,_,a0J,⟨by omega,by omega⟩,_,rfl,_,by rw [a0j,a0y];exact aj,?_⟩;refine bK i7 rfl (by kernel_rfl) ho rfl (by simp [dJ]) (by omega) (by decide) (by decide) fun a' c' G2 H2 g1 g2 g3=>⟨_,_,_,rfl,?_⟩;have o3:=Up.fresh hf g2 hG;rw [e];refine ⟨⟨i+1,a',l1+1,c',G2,rfl,by omega,?_,o3.1,o3.2⟩,by simp;omega⟩;rw [lj,dB];exact g1
 ·have Jk:i=n.toNat:=by omega
  have WC:b∉G:=fun hx=>by have:=hG b hx;have:=Is b (by simp);omega
  refine ⟨_,rfl,u7.wr (by simp),h _ (b :: G) ⟨a1,l1,c1,G,rfl,WC,u7.set 1 (.slice a1 l1 c1),?_,?_⟩ ⟨(hf.of_nil).step (by simp),fun x hx=>?_⟩⟩
  ·rw [Jk] at ho;exact ho.fr (G:=[b]) (Fr.set (by simp)) (fun x hx hn=>WC (by simp only [a0A] at hn;rw [←hn];exact hx))
  ·exact { hw with len:=by simp;omega,nodup:=hw.nodup.sublist (a4q _ _),good:=fun s hs=>hw.good s (a2W hs) }
  ·rcases a0E.1 hx with rfl | hx
   ·exact .inl (by simp)
   ·exact .inr (hG x hx)
end
end Go.Proofs.YtgjfejoohojokaaGreatDoor
