/- Lemmas for RDLists: functions of the program as predicate transformers, and their contracts. -/
import Derived.Test.YtmkdkplipbocjaaGreatDoorZT1
import Derived.Shelf.SlSortCmp.Whole1
import Derived.Ground.SlsfProg
import Derived.Test.YtmkdkplipbocjaaGreatDoorProg
import Derived.Shelf.Sort.Plain
import Derived.Ground.NamesProg
set_option linter.all false
set_option maxRecDepth 100000
set_option maxHeartbeats 4000000
namespace Go.Proofs.YtmkdkplipbocjaaGreatDoor
open Kw
def eU:rE RO:=fun H ys o F=>∃ a l c,ys=[.int .i64 o.oop,.int .i64 o.fmt,.int .i64 o.place,.int .i64 o.born,.int .i64 o.cls,.slice a l c]∧bv 1 H a l c (aq o.slots) F
theorem eU.frR:Dt eU:=fun _ _ _ _ _ ⟨a,l,c,h1,h2⟩ he=>⟨a,l,c,h1,h2.keep he⟩
theorem eU.ltR:Eh eU:=fun _ _ _ _ ⟨_,_,_,_,h2⟩=>h2.lt
def dA (H:aj) (b:Nat) (F:ay) (r:RH):Prop:=∃ a l c F',F=b :: F'∧b∉F'∧bA H b #[.int .i64 r.words,.int .i64 r.oops,.int .i64 r.mark,.int .i64 r.born,.int .i64 r.turn,.slice a l c]∧dv 6 eU H a l c r.objs F'∧WFH r
theorem dA.wf {H:aj}{b:Nat}{F:ay}{r:RH} (h:dA H b F r):WFH r:=by obtain ⟨_,_,_,_,_,_,_,_,h⟩:=h;exact h
theorem dA.lt {H:aj}{b:Nat}{F:ay}{r:RH} (h:dA H b F r):∀ x∈F,x<H.size:=by
 obtain ⟨a,l,c,F',rfl,_,hB,hL,_⟩:=h
 intro x hx
 rcases List.mem_cons.1 hx with rfl | hx
 ·exact hB.lt
 ·exact hL.lt eU.ltR x hx
theorem dA.keep {H H':aj}{b:Nat}{F:ay}{r:RH} (h:dA H b F r) (he:∀ x∈F,H'[x]?=H[x]?):dA H' b F r:=by
 obtain ⟨a,l,c,F',rfl,hn,hB,hL,hw⟩:=h
 exact ⟨a,l,c,F',rfl,hn,hB.of_eq (he b (by simp)),hL.keep eU.frR fun x hx=>he x (by simp [hx]),hw⟩
theorem dA.fr {H H':aj}{b:Nat}{F G:ay}{r:RH} (h:dA H b F r) (hf:Fr G H H') (hd:bi F G):dA H' b F r :=
 h.keep fun x hx=>hf.2 x (h.lt x hx) (hd x hx)
section
variable {H:aj}{b:Nat}{F F':ay}{r:RH}{a:Option Addr}{l c:Nat}{Q:QT}
theorem jE {objs:List RO} (hL:dv 6 eU H a l c objs F'){i:Nat} (hi:i<objs.length) :
  ∃ ob sa sl sc G,a=some ⟨ob,0,none⟩∧ac H ⟨ob,i*6,none⟩=some (.int .i64 objs[i].oop)∧ac H ⟨ob,i*6+1,none⟩=some (.int .i64 objs[i].fmt)∧ac H ⟨ob,i*6+2,none⟩=some (.int .i64 objs[i].place) ∧
   ac H ⟨ob,i*6+3,none⟩=some (.int .i64 objs[i].born)∧ac H ⟨ob,i*6+4,none⟩=some (.int .i64 objs[i].cls)∧ac H ⟨ob,i*6+5,none⟩=some (.slice sa sl sc)∧bv 1 H sa sl sc (aq objs[i].slots) G∧(∀ x∈G,x∈F')∧sl=objs[i].slots.length:=by
 obtain ⟨p,ys,G,e1,e2,e3,e4,e5,⟨sa,sl,sc,e6,e7⟩,e8⟩:=hL.get hi
 obtain ⟨pb,po,ps⟩:=p
 simp only at e2 e3
 subst e2;subst e3;subst e6
 refine ⟨pb,sa,sl,sc,G,e1,e4 0 (by decide),e4 1 (by decide),e4 2 (by decide),e4 3 (by decide),e4 4 (by decide),e4 5 (by decide),e7,e8,?_⟩
 have:=e7.len
 simp only [aq,List.length_map] at this
 omega
theorem jD {n f:Int} (h0:0<=n) (h1:n<=1000000000) (h:Q (.int .i64 (lenOf n f)) H):ah PP GG #[.int .i64 n,.int .i64 f] Q H:=by
 apply Dw
 unfold NU iV wW
 simp only [ae,cond_true,cond_false,Option.isNone_some,Option.isNone_none,aL,aB,aY,aQ,aJ,aR,aU,aC,aW,aV,aK,aX,and_assoc,true_and,and_true,ao,Nat.zero_add,Nat.mul_one,az,ax,aD,Bool.not_true,Bool.not_false,bj,bf]
 unfold lenOf at h
 split
 ·rename_i hf
  rw [if_pos hf] at h
  rw [am (n:=n+3) (by omega) (by omega),jC,if_pos (by omega),am (n:=(n+3) / 4) (by omega) (by omega),am (by omega) (by omega)]
  exact h
 ·rename_i hf
  rw [if_neg hf] at h
  rw [am (by omega) (by omega)];exact h
theorem Ho {w f:Int} (h:Q (.bool (decide (io f w))) H):ah PP Hj #[.int .i64 w,.int .i64 f] Q H:=by
 apply Cj
 unfold MR iV cS
 have fin:∀ b:Bool,b=decide (io f w)->Q (.bool b) H:=fun b hb=>hb ▸ h
 simp only [ae,cond_true,cond_false,Option.isNone_some,Option.isNone_none,aL,aB,aY,aQ,aJ,aR,aU,aC,aW,aV,aK,aX,and_assoc,true_and,and_true,ao,Nat.zero_add,Nat.mul_one,az,ax,aD,Bool.not_true,Bool.not_false,bj,bf]
 split
 ·rename_i hf
  split
  ·exact fin _ (by simp [io,hf];omega)
  ·exact fin _ (by simp [io,hf];omega)
 ·rename_i hf
  refine jL ?_
  simp only [ae,cond_true,cond_false,Option.isNone_some,Option.isNone_none,aL,aB,aY,aQ,aJ,aR,aU,aC,aW,aV,aK,aX,and_assoc,true_and,and_true,ao,Nat.zero_add,Nat.mul_one,az,ax,aD,Bool.not_true,Bool.not_false,bj,bf]
  exact fin _ (by simp [io,hf,dG])
theorem iX (hR:dA H b F r){k:Int} (h1:aH r.objs k=none->Q (.int .i64 (-1)) H) (h2:∀ (n:Nat) (hn:n<r.objs.length),aH r.objs k=some r.objs[n]->Q (.int .i64 n) H):ah PP EW #[.pointer (some ⟨b,0,none⟩),.int .i64 k] Q H:=by
 have hR0:=hR
 obtain ⟨a,l,c,F',rfl,hn,hB,hL,hw⟩:=hR
 have hll:=hL.len
 apply AW
 unfold MI iV wW lV
 have hc5:=hB.cell 5
 have hcnt:=eh hw.objs
 have hen:=bO hw.objs hw.w0
 have hw1:=hw.w1
 refine ⟨fun w H'=>H'=H∧∃ n:Nat,w=[.int .i64 n]∧n<=r.objs.length∧∀ j (hj:j<r.objs.length),j<n->r.objs[j].oop≠k,fun w _=>match w with
  | [.int _ i]=>(r.objs.length-i).toNat
  | _=>0,⟨rfl,0,rfl,Nat.zero_le _,fun j hj h=>by omega⟩,?_⟩
 rintro w H1 ⟨rfl,n,rfl,hn1,hn2⟩ _
 refine ⟨n,rfl,?_⟩
 simp only [ae,cond_true,cond_false,Option.isNone_some,Option.isNone_none,aL,aB,aY,aQ,aJ,aR,aU,aC,aW,aV,aK,aX,and_assoc,true_and,and_true,ao,Nat.zero_add,Nat.mul_one,az,ax,aD,Bool.not_true,Bool.not_false,bj,bf,hc5,List.setIfInBounds_toArray,List.set_cons_zero,List.set_cons_succ,List.size_toArray,List.length_cons,List.length_nil,List.getElem?_toArray,List.getElem?_cons_succ,List.getElem?_cons_zero]
 split
 ·rename_i hlt
  have hlt':n<r.objs.length:=by omega
  obtain ⟨ob,sa,sl,sc,G,rfl,g0,g1,g2,g3,g4,g5,g6,g7,g8⟩:=jE hL hlt'
  simp only [ae,cond_true,cond_false,Option.isNone_some,Option.isNone_none,aL,aB,aY,aQ,aJ,aR,aU,aC,aW,aV,aK,aX,and_assoc,true_and,and_true,ao,Nat.zero_add,Nat.mul_one,az,ax,aD,Bool.not_true,Bool.not_false,bj,bf,Int.toNat_natCast,g0]
  refine ⟨by omega,hlt,?_⟩
  split
  ·rename_i he
   refine h2 n hlt' ?_
   rw [←he]
   exact bW hw.objs (List.getElem_mem hlt')
  ·rename_i he
   have e:IntKind.wrap .i64 ((n:Int)+1)=((n+1:Nat):Int):=by rw [am (by omega) (by omega)];omega
   rw [e]
   refine ⟨⟨n+1,rfl,by omega,fun j hj hj2=>?_⟩,by simp;omega⟩
   by_cases hjn:j=n
   ·subst hjn;exact he
   ·exact hn2 j hj (by omega)
 ·rename_i hlt
  refine h1 (dt.2 fun o ho=>?_)
  obtain ⟨j,hj,rfl⟩:=List.getElem_of_mem ho
  exact hn2 j hj (by omega)
theorem kZ (hR:dA H b F r){k:Int} (h:Q (mP (r.clsAt k)) H):ah PP Ij #[.pointer (some ⟨b,0,none⟩),.int .i64 k] Q H:=by
 have hR0:=hR
 obtain ⟨a,l,c,F',rfl,hn,hB,hL,hw⟩:=hR
 have hll:=hL.len
 have hc5:=hB.cell 5
 apply C0
 unfold PX iV pV lV cS
 unfold RH.clsAt at h
 simp only [ae,cond_true,cond_false,Option.isNone_some,Option.isNone_none,aL,aB,aY,aQ,aJ,aR,aU,aC,aW,aV,aK,aX,and_assoc,true_and,and_true,ao,Nat.zero_add,Nat.mul_one,az,ax,aD,Bool.not_true,Bool.not_false,bj,bf,hc5,List.setIfInBounds_toArray,List.set_cons_zero,List.set_cons_succ,List.size_toArray,List.length_cons,List.length_nil,List.getElem?_toArray,List.getElem?_cons_succ,List.getElem?_cons_zero]
 refine iX hR0 (fun hno=>?_) fun n hlt ho=>?_
 ·rw [hno] at h;exact ⟨_,rfl,by simpa using h⟩
 ·rw [ho] at h
  obtain ⟨ob,sa,sl,sc,G,rfl,g0,g1,g2,g3,g4,g5,g6,g7,g8⟩:=jE hL hlt
  simp only [ae,cond_true,cond_false,Option.isNone_some,Option.isNone_none,aL,aB,aY,aQ,aJ,aR,aU,aC,aW,aV,aK,aX,and_assoc,true_and,and_true,ao,Nat.zero_add,Nat.mul_one,az,ax,aD,Bool.not_true,Bool.not_false,bj,bf,Int.toNat_natCast,g4,hc5,List.setIfInBounds_toArray,List.set_cons_zero,List.set_cons_succ,List.size_toArray,List.length_cons,List.length_nil,List.getElem?_toArray,List.getElem?_cons_succ,List.getElem?_cons_zero]
  rw [if_neg (by omega)]
  exact ⟨by omega,by omega,h⟩
theorem rN (hR:dA H b F r){k:Int} (h:Q (jP (r.size k)) H):ah PP FI #[.pointer (some ⟨b,0,none⟩),.int .i64 k] Q H:=by
 have hR0:=hR
 obtain ⟨a,l,c,F',rfl,hn,hB,hL,hw⟩:=hR
 have hll:=hL.len
 have hc5:=hB.cell 5
 apply Bk
 unfold LT iV pV lV cS
 unfold RH.size at h
 simp only [ae,cond_true,cond_false,Option.isNone_some,Option.isNone_none,aL,aB,aY,aQ,aJ,aR,aU,aC,aW,aV,aK,aX,and_assoc,true_and,and_true,ao,Nat.zero_add,Nat.mul_one,az,ax,aD,Bool.not_true,Bool.not_false,bj,bf]
 refine iX hR0 (fun hno=>?_) fun n hlt ho=>?_
 ·rw [hno] at h;exact ⟨_,rfl,by simpa using h⟩
 ·rw [ho] at h
  obtain ⟨ob,sa,sl,sc,G,rfl,g0,g1,g2,g3,g4,g5,g6,g7,g8⟩:=jE hL hlt
  simp only [ae,cond_true,cond_false,Option.isNone_some,Option.isNone_none,aL,aB,aY,aQ,aJ,aR,aU,aC,aW,aV,aK,aX,and_assoc,true_and,and_true,ao,Nat.zero_add,Nat.mul_one,az,ax,aD,Bool.not_true,Bool.not_false,bj,bf,Int.toNat_natCast,g1,g5,hc5,List.setIfInBounds_toArray,List.set_cons_zero,List.set_cons_succ,List.size_toArray,List.length_cons,List.length_nil,List.getElem?_toArray,List.getElem?_cons_succ,List.getElem?_cons_zero]
  rw [if_neg (by omega)]
  refine ⟨by omega,by omega,by omega,by omega,?_⟩
  rw [g8];exact h
theorem Ei (hR:dA H b F r){k i:Int} (h:Q (mP (r.at k i)) H):ah PP Id #[.pointer (some ⟨b,0,none⟩),.int .i64 k,.int .i64 i] Q H:=by
 have hR0:=hR
 obtain ⟨a,l,c,F',rfl,hn,hB,hL,hw⟩:=hR
 have hll:=hL.len
 have hc5:=hB.cell 5
 apply Ae
 unfold PO iV pV lV cS
 unfold RH.at at h
 simp only [ae,cond_true,cond_false,Option.isNone_some,Option.isNone_none,aL,aB,aY,aQ,aJ,aR,aU,aC,aW,aV,aK,aX,and_assoc,true_and,and_true,ao,Nat.zero_add,Nat.mul_one,az,ax,aD,Bool.not_true,Bool.not_false,bj,bf]
 refine iX hR0 (fun hno=>?_) fun n hlt ho=>?_
 ·rw [hno] at h;exact ⟨_,rfl,by simpa using h⟩
 ·rw [ho] at h
  obtain ⟨ob,sa,sl,sc,G,rfl,g0,g1,g2,g3,g4,g5,g6,g7,g8⟩:=jE hL hlt
  simp only [ae,cond_true,cond_false,Option.isNone_some,Option.isNone_none,aL,aB,aY,aQ,aJ,aR,aU,aC,aW,aV,aK,aX,and_assoc,true_and,and_true,ao,Nat.zero_add,Nat.mul_one,az,ax,aD,Bool.not_true,Bool.not_false,bj,bf,Int.toNat_natCast,g5,hc5,List.setIfInBounds_toArray,List.set_cons_zero,List.set_cons_succ,List.size_toArray,List.length_cons,List.length_nil,List.getElem?_toArray,List.getElem?_cons_succ,List.getElem?_cons_zero]
  rw [if_neg (by omega)]
  simp only at h
  split
  ·rename_i hi
   rw [if_pos (.inl hi)] at h;exact h
  ·rename_i hi
   refine ⟨by omega,by omega,?_⟩
   split
   ·rename_i hi2
    rw [if_pos (by omega)] at h;exact h
   ·rename_i hi2
    rw [if_neg (by omega)] at h
    obtain ⟨p,rfl,hcell,hlt2⟩:=g6.rd.int (i:=i) (by omega) (by omega)
    simp only [ae,cond_true,cond_false,Option.isNone_some,Option.isNone_none,aL,aB,aY,aQ,aJ,aR,aU,aC,aW,aV,aK,aX,and_assoc,true_and,and_true,ao,Nat.zero_add,Nat.mul_one,az,ax,aD,Bool.not_true,Bool.not_false,bj,bf,hcell]
    exact ⟨by omega,by omega,by omega,by omega,h⟩
theorem qH (hR:dA H b F r) (h:Q (.int .i64 r.mark) H):ah PP Nm #[.pointer (some ⟨b,0,none⟩)] Q H:=by
 obtain ⟨a,l,c,F',rfl,hn,hB,hL,hw⟩:=hR
 have hc:=hB.cell 2
 apply Ii
 unfold Q9 iV
 simp only [ae,cond_true,cond_false,Option.isNone_some,Option.isNone_none,aL,aB,aY,aQ,aJ,aR,aU,aC,aW,aV,aK,aX,and_assoc,true_and,and_true,ao,Nat.zero_add,Nat.mul_one,az,ax,aD,Bool.not_true,Bool.not_false,bj,bf,hc,List.setIfInBounds_toArray,List.set_cons_zero,List.set_cons_succ,List.size_toArray,List.length_cons,List.length_nil,List.getElem?_toArray,List.getElem?_cons_succ,List.getElem?_cons_zero]
 exact h
theorem ss (hR:dA H b F r){k:Int} (h:∀ H',dA H' b F (r.marks k).2->Fr F H H'->Q (.int .i64 (r.marks k).1) H'):ah PP KG #[.pointer (some ⟨b,0,none⟩),.int .i64 k] Q H:=by
 have hR0:=hR
 obtain ⟨a,l,c,F',rfl,hn,hB,hL,hw⟩:=hR
 apply zV
 unfold LR iV
 unfold RH.marks at h
 simp only [ae,cond_true,cond_false,Option.isNone_some,Option.isNone_none,aL,aB,aY,aQ,aJ,aR,aU,aC,aW,aV,aK,aX,and_assoc,true_and,and_true,ao,Nat.zero_add,Nat.mul_one,az,ax,aD,Bool.not_true,Bool.not_false,bj,bf]
 split
 ·rw [if_neg (by omega)] at h;exact h H hR0 (Fr.refl _ _)
 split
 ·rw [if_neg (by omega)] at h;exact h H hR0 (Fr.refl _ _)
 ·rw [if_pos (by omega)] at h
  refine ⟨hB.wr (by simp),h _ ⟨a,l,c,F',rfl,hn,hB.set 2 (.int .i64 k),hL.keep eU.frR fun x hx=>dI (fun e=>hn (by simp only at e;subst e;exact hx)),{ hw with m0:=by simp;omega,m1:=by simp;omega }⟩ (Fr.set (by simp))⟩
theorem nB (hR:dA H b F r) (h:∀ H',Fr [] H H'->Q (.int .i64 (bn r.objs)) H'):ah PP GA #[.pointer (some ⟨b,0,none⟩)] Q H:=by
 have hR0:=hR
 obtain ⟨a,l,c,F',rfl,hn,hB,hL,hw⟩:=hR
 have hll:=hL.len
 have hc5:=hB.cell 5
 have hcnt:=eh hw.objs
 have hen:=bO hw.objs hw.w0
 have hw1:=hw.w1
 apply BR
 unfold Mt A0 iV wW lV cS;dsimp only [shH]
 simp only [ae,cond_true,cond_false,Option.isNone_some,Option.isNone_none,aL,aB,aY,aQ,aJ,aR,aU,aC,aW,aV,aK,aX,and_assoc,true_and,and_true,ao,Nat.zero_add,Nat.mul_one,az,ax,aD,Bool.not_true,Bool.not_false,bj,bf,hc5,List.setIfInBounds_toArray,List.set_cons_zero,List.set_cons_succ,List.size_toArray,List.length_cons,List.length_nil,List.getElem?_toArray,List.getElem?_cons_succ,List.getElem?_cons_zero]
 split
 ·rename_i h0
  have:r.objs=[]:=List.eq_nil_of_length_eq_zero (by omega)
  rw [this] at h
  exact h H (Fr.refl _ _)
 ·rename_i h0
  rcases List.eq_nil_or_concat r.objs with he | ⟨m,x,he⟩
  ·rw [he] at hll;simp at hll;omega
  simp only [List.concat_eq_append] at he
  have hml:r.objs.length=m.length+1:=by rw [he];simp
  have hi:m.length<r.objs.length:=by omega
  obtain ⟨ob,sa,sl,sc,G,rfl,g0,g1,g2,g3,g4,g5,g6,g7,g8⟩:=jE hL hi
  have hx:r.objs[m.length]=x:=by simp [he]
  rw [hx] at g0 g1 g2 g3 g4 g6 g8
  have e1:IntKind.wrap .i64 ((l:Int)-1)=(m.length:Int):=by rw [am (by omega) (by omega)];omega
  have hxm:x∈r.objs:=by rw [he];simp
  have hg:=hw.objs.good x hxm
  have hmany:=hg.many
  have hpl:=hg.pl
  have hfit:=hg.fits
  have hlp:=x.len_pos
  have hob:ob<H.size:=by
   have h3:=hL.lt eU.ltR
   obtain ⟨xs,F1,F2,k1,k2,k3,k4,k5⟩:=hL
   rcases k1.2.2 with ⟨ka,_⟩ | ⟨b',cs,ka,kb,kc,_⟩
   ·cases ka
   ·cases ka;exact kc.lt
  have hpo:∀ o i,ac (H.push o) ⟨ob,i,none⟩=ac H ⟨ob,i,none⟩:=fun o i=>dm hob
  have hpb:∀ o i,ac (H.push o) ⟨b,i,none⟩=ac H ⟨b,i,none⟩:=fun o i=>dm hB.lt
  simp only [ae,cond_true,cond_false,Option.isNone_some,Option.isNone_none,aL,aB,aY,aQ,aJ,aR,aU,aC,aW,aV,aK,aX,and_assoc,true_and,and_true,ao,Nat.zero_add,Nat.mul_one,az,ax,aD,Bool.not_true,Bool.not_false,bj,bf,e1,Int.toNat_natCast,hpo,hpb,g0,g1,g2,g3,g4,g5,hc5,List.setIfInBounds_toArray,List.set_cons_zero,List.set_cons_succ,List.size_toArray,List.length_cons,List.length_nil,List.getElem?_toArray,List.getElem?_cons_succ,List.getElem?_cons_zero]
  refine ⟨by omega,by omega,by decide,by decide,by decide,by decide,by decide,by decide,?_⟩
  rw [g8]
  refine jD (by omega) (by omega) ?_
  have e2:IntKind.wrap .i64 (x.place+lenOf (x.slots.length:Int) x.fmt)=x.place+x.len:=am (by unfold RO.len at *;omega) (by unfold RO.len at *;omega)
  simp only [ae,cond_true,cond_false,Option.isNone_some,Option.isNone_none,aL,aB,aY,aQ,aJ,aR,aU,aC,aW,aV,aK,aX,and_assoc,true_and,and_true,ao,Nat.zero_add,Nat.mul_one,az,ax,aD,Bool.not_true,Bool.not_false,bj,bf,List.setIfInBounds_toArray,List.set_cons_zero,List.set_cons_succ,List.size_toArray,List.length_cons,List.length_nil,List.getElem?_toArray,List.getElem?_cons_succ,List.getElem?_cons_zero]
  rw [e2]
  have h':∀ H',Fr [] H H'->Q (.int .i64 (x.place+x.len)) H':=by rw [he,di] at h;exact h
  exact h' _ (Fr.push _ _ _)
theorem wz (l:List Int) (i:Nat) (w:Int):(aq l).set i (.int .i64 w)=aq (l.set i w):=by simp [aq,List.map_set]
theorem AS {a:Option Addr}{l c:Nat}{xs:List Int}{G:ay} (h:bv 1 H a l c (aq xs) G){i:Int} (h0:0<=i) (h1:i<xs.length) (w:Int) :
  ∃ sb,a=some ⟨sb,0,none⟩∧G=[sb]∧Wr H ⟨sb,i.toNat,none⟩∧bv 1 (au H ⟨sb,i.toNat,none⟩ (.int .i64 w)) a l c (aq (xs.set i.toNat w)) G:=by
 have hl:=h.len
 simp only [aq,List.length_map] at hl
 rcases h.2.2 with ⟨_,hc,_⟩ | ⟨sb,cs,rfl,rfl,hb,hcs,htk⟩
 ·have:=h.2.1;omega
 ·have hle:=h.2.1
  refine ⟨sb,rfl,rfl,hb.wr (by omega),⟨by simp [aq,hl],hle,.inr ⟨sb,_,rfl,rfl,hb.set i.toNat (.int .i64 w),by simpa using hcs,?_⟩⟩⟩
  rw [Array.toList_setIfInBounds,List.take_set,htk,wz]
theorem ku (hR:dA H b F r){k i w:Int} (h:∀ H',dA H' b F (r.put k i w).2->Fr F H H'->Q (.int .i64 (r.put k i w).1) H'):ah PP Py #[.pointer (some ⟨b,0,none⟩),.int .i64 k,.int .i64 i,.int .i64 w] Q H:=by
 have hR0:=hR
 obtain ⟨a,l,c,F',rfl,hn,hB,hL,hw⟩:=hR
 have hll:=hL.len
 have hc5:=hB.cell 5
 have hwf:=il hw k i w
 apply KU
 unfold QK iV pV lV cS
 unfold RH.put at h hwf
 simp only [ae,cond_true,cond_false,Option.isNone_some,Option.isNone_none,aL,aB,aY,aQ,aJ,aR,aU,aC,aW,aV,aK,aX,and_assoc,true_and,and_true,ao,Nat.zero_add,Nat.mul_one,az,ax,aD,Bool.not_true,Bool.not_false,bj,bf]
 refine iX hR0 (fun hno=>?_) fun n hlt ho=>?_
 ·simp only [hno] at h;exact ⟨_,rfl,by simpa using h H hR0 (Fr.refl _ _)⟩
 ·simp only [ho] at h hwf
  obtain ⟨ob,sa,sl,sc,G,rfl,g0,g1,g2,g3,g4,g5,g6,g7,g8⟩:=jE hL hlt
  simp only [ae,cond_true,cond_false,Option.isNone_some,Option.isNone_none,aL,aB,aY,aQ,aJ,aR,aU,aC,aW,aV,aK,aX,and_assoc,true_and,and_true,ao,Nat.zero_add,Nat.mul_one,az,ax,aD,Bool.not_true,Bool.not_false,bj,bf,Int.toNat_natCast,g1,g5,hc5,List.setIfInBounds_toArray,List.set_cons_zero,List.set_cons_succ,List.size_toArray,List.length_cons,List.length_nil,List.getElem?_toArray,List.getElem?_cons_succ,List.getElem?_cons_zero]
  rw [if_neg (by omega)]
  split
  ·rename_i hi
   simp only [hi,true_or,if_true] at h;exact h H hR0 (Fr.refl _ _)
  ·rename_i hi
   refine ⟨by omega,by omega,?_⟩
   split
   ·rename_i hi2
    have hi3:(r.objs[n].slots.length:Int)<=i:=by omega
    simp only [hi3,or_true,if_true] at h;exact h H hR0 (Fr.refl _ _)
   ·rename_i hi2
    have hi3:¬ (i<0∨(r.objs[n].slots.length:Int)<=i):=by omega
    simp only [hi3,if_false] at h hwf
    refine ⟨by omega,by omega,Ho ?_⟩
    by_cases hmay:io r.objs[n].fmt w
    ·simp only [hmay,not_true_eq_false,if_false] at h hwf
     simp only [ae,cond_true,cond_false,Option.isNone_some,Option.isNone_none,aL,aB,aY,aQ,aJ,aR,aU,aC,aW,aV,aK,aX,and_assoc,true_and,and_true,ao,Nat.zero_add,Nat.mul_one,az,ax,aD,Bool.not_true,Bool.not_false,bj,bf,hmay,decide_true,g5,hc5,List.setIfInBounds_toArray,List.set_cons_zero,List.set_cons_succ,List.size_toArray,List.length_cons,List.length_nil,List.getElem?_toArray,List.getElem?_cons_succ,List.getElem?_cons_zero]
     obtain ⟨p,ys,G',e1,e2,e3,e4,e5,⟨sa',sl',sc',e6,e7⟩,e8,e9⟩:=hL.updIn eU.frR eU.ltR hlt
     obtain ⟨pb,po,ps⟩:=p
     simp only at e2 e3
     subst e2;subst e3;subst e6
     cases e1
     have hsame:=(e4 5 (by decide)).symm.trans g5
     simp only [List.getElem?_cons_succ,List.getElem?_cons_zero,Option.some.injEq,Value.slice.injEq] at hsame
     obtain ⟨rfl,rfl,rfl⟩:=hsame
     obtain ⟨sb,rfl,rfl,hwr,hown⟩:=AS e7 (i:=i) (by omega) (by omega) w
     simp only [ae,cond_true,cond_false,Option.isNone_some,Option.isNone_none,aL,aB,aY,aQ,aJ,aR,aU,aC,aW,aV,aK,aX,and_assoc,true_and,and_true,ao,Nat.zero_add,Nat.mul_one,az,ax,aD,Bool.not_true,Bool.not_false,bj,bf]
     refine ⟨by omega,by omega,by omega,by omega,hwr,h _ ?_ (Fr.set (by simp only [List.mem_cons];exact .inr (e8 sb (by simp))))⟩
     have hsb:b≠sb:=fun e=>hn (by rw [e];exact e8 sb (by simp))
     have hko:k=r.objs[n].oop:=(aM ho).2.symm
     refine ⟨some ⟨ob,0,none⟩,l,c,F',rfl,hn,hB.set_ne hsb _,?_,hwf⟩
     rw [hko,sM hw.objs hlt]
     exact e9 _ _ ⟨_,_,_,rfl,hown⟩ fun x hx hxn=>dI (by simp only [List.mem_singleton] at hxn;exact hxn)
    ·simp only [hmay,not_false_eq_true,if_true] at h
     simp only [ae,cond_true,cond_false,Option.isNone_some,Option.isNone_none,aL,aB,aY,aQ,aJ,aR,aU,aC,aW,aV,aK,aX,and_assoc,true_and,and_true,ao,Nat.zero_add,Nat.mul_one,az,ax,aD,Bool.not_true,Bool.not_false,bj,bf,hmay,decide_false]
     exact h H hR0 (Fr.refl _ _)
theorem pY (hR:dA H b F r) (hlt:(r.objs.length:Int)<r.oops) (h:Q (.int .i64 (bP r.objs)) H):ah PP IV #[.pointer (some ⟨b,0,none⟩)] Q H:=by
 have hw:=hR.wf
 have ho1:=hw.o1
 have hlow:=dL hw.objs ho1 hlt
 apply DF
 unfold Lh iV wW pV cS
 refine ⟨fun w H'=>H'=H∧∃ k:Int,w=[.int .i64 k]∧1<=k∧k<=bP r.objs,fun w _=>match w with
  | [.int _ k]=>(bP r.objs-k).toNat
  | _=>0,⟨rfl,1,rfl,Int.le_refl _,hlow.1⟩,?_⟩
 rintro w H1 ⟨rfl,k,rfl,hk1,hk2⟩ _
 refine ⟨k,rfl,?_⟩
 simp only [ae,cond_true,cond_false,Option.isNone_some,Option.isNone_none,aL,aB,aY,aQ,aJ,aR,aU,aC,aW,aV,aK,aX,and_assoc,true_and,and_true,ao,Nat.zero_add,Nat.mul_one,az,ax,aD,Bool.not_true,Bool.not_false,bj,bf]
 refine iX hR (fun hno=>⟨_,rfl,?_⟩) fun n hn ho=>⟨_,rfl,?_⟩
 ·rw [if_neg (by decide)]
  have:k=bP r.objs:=by
   refine Classical.byContradiction fun hc=>?_
   exact hlow.2.2.2 k hk1 (by omega) hno
  rw [this];exact h
 ·rw [if_pos (by omega),am (n:=k+1) (by omega) (by omega)]
  have:k≠bP r.objs:=by rintro rfl;rw [hlow.2.2.1] at ho;cases ho
  exact ⟨rfl,⟨k+1,rfl,by omega,by omega⟩,by simp;omega⟩
theorem Ia {words oops:Int} (hbad:¬ (0<=words∧words<=1048576∧0<=oops∧oops<=65536)->Q (.tuple #[.pointer none,.int .i64 1]) H)
  (h:(0<=words∧words<=1048576∧0<=oops∧oops<=65536)->∀ H',dA H' H.size [H.size] ⟨words,oops,0,0,0,[]⟩->Fr [] H H'->Q (.tuple #[.pointer (some ⟨H.size,0,none⟩),.int .i64 0]) H'):ah PP Ez #[.int .i64 words,.int .i64 oops] Q H:=by
 apply As
 unfold Mk A0 iV pV lV
 simp only [ae,cond_true,cond_false,Option.isNone_some,Option.isNone_none,aL,aB,aY,aQ,aJ,aR,aU,aC,aW,aV,aK,aX,and_assoc,true_and,and_true,ao,Nat.zero_add,Nat.mul_one,az,ax,aD,Bool.not_true,Bool.not_false,bj,bf]
 split
 ·exact hbad (by omega)
 split
 ·exact hbad (by omega)
 split
 ·exact hbad (by omega)
 split
 ·exact hbad (by omega)
 ·refine h (by omega) _ ⟨none,0,0,[],rfl,by simp,bA.new _ _ _,dv.nil,?_⟩ (Fr.push _ _ _)
  exact ⟨by simp;omega,by simp;omega,by simp;omega,by simp;omega,by simp,by simp,⟨by simp,by simp⟩⟩
theorem Ko {a:Option Addr}{l c:Nat}{ks:List Int}{k:Int} (hk:Rd 1 H a l (aq ks)) (hl:l<=1099511627776) (h:Q (.bool (decide (k∈ks))) H):ah PP Fm #[.slice a l c,.int .i64 k] Q H:=by
 have hll:l=ks.length:=by have:=hk.1;simpa [aq] using this.symm
 apply Bi
 unfold M8 iV wW
 refine ⟨fun w H'=>H'=H∧∃ n:Nat,w=[.int .i64 n]∧n<=l∧k∉ks.take n,fun w _=>match w with
  | [.int _ i]=>(l-i).toNat
  | _=>0,⟨rfl,0,rfl,Nat.zero_le _,by simp⟩,?_⟩
 rintro w H1 ⟨rfl,n,rfl,hn1,hn2⟩ _
 refine ⟨n,rfl,?_⟩
 simp only [ae,cond_true,cond_false,Option.isNone_some,Option.isNone_none,aL,aB,aY,aQ,aJ,aR,aU,aC,aW,aV,aK,aX,and_assoc,true_and,and_true,ao,Nat.zero_add,Nat.mul_one,az,ax,aD,Bool.not_true,Bool.not_false,bj,bf]
 split
 ·rename_i hlt
  obtain ⟨p,rfl,hcell,hlt2⟩:=hk.int (i:=(n:Int)) (by omega) hlt
  rw [Int.toNat_natCast] at hcell hlt2
  simp only [ae,cond_true,cond_false,Option.isNone_some,Option.isNone_none,aL,aB,aY,aQ,aJ,aR,aU,aC,aW,aV,aK,aX,and_assoc,true_and,and_true,ao,Nat.zero_add,Nat.mul_one,az,ax,aD,Bool.not_true,Bool.not_false,bj,bf,Int.toNat_natCast,hcell]
  refine ⟨by omega,hlt,?_⟩
  have htk:ks.take (n+1)=ks.take n++[ks.getD n 0]:=by rw [List.take_add_one];simp [hlt2]
  split
  ·rename_i he
   have:k∈ks:=by
    have hm:ks.getD n 0∈ks:=by
     have:ks.getD n 0=ks[n]:=by simp [hlt2]
     rw [this];exact List.getElem_mem hlt2
    rw [he] at hm;exact hm
   simpa [this] using h
  ·rename_i he
   have e:IntKind.wrap .i64 ((n:Int)+1)=((n+1:Nat):Int):=by rw [am (by omega) (by omega)];omega
   rw [e]
   refine ⟨⟨n+1,rfl,by omega,?_⟩,by simp;omega⟩
   rw [htk]
   simp only [List.mem_append,List.mem_singleton,not_or]
   exact ⟨hn2,fun e=>he e.symm⟩
 ·rename_i hlt
  have:ks.take n=ks:=List.take_of_length_le (by omega)
  rw [this] at hn2
  simpa [hn2] using h
end
theorem bC {p:Prop} [Decidable p] {X Y:Prop} (h1:p->X) (h2:¬ p->Y):if p then X else Y:=by
 split
 ·exact h1 ‹_›
 ·exact h2 ‹_›
section
variable {H:aj}{b:Nat}{F F':ay}{r:RH}{a:Option Addr}{l c:Nat}{Q:QT}
theorem tD {G:aj}{xb:Nat}{r1:RH}{lw en bo n2 n3 n4:Int} (hx:bA G xb #[.int .i64 lw,.int .i64 n4,.int .i64 en,.int .i64 bo,.int .i64 n2,.slice none 0 0]) (hR:dA G b F r1) (hxn:xb∉F) (hn0:0<=n3) (hn1:n3<=8192)
  (hw:WFH { r1 with born:=IntKind.wrap .i64 (r1.born+1),objs:=r1.objs++[⟨lw,n4,en,bo,n2,List.replicate n3.toNat (if n4=1 then 0 else 4)⟩] })
  (h:∀ H' F',dA H' b F' { r1 with born:=IntKind.wrap .i64 (r1.born+1),objs:=r1.objs++[⟨lw,n4,en,bo,n2,List.replicate n3.toNat (if n4=1 then 0 else 4)⟩] }->Fr (xb :: F) G H'->(∀ x∈F',x∈F∨G.size<=x)->Q (.tuple #[.int .i64 lw,.int .i64 0]) H') :
  ∃(I33:List Value->aj->Prop) (μ33:List Value->aj->Nat),I33 [.int .i64 0] G∧∀ w34 H7,I33 w34 H7->∀ _g:Nat->Value,∃ n35:Int,w34=[.int .i64 n35]∧cond (decide (n35<n3)) (cond (n4 == 1) (∃ a36:Option Addr,∃ l36:Nat,∃ c36:Nat,ac H7 ((⟨xb,0,none⟩:Addr).add 5)=some (.slice a36 l36 c36)∧bk PP (Builtin.append_ #[108,108] 108 #[.slice a36 l36 c36,.slice (some (⟨H7.size,0,none⟩:Addr)) 1 1]) (fun v37 H8=>∃ a38:Option Addr,∃ l38:Nat,∃ c38:Nat,v37=.slice a38 l38 c38∧Wr H8 ((⟨xb,0,none⟩:Addr).add 5)∧I33 [.int .i64 (IntKind.wrap .i64 (n35+1))] (au H8 ((⟨xb,0,none⟩:Addr).add 5) (.slice a38 l38 c38))∧μ33 [.int .i64 (IntKind.wrap .i64 (n35+1))] (au H8 ((⟨xb,0,none⟩:Addr).add 5) (.slice a38 l38 c38))<μ33 w34 H7) (H7.push (.cells #[.int .i64 0] 36))) (∃ a39:Option Addr,∃ l39:Nat,∃ c39:Nat,ac H7 ((⟨xb,0,none⟩:Addr).add 5)=some (.slice a39 l39 c39)∧bk PP (Builtin.append_ #[108,108] 108 #[.slice a39 l39 c39,.slice (some (⟨H7.size,0,none⟩:Addr)) 1 1]) (fun v40 H9=>∃ a41:Option Addr,∃ l41:Nat,∃ c41:Nat,v40=.slice a41 l41 c41∧Wr H9 ((⟨xb,0,none⟩:Addr).add 5)∧I33 [.int .i64 (IntKind.wrap .i64 (n35+1))] (au H9 ((⟨xb,0,none⟩:Addr).add 5) (.slice a41 l41 c41))∧μ33 [.int .i64 (IntKind.wrap .i64 (n35+1))] (au H9 ((⟨xb,0,none⟩:Addr).add 5) (.slice a41 l41 c41))<μ33 w34 H7) (H7.push (.cells #[.int .i64 4] 36)))) (∃ q42,(some (⟨b,0,none⟩:Addr))=some q42∧∃ n43:Int,ac H7 (q42.add 3)=some (.int .i64 n43)∧∃ q44,(some (⟨b,0,none⟩:Addr))=some q44∧Wr H7 (q44.add 3)∧∃ q45,(some (⟨b,0,none⟩:Addr))=some q45∧∃ a46:Option Addr,∃ l46:Nat,∃ c46:Nat,ac (au H7 (q44.add 3) (.int .i64 (IntKind.wrap .i64 (n43+1)))) (q45.add 5)=some (.slice a46 l46 c46)∧∃ n47:Int,ac (au H7 (q44.add 3) (.int .i64 (IntKind.wrap .i64 (n43+1)))) (⟨xb,0,none⟩:Addr)=some (.int .i64 n47)∧∃ n48:Int,ac (au H7 (q44.add 3) (.int .i64 (IntKind.wrap .i64 (n43+1)))) ((⟨xb,0,none⟩:Addr).add 1)=some (.int .i64 n48)∧∃ n49:Int,ac (au H7 (q44.add 3) (.int .i64 (IntKind.wrap .i64 (n43+1)))) ((⟨xb,0,none⟩:Addr).add 2)=some (.int .i64 n49)∧∃ n50:Int,ac (au H7 (q44.add 3) (.int .i64 (IntKind.wrap .i64 (n43+1)))) ((⟨xb,0,none⟩:Addr).add 3)=some (.int .i64 n50)∧∃ n51:Int,ac (au H7 (q44.add 3) (.int .i64 (IntKind.wrap .i64 (n43+1)))) ((⟨xb,0,none⟩:Addr).add 4)=some (.int .i64 n51)∧∃ a52:Option Addr,∃ l52:Nat,∃ c52:Nat,ac (au H7 (q44.add 3) (.int .i64 (IntKind.wrap .i64 (n43+1)))) ((⟨xb,0,none⟩:Addr).add 5)=some (.slice a52 l52 c52)∧((ac ((au H7 (q44.add 3) (.int .i64 (IntKind.wrap .i64 (n43+1)))).push (.cells #[.int .i64 n47,.int .i64 n48,.int .i64 n49,.int .i64 n50,.int .i64 n51,.slice a52 l52 c52] 231)) (q45.add 5)=some (.slice a46 l46 c46)∧True)∧True)∧bk PP (Builtin.append_ #[227,227] 227 #[.slice a46 l46 c46,.slice (some (⟨(au H7 (q44.add 3) (.int .i64 (IntKind.wrap .i64 (n43+1)))).size,0,none⟩:Addr)) 1 1]) (fun v53 H10=>∃ a54:Option Addr,∃ l54:Nat,∃ c54:Nat,v53=.slice a54 l54 c54∧True∧∃ q55,(some (⟨b,0,none⟩:Addr))=some q55∧Wr H10 (q55.add 5)∧True∧∃ n56:Int,ac (au H10 (q55.add 5) (.slice a54 l54 c54)) (⟨xb,0,none⟩:Addr)=some (.int .i64 n56)∧Q (.tuple #[.int .i64 n56,.int .i64 0]) (au H10 (q55.add 5) (.slice a54 l54 c54))) ((au H7 (q44.add 3) (.int .i64 (IntKind.wrap .i64 (n43+1)))).push (.cells #[.int .i64 n47,.int .i64 n48,.int .i64 n49,.int .i64 n50,.int .i64 n51,.slice a52 l52 c52] 231))):=by
 have hxl:=hx.lt
 have hFl:=hR.lt
 have hs1:aF PP 108=some (1,8,some (.int .i64 0)):=by kernel_rfl
 have hs6:aF PP 227=some (6,64,some (.agg #[.int .i64 0,.int .i64 0,.int .i64 0,.int .i64 0,.int .i64 0,.slice none 0 0])):=by kernel_rfl
 refine ⟨fun w H'=>∃ i:Int,w=[.int .i64 i]∧0<=i∧i<=n3∧∃ sa sl sc Gs,bA H' xb #[.int .i64 lw,.int .i64 n4,.int .i64 en,.int .i64 bo,.int .i64 n2,.slice sa sl sc]∧bv 1 H' sa sl sc (aq (List.replicate i.toNat (if n4=1 then 0 else 4))) Gs∧(∀ x∈Gs,G.size<=x)∧Fr [xb] G H',fun w _=>match w with
  | [.int _ i]=>(n3-i).toNat
  | _=>0,⟨0,rfl,Int.le_refl _,hn0,_,_,_,_,hx,bv.nil 1 G,by simp,Fr.refl _ _⟩,?_⟩
 rintro w H1 ⟨i,rfl,hi0,hi1,sa,sl,sc,Gs,hx1,hos,hGs,hf1⟩ _
 refine ⟨i,rfl,?_⟩
 have hc5:ac H1 ⟨xb,5,none⟩=some (.slice sa sl sc):=hx1.cell 5
 have hol:=hos.len
 simp only [aq,List.length_map,List.length_replicate,Nat.mul_one] at hol
 simp only [ae,bj]
 refine bC (fun hi=>?_) fun hi=>?_
 ·have hrep:∀ v:Int,List.replicate (i+1).toNat v=List.replicate i.toNat v++[v]:=fun v=>by
   rw [show (i+1).toNat=i.toNat+1 by omega,List.replicate_succ']
  have go:∀ (v:Int) (K:Value->aj->Prop),v=(if n4=1 then 0 else 4)->(∀ (a':Option Addr) (c':Nat) (H3:aj),Wr H3 ⟨xb,5,none⟩->(∃ j:Int,[Value.int .i64 (i+1)]=[.int .i64 j]∧0<=j∧j<=n3∧∃ ta tl tc Gt,bA (au H3 ⟨xb,5,none⟩ (.slice a' (sl+1) c')) xb #[.int .i64 lw,.int .i64 n4,.int .i64 en,.int .i64 bo,.int .i64 n2,.slice ta tl tc]∧bv 1 (au H3 ⟨xb,5,none⟩ (.slice a' (sl+1) c')) ta tl tc (aq (List.replicate j.toNat (if n4=1 then 0 else 4))) Gt∧(∀ x∈Gt,G.size<=x)∧Fr [xb] G (au H3 ⟨xb,5,none⟩ (.slice a' (sl+1) c')))->K (.slice a' (sl+1) c') H3) ->
    bk PP (Builtin.append_ #[108,108] 108 #[.slice sa sl sc,.slice (some ⟨H1.size,0,none⟩) 1 1]) K (H1.push (.cells #[.int .i64 v] 36)):=by
   intro v K hv hK
   refine bg hs1 rfl (by kernel_rfl) hos rfl (by simp [cC]) (by omega) (by decide) (by decide) fun a' c' G' H3 h1 h2 h3=>?_
   have hxg:xb∉Gs:=fun hm=>absurd (hGs _ hm) (by omega)
   have hx3:bA H3 xb #[.int .i64 lw,.int .i64 n4,.int .i64 en,.int .i64 bo,.int .i64 n2,.slice sa sl sc]:=hx1.of_eq (h2.1.2 _ hx1.lt hxg)
   have hxg':xb∉G':=fun hm=>by
    rcases h2.2 _ hm with h4 | h4
    ·exact hxg h4
    ·have:=hx1.lt;omega
   have hfa:Fr [xb] G H3:=by
    refine ⟨Nat.le_trans hf1.1 h2.1.1,fun x hx' hn=>?_⟩
    rw [h2.1.2 x (Nat.lt_of_lt_of_le hx' hf1.1) fun hm=>absurd (hGs _ hm) (by omega),hf1.2 x hx' hn]
   refine hK a' c' H3 (hx3.wr (by simp)) ⟨i+1,rfl,by omega,by omega,a',sl+1,c',G',hx3.set 5 (.slice a' (sl+1) c'),?_,fun x hx'=>?_,hfa.step (by simp)⟩
   ·have h5:bv 1 (au H3 ⟨xb,5,none⟩ (.slice a' (sl+1) c')) a' (sl+1) c' (aq (List.replicate i.toNat (if n4=1 then 0 else 4))++[.int .i64 v]) G':=h1.keep fun x hx'=>dI (fun e=>hxg' (by have e':x=xb:=e;rw [←e'];exact hx'))
    rw [hrep,←hv]
    rw [←hv] at h5
    simpa [aq] using h5
   ·rcases h2.2 x hx' with h4 | h4
    ·exact hGs x h4
    ·exact Nat.le_trans hf1.1 h4
  have e1:IntKind.wrap .i64 (i+1)=i+1:=am (by omega) (by omega)
  rw [e1]
  refine bC (fun hf=>?_) fun hf=>?_
  ·refine ⟨_,_,_,hc5,go 0 _ (by rw [if_pos hf]) fun a' c' H3 hwr hI=>⟨_,_,_,rfl,hwr,hI,by simp;omega⟩⟩
  ·refine ⟨_,_,_,hc5,go 4 _ (by rw [if_neg hf]) fun a' c' H3 hwr hI=>⟨_,_,_,rfl,hwr,hI,by simp;omega⟩⟩
 ·have hie:i=n3:=by omega
  subst hie
  have hR1:=hR.fr hf1 (fun x hx' hn=>hxn (by simp only [List.mem_singleton] at hn;rw [←hn];exact hx'))
  obtain ⟨a,l,c,F',rfl,hnb,hB,hL,hw1⟩:=hR1
  have hc3:ac H1 ⟨b,3,none⟩=some (.int .i64 r1.born):=hB.cell 3
  refine ⟨_,rfl,_,hc3,_,rfl,hB.wr (by simp),?_⟩
  have hB2:=hB.set 3 (.int .i64 (IntKind.wrap .i64 (r1.born+1)))
  have hbx:xb≠b:=fun e=>hxn (by simp [e])
  have hx2:=hx1.set_ne (a:=⟨b,3,none⟩) hbx (.int .i64 (IntKind.wrap .i64 (r1.born+1)))
  have hfb:Fr [b] H1 (au H1 ⟨b,3,none⟩ (.int .i64 (IntKind.wrap .i64 (r1.born+1)))):=Fr.set (by simp)
  simp only [ao,Nat.zero_add]
  generalize hH2:au H1 ⟨b,3,none⟩ (.int .i64 (IntKind.wrap .i64 (r1.born+1)))=H2 at *
  have hFl':∀ x∈F',x<G.size:=fun x hx'=>hFl x (by simp [hx'])
  have hbG:b<G.size:=hFl b (by simp)
  have hL2:=hL.fr eU.frR eU.ltR hfb (fun x hx' hn=>hnb (by simp only [List.mem_singleton] at hn;rw [←hn];exact hx'))
  have hos2:=hos.fr hfb (fun x hx' hn=>absurd (hGs x hx') (by simp only [List.mem_singleton] at hn;omega))
  have hc5b:ac H2 ⟨b,5,none⟩=some (.slice a l c):=hB2.cell 5
  have hp5:∀ o,ac (H2.push o) ⟨b,5,none⟩=some (.slice a l c):=fun o=>(dm hB2.lt).trans hc5b
  refine ⟨_,rfl,_,_,_,hc5b,_,hx2.cell 0,_,hx2.cell 1,_,hx2.cell 2,_,hx2.cell 3,_,hx2.cell 4,_,_,_,hx2.cell 5,⟨⟨hp5 _,trivial⟩,trivial⟩,?_⟩
  have hll:=hL2.len
  have hlb:l<274877906944:=by
   have h1:=eh hw1.objs
   have h2:=bO hw1.objs hw1.w0
   have h3:=hw1.w1
   omega
  refine dv.snoc (x:=⟨lw,n4,en,bo,n2,List.replicate i.toNat (if n4=1 then 0 else 4)⟩) (G:=Gs) eU.frR eU.ltR hs6 rfl (by kernel_rfl) hL2 ⟨_,_,_,rfl,hos2⟩ rfl (fun x hx' hg=>absurd (hFl' x hx') (by have:=hGs x hg;omega)) (by simp [cC]) hlb (by decide) (by decide) fun a' c' F3 H3 h1 h2 h3=>?_
  have hB3:=hB2.of_eq (h2.2 b hB2.lt hnb)
  have hx3:=hx2.of_eq (h2.2 xb hx2.lt fun hm=>hxn (by simp [hm]))
  have hnb3:b∉F3:=fun hm=>by
   rcases h3 b hm with h4 | h4 | h4
   ·exact hnb h4
   ·have:=hGs b h4;omega
   ·have:=hB2.lt;omega
  have hxb3:ac (au H3 ⟨b,5,none⟩ (.slice a' (l+1) c')) ⟨xb,0,none⟩=some (.int .i64 lw):=(hx3.set_ne (a:=⟨b,5,none⟩) hbx (.slice a' (l+1) c')).cell 0
  refine ⟨_,_,_,rfl,trivial,_,rfl,hB3.wr (by simp),trivial,_,hxb3,h _ (b :: F3) ⟨a',l+1,c',F3,rfl,hnb3,hB3.set 5 (.slice a' (l+1) c'),h1.keep eU.frR fun x hx'=>dI (fun e=>hnb3 (by have e':x=b:=e;rw [←e'];exact hx')),hw⟩ ?_ fun x hx'=>?_⟩
  ·refine Fr.step ?_ (by simp)
   exact (hf1.mono (by simp)).trans ((hfb.mono (by simp)).trans (h2.mono fun x hx'=>by simp [hx']))
  ·rcases List.mem_cons.1 hx' with rfl | hx'
   ·exact .inl (by simp)
   ·rcases h3 x hx' with h4 | h4 | h4
    ·exact .inl (by simp [h4])
    ·exact .inr (hGs x h4)
    ·exact .inr (Nat.le_trans (Nat.le_trans hf1.1 hfb.1) h4)
theorem kk {G:aj}{xb:Nat}{r1:RH}{lw en bo n2 n3 n4:Int} (hx:bA G xb #[.int .i64 0,.int .i64 0,.int .i64 0,.int .i64 0,.int .i64 0,.slice none 0 0]) (hR:dA G b F r1) (hxn:xb∉F) (hn0:0<=n3) (hn1:n3<=8192)
  (hw:WFH { r1 with born:=IntKind.wrap .i64 (r1.born+1),objs:=r1.objs++[⟨lw,n4,en,bo,n2,List.replicate n3.toNat (if n4=1 then 0 else 4)⟩] })
  (h:∀ H' F',dA H' b F' { r1 with born:=IntKind.wrap .i64 (r1.born+1),objs:=r1.objs++[⟨lw,n4,en,bo,n2,List.replicate n3.toNat (if n4=1 then 0 else 4)⟩] }->Fr (xb :: F) G H'->(∀ x∈F',x∈F∨G.size<=x)->Q (.tuple #[.int .i64 lw,.int .i64 0]) H') :
  Wr G (⟨xb,0,none⟩:Addr)∧Wr (au G (⟨xb,0,none⟩:Addr) (.int .i64 lw)) ((⟨xb,0,none⟩:Addr).add 1)∧Wr (au (au G (⟨xb,0,none⟩:Addr) (.int .i64 lw)) ((⟨xb,0,none⟩:Addr).add 1) (.int .i64 n4)) ((⟨xb,0,none⟩:Addr).add 2)∧Wr (au (au (au G (⟨xb,0,none⟩:Addr) (.int .i64 lw)) ((⟨xb,0,none⟩:Addr).add 1) (.int .i64 n4)) ((⟨xb,0,none⟩:Addr).add 2) (.int .i64 en)) ((⟨xb,0,none⟩:Addr).add 3)∧Wr (au (au (au (au G (⟨xb,0,none⟩:Addr) (.int .i64 lw)) ((⟨xb,0,none⟩:Addr).add 1) (.int .i64 n4)) ((⟨xb,0,none⟩:Addr).add 2) (.int .i64 en)) ((⟨xb,0,none⟩:Addr).add 3) (.int .i64 bo)) ((⟨xb,0,none⟩:Addr).add 4)∧Wr (au (au (au (au (au G (⟨xb,0,none⟩:Addr) (.int .i64 lw)) ((⟨xb,0,none⟩:Addr).add 1) (.int .i64 n4)) ((⟨xb,0,none⟩:Addr).add 2) (.int .i64 en)) ((⟨xb,0,none⟩:Addr).add 3) (.int .i64 bo)) ((⟨xb,0,none⟩:Addr).add 4) (.int .i64 n2)) ((⟨xb,0,none⟩:Addr).add 5)∧True∧∃(I33:List Value->aj->Prop) (μ33:List Value->aj->Nat),I33 [.int .i64 0] (au (au (au (au (au (au G (⟨xb,0,none⟩:Addr) (.int .i64 lw)) ((⟨xb,0,none⟩:Addr).add 1) (.int .i64 n4)) ((⟨xb,0,none⟩:Addr).add 2) (.int .i64 en)) ((⟨xb,0,none⟩:Addr).add 3) (.int .i64 bo)) ((⟨xb,0,none⟩:Addr).add 4) (.int .i64 n2)) ((⟨xb,0,none⟩:Addr).add 5) (.slice none 0 0))∧∀ w34 H7,I33 w34 H7->∀ _g:Nat->Value,∃ n35:Int,w34=[.int .i64 n35]∧cond (decide (n35<n3)) (cond (n4 == 1) (∃ a36:Option Addr,∃ l36:Nat,∃ c36:Nat,ac H7 ((⟨xb,0,none⟩:Addr).add 5)=some (.slice a36 l36 c36)∧bk PP (Builtin.append_ #[108,108] 108 #[.slice a36 l36 c36,.slice (some (⟨H7.size,0,none⟩:Addr)) 1 1]) (fun v37 H8=>∃ a38:Option Addr,∃ l38:Nat,∃ c38:Nat,v37=.slice a38 l38 c38∧Wr H8 ((⟨xb,0,none⟩:Addr).add 5)∧I33 [.int .i64 (IntKind.wrap .i64 (n35+1))] (au H8 ((⟨xb,0,none⟩:Addr).add 5) (.slice a38 l38 c38))∧μ33 [.int .i64 (IntKind.wrap .i64 (n35+1))] (au H8 ((⟨xb,0,none⟩:Addr).add 5) (.slice a38 l38 c38))<μ33 w34 H7) (H7.push (.cells #[.int .i64 0] 36))) (∃ a39:Option Addr,∃ l39:Nat,∃ c39:Nat,ac H7 ((⟨xb,0,none⟩:Addr).add 5)=some (.slice a39 l39 c39)∧bk PP (Builtin.append_ #[108,108] 108 #[.slice a39 l39 c39,.slice (some (⟨H7.size,0,none⟩:Addr)) 1 1]) (fun v40 H9=>∃ a41:Option Addr,∃ l41:Nat,∃ c41:Nat,v40=.slice a41 l41 c41∧Wr H9 ((⟨xb,0,none⟩:Addr).add 5)∧I33 [.int .i64 (IntKind.wrap .i64 (n35+1))] (au H9 ((⟨xb,0,none⟩:Addr).add 5) (.slice a41 l41 c41))∧μ33 [.int .i64 (IntKind.wrap .i64 (n35+1))] (au H9 ((⟨xb,0,none⟩:Addr).add 5) (.slice a41 l41 c41))<μ33 w34 H7) (H7.push (.cells #[.int .i64 4] 36)))) (∃ q42,(some (⟨b,0,none⟩:Addr))=some q42∧∃ n43:Int,ac H7 (q42.add 3)=some (.int .i64 n43)∧∃ q44,(some (⟨b,0,none⟩:Addr))=some q44∧Wr H7 (q44.add 3)∧∃ q45,(some (⟨b,0,none⟩:Addr))=some q45∧∃ a46:Option Addr,∃ l46:Nat,∃ c46:Nat,ac (au H7 (q44.add 3) (.int .i64 (IntKind.wrap .i64 (n43+1)))) (q45.add 5)=some (.slice a46 l46 c46)∧∃ n47:Int,ac (au H7 (q44.add 3) (.int .i64 (IntKind.wrap .i64 (n43+1)))) (⟨xb,0,none⟩:Addr)=some (.int .i64 n47)∧∃ n48:Int,ac (au H7 (q44.add 3) (.int .i64 (IntKind.wrap .i64 (n43+1)))) ((⟨xb,0,none⟩:Addr).add 1)=some (.int .i64 n48)∧∃ n49:Int,ac (au H7 (q44.add 3) (.int .i64 (IntKind.wrap .i64 (n43+1)))) ((⟨xb,0,none⟩:Addr).add 2)=some (.int .i64 n49)∧∃ n50:Int,ac (au H7 (q44.add 3) (.int .i64 (IntKind.wrap .i64 (n43+1)))) ((⟨xb,0,none⟩:Addr).add 3)=some (.int .i64 n50)∧∃ n51:Int,ac (au H7 (q44.add 3) (.int .i64 (IntKind.wrap .i64 (n43+1)))) ((⟨xb,0,none⟩:Addr).add 4)=some (.int .i64 n51)∧∃ a52:Option Addr,∃ l52:Nat,∃ c52:Nat,ac (au H7 (q44.add 3) (.int .i64 (IntKind.wrap .i64 (n43+1)))) ((⟨xb,0,none⟩:Addr).add 5)=some (.slice a52 l52 c52)∧((ac ((au H7 (q44.add 3) (.int .i64 (IntKind.wrap .i64 (n43+1)))).push (.cells #[.int .i64 n47,.int .i64 n48,.int .i64 n49,.int .i64 n50,.int .i64 n51,.slice a52 l52 c52] 231)) (q45.add 5)=some (.slice a46 l46 c46)∧True)∧True)∧bk PP (Builtin.append_ #[227,227] 227 #[.slice a46 l46 c46,.slice (some (⟨(au H7 (q44.add 3) (.int .i64 (IntKind.wrap .i64 (n43+1)))).size,0,none⟩:Addr)) 1 1]) (fun v53 H10=>∃ a54:Option Addr,∃ l54:Nat,∃ c54:Nat,v53=.slice a54 l54 c54∧True∧∃ q55,(some (⟨b,0,none⟩:Addr))=some q55∧Wr H10 (q55.add 5)∧True∧∃ n56:Int,ac (au H10 (q55.add 5) (.slice a54 l54 c54)) (⟨xb,0,none⟩:Addr)=some (.int .i64 n56)∧Q (.tuple #[.int .i64 n56,.int .i64 0]) (au H10 (q55.add 5) (.slice a54 l54 c54))) ((au H7 (q44.add 3) (.int .i64 (IntKind.wrap .i64 (n43+1)))).push (.cells #[.int .i64 n47,.int .i64 n48,.int .i64 n49,.int .i64 n50,.int .i64 n51,.slice a52 l52 c52] 231))):=by
 have hx1:=hx.set 0 (.int .i64 lw)
 have hx2:=hx1.set 1 (.int .i64 n4)
 have hx3:=hx2.set 2 (.int .i64 en)
 have hx4:=hx3.set 3 (.int .i64 bo)
 have hx5:=hx4.set 4 (.int .i64 n2)
 have hx6:=hx5.set 5 (.slice none 0 0)
 have hfx:Fr [xb] G (au (au (au (au (au (au G ⟨xb,0,none⟩ (.int .i64 lw)) ⟨xb,1,none⟩ (.int .i64 n4)) ⟨xb,2,none⟩ (.int .i64 en)) ⟨xb,3,none⟩ (.int .i64 bo)) ⟨xb,4,none⟩ (.int .i64 n2)) ⟨xb,5,none⟩ (.slice none 0 0)) :=
  ((((((Fr.refl _ _).step (by simp)).step (by simp)).step (by simp)).step (by simp)).step (by simp)).step (by simp)
 simp only [ao,Nat.zero_add]
 refine ⟨hx.wr (by simp),hx1.wr (by simp),hx2.wr (by simp),hx3.wr (by simp),hx4.wr (by simp),hx5.wr (by simp),trivial,?_⟩
 have ht:=tD (Q:=Q) hx6 (hR.fr hfx (fun x hx hn=>hxn (by simp only [List.mem_singleton] at hn;rw [←hn];exact hx))) hxn hn0 hn1 hw (fun H' F' h1 h2 h3=>h H' F' h1 ((hfx.mono (by simp)).trans h2) fun x hx=>(h3 x hx).imp id fun h4=>by simpa only [dR] using h4)
 simp only [ao,Nat.zero_add] at ht
 exact ht
theorem pe (hR:dA H b F r){cls n f:Int} (h:∀ H' F',dA H' b F' (r.alloc cls n f).2->Up F H F' H'->Q (mP (r.alloc cls n f).1) H'):ah PP M7 #[.pointer (some ⟨b,0,none⟩),.int .i64 cls,.int .i64 n,.int .i64 f] Q H:=by
 have hR0:=hR
 obtain ⟨a,l,c,F',rfl,hn',hB,hL,hw⟩:=hR
 have hll:=hL.len
 have hc0:ac H ⟨b,0,none⟩=some (.int .i64 r.words):=hB.cell 0
 have hc1:ac H ⟨b,1,none⟩=some (.int .i64 r.oops):=hB.cell 1
 have hc5:ac H ⟨b,5,none⟩=some (.slice a l c):=hB.cell 5
 have hen:=bO hw.objs hw.w0
 have hw1:=hw.w1
 have ho0:=hw.o0
 have ho1:=hw.o1
 have hm0:=hw.m0
 have hm1:=hw.m1
 apply KE
 unfold Rv A0 iV wW pV lV cS;dsimp only [shH]
 simp only [ae,bj,bf,Option.isNone_some,cond_false]
 refine jL ⟨_,rfl,?_⟩
 unfold RH.alloc at h
 have h0:=h
 by_cases hcl:dG cls
 ·have hkn:¬ cz cls=0:=hcl
  rw [if_neg hkn]
  refine bC (fun g1=>?_) fun g1=>?_
  ·simp only [hcl,not_true_eq_false,false_or] at h
   rw [if_pos (by omega)] at h;exact h H _ hR0 (Up.refl _ _)
  refine bC (fun g2=>?_) fun g2=>?_
  ·simp only [hcl,not_true_eq_false,false_or] at h
   rw [if_pos (by omega)] at h;exact h H _ hR0 (Up.refl _ _)
  refine bC (fun g3=>?_) fun g3=>?_
  ·simp only [hcl,not_true_eq_false,false_or] at h
   rw [if_pos (by omega)] at h;exact h H _ hR0 (Up.refl _ _)
  have n1:¬ (¬ dG cls∨f<0∨1<f∨n<0):=fun hh=>hh.elim (fun hh=>hh hcl) (by omega)
  rw [if_neg n1] at h
  refine bC (fun g4=>?_) fun g4=>?_
  ·rw [if_pos (by omega)] at h;exact h H _ hR0 (Up.refl _ _)
  rw [if_neg (by omega)] at h
  have hl:=gR (n:=n) (fmt:=f) (by omega)
  have hl2:=iz (n:=n) (fmt:=f) (by omega)
  refine ⟨_,rfl,_,_,_,hc5,_,rfl,_,hc1,?_⟩
  refine bC (fun g5=>?_) fun g5=>?_
  ·rw [if_pos (.inl (by omega))] at h;exact h H _ hR0 (Up.refl _ _)
  refine ⟨_,rfl,_,hc0,?_⟩
  refine nB hR0 fun H1 hf1=>?_
  have hR1:=hR0.fr hf1 (bi.nil_right _)
  have hB1:=hB.fr hf1 (by simp)
  have hc01:ac H1 ⟨b,0,none⟩=some (.int .i64 r.words):=hB1.cell 0
  have hc21:ac H1 ⟨b,2,none⟩=some (.int .i64 r.mark):=hB1.cell 2
  refine ⟨_,rfl,⟨⟨hc01,trivial⟩,trivial⟩,?_⟩
  have hu1:Up (b :: F') H (b :: F') H1:=⟨hf1.of_nil,fun _ hb=>.inl hb⟩
  refine jD (by omega) (by omega) ?_
  refine ⟨_,rfl,⟨⟨hc01,trivial⟩,trivial⟩,?_⟩
  have e1:IntKind.wrap .i64 (bn r.objs+lenOf n f)=bn r.objs+lenOf n f:=am (by omega) (by omega)
  rw [e1]
  refine bC (fun g6=>?_) fun g6=>?_
  ·rw [if_pos (.inr (by omega))] at h;exact h H1 _ hR1 hu1
  rw [if_neg (by omega)] at h
  refine ⟨_,rfl,_,hc21,?_⟩
  refine bC (fun hm=>?_) fun hm=>?_
  ·rw [if_pos hm] at h
   refine ⟨_,rfl,hB1.wr (by simp),h _ _ ⟨a,l,c,F',rfl,hn',hB1.set 2 (.int .i64 0),(hL.fr eU.frR eU.ltR hf1 (bi.nil_right _)).keep eU.frR fun x hx=>dI (fun e=>hn' (by have e':x=b:=e;rw [←e'];exact hx)),{ hw with m0:=by simp,m1:=by simp }⟩ (hu1.trans ⟨Fr.set (by simp),fun _ hb=>.inl hb⟩)⟩
  rw [if_neg hm] at h
  refine ⟨fun w H'=>w=[]∧dA H' b (b :: F') { r with mark:=if 0<r.mark then r.mark-1 else r.mark }∧Up (b :: F') H (b :: F') H',?_,?_⟩
  ·refine ⟨_,rfl,_,hc21,?_⟩
   refine bC (fun hm2=>?_) fun hm2=>?_
   ·refine ⟨_,rfl,_,hc21,_,rfl,?_⟩
    rw [am (n:=r.mark-1) (by omega) (by omega)]
    refine ⟨hB1.wr (by simp),rfl,⟨a,l,c,F',rfl,hn',?_,(hL.fr eU.frR eU.ltR hf1 (bi.nil_right _)).keep eU.frR fun x hx=>dI (fun e=>hn' (by have e':x=b:=e;rw [←e'];exact hx)),?_⟩,hu1.trans ⟨Fr.set (by simp),fun _ hb=>.inl hb⟩⟩
    ·rw [if_pos hm2];exact hB1.set 2 (.int .i64 (r.mark-1))
    ·rw [if_pos hm2];exact { hw with m0:=by simp;omega,m1:=by simp;omega }
   ·refine ⟨rfl,?_,hu1⟩
    rw [if_neg hm2];exact hR1
  ·rintro w H2 ⟨rfl,hR2,hu2⟩ _
   have hlt:(r.objs.length:Int)<r.oops:=by omega
   have hc32:ac H2 ⟨b,3,none⟩=some (.int .i64 r.born):=by
    obtain ⟨a',l',c',F'',_,_,hB',_⟩:=hR2
    exact hB'.cell 3
   have hal:r.alloc cls n f=((bP r.objs,0),{ r with mark:=if 0<r.mark then r.mark-1 else r.mark,born:=IntKind.wrap .i64 (r.born+1),objs:=r.objs++[dV r cls n f] }):=by
    unfold RH.alloc
    rw [if_neg n1,if_neg (by omega),if_neg (by omega),if_neg hm]
   have hwf:=ix hw cls n f
   rw [hal] at hwf
   have hH2:∀ x∈b :: F',x<H2.size:=hR2.lt
   have fin:∀ (G H':aj) (xb:Nat) (F3:ay),Fr [] H2 G->H2.size<=xb->Fr (xb :: b :: F') G H'->dA H' b F3 { r with mark:=if 0<r.mark then r.mark-1 else r.mark,born:=IntKind.wrap .i64 (r.born+1),objs:=r.objs++[dV r cls n f] }->(∀ x∈F3,x∈b :: F'∨G.size<=x)->Q (.tuple #[.int .i64 (bP r.objs),.int .i64 0]) H':=by
    intro G H' xb F3 k1 k2 k3 k4 k5
    refine h H' F3 k4 (hu2.trans ⟨⟨Nat.le_trans k1.1 k3.1,fun x hx hn=>?_⟩,fun x hx=>?_⟩)
    ·rw [k3.2 x (Nat.lt_of_lt_of_le hx k1.1) (by simp only [List.mem_cons,not_or] at hn ⊢;exact ⟨by omega,hn⟩),k1.2 x hx (by simp)]
    ·exact (k5 x hx).imp id fun k6=>Nat.le_trans k1.1 k6
   have hp3:∀ (G:aj) o,Fr [] H2 G->ac (G.push o) ⟨b,3,none⟩=some (.int .i64 r.born):=fun G o hf=>by
    obtain ⟨a',l',c',F'',hFF,_,hB',_⟩:=hR2.fr (hf.more) (bi.nil_right _)
    exact hB'.cell 3
   have hp3':∀ (G:aj),Fr [] H2 G->ac G ⟨b,3,none⟩=some (.int .i64 r.born):=fun G hf=>by
    obtain ⟨a',l',c',F'',hFF,_,hB',_⟩:=hR2.fr hf (bi.nil_right _)
    exact hB'.cell 3
   have hnin:∀ xb,H2.size<=xb->xb∉b :: F':=fun xb h1 h2=>absurd (hH2 xb h2) (by omega)
   refine ⟨rfl,_,rfl,_,hc32,?_,?_⟩
   ·refine pY hR2 hlt ⟨_,rfl,⟨⟨hc32,trivial⟩,trivial⟩,?_,?_⟩
    ·refine nB hR2 fun H3 hf3=>⟨_,rfl,⟨⟨hp3' _ hf3,trivial⟩,trivial⟩,⟨⟨hp3 _ _ hf3,trivial⟩,trivial⟩,?_⟩
     have t:=kk (Q:=Q) (bA.new H3 _ 231) (hR2.fr hf3.more (bi.nil_right _)) (hnin _ hf3.1) (by omega) (by omega) hwf fun H' F3 k1 k2 k3=>fin _ H' _ F3 hf3.more hf3.1 k2 k1 k3
     simp only [ae,bj,bf,Option.isNone_some,cond_false] at t
     exact t
    ·have hf3:Fr [] H2 (H2.push (.cells #[.int .i64 0,.int .i64 0,.int .i64 0,.int .i64 0,.int .i64 0,.slice none 0 0] 231)):=Fr.push _ _ _
     refine ⟨⟨⟨hp3' _ hf3,trivial⟩,trivial⟩,nB (hR2.fr hf3 (bi.nil_right _)) fun H4 hf4=>⟨_,rfl,⟨⟨hp3' _ (hf3.trans hf4),trivial⟩,trivial⟩,?_⟩⟩
     have t:=kk (Q:=Q) ((bA.new H2 _ 231).fr hf4 (by simp)) (hR2.fr (hf3.trans hf4) (bi.nil_right _)) (hnin _ (Nat.le_refl _)) (by omega) (by omega) hwf fun H' F3 k1 k2 k3=>fin _ H' _ F3 (hf3.trans hf4) (Nat.le_refl _) k2 k1 k3
     simp only [ae,bj,bf,Option.isNone_some,cond_false] at t
     exact t
   ·have hf3:Fr [] H2 (H2.push (.cells #[.int .i64 0,.int .i64 0,.int .i64 0,.int .i64 0,.int .i64 0,.slice none 0 0] 231)):=Fr.push _ _ _
    refine ⟨⟨⟨hp3' _ hf3,trivial⟩,trivial⟩,pY (hR2.fr hf3 (bi.nil_right _)) hlt ⟨_,rfl,⟨⟨hp3' _ hf3,trivial⟩,trivial⟩,?_⟩⟩
    refine nB (hR2.fr hf3 (bi.nil_right _)) fun H4 hf4=>⟨_,rfl,⟨⟨hp3' _ (hf3.trans hf4),trivial⟩,trivial⟩,?_⟩
    have t:=kk (Q:=Q) ((bA.new H2 _ 231).fr hf4 (by simp)) (hR2.fr (hf3.trans hf4) (bi.nil_right _)) (hnin _ (Nat.le_refl _)) (by omega) (by omega) hwf fun H' F3 k1 k2 k3=>fin _ H' _ F3 (hf3.trans hf4) (Nat.le_refl _) k2 k1 k3
    simp only [ae,bj,bf,Option.isNone_some,cond_false] at t
    exact t
 ·rw [if_pos (by unfold dG at hcl;omega)]
  rw [if_pos (.inl hcl)] at h
  exact h H _ hR0 (Up.refl _ _)
theorem Fw (hR:dA H b F r) (h:∀ a l c G H',bv 1 H' a l c (aq r.all) G->Fr [] H H'->(∀ x∈G,H.size<=x)->Q (.slice a l c) H'):ah PP GV #[.pointer (some ⟨b,0,none⟩)] Q H:=by
 have hw:=hR.wf
 have ho0:=hw.o0
 have ho1:=hw.o1
 have hlen:=RH.all_len hw
 have hs2:aF PP 66=some (1,8,some (.int .i64 0)):=by kernel_rfl
 have h0:r.upto 1=[]:=by
  rw [show (1:Nat)=0+1 by rfl,RH.upto_succ]
  have:aH r.objs ((0:Nat):Int)=none:=dt.2 fun o ho=>by have:=(hw.objs.good o ho).oop1;omega
  rw [this]
  rfl
 apply Cb
 unfold MK A0 iV wW pV lV cS
 simp only [ae,cond_true,cond_false,Option.isNone_some,Option.isNone_none,aL,aB,aY,aQ,aJ,aR,aU,aC,aW,aV,aK,aX,and_assoc,true_and,and_true,ao,Nat.zero_add,Nat.mul_one,az,ax,aD,Bool.not_true,Bool.not_false,bj,bf]
 refine ⟨fun w H'=>∃ k:Int,∃ a l c G,w=[.slice a l c,.int .i64 k]∧1<=k∧k<=r.oops+1∧bv 1 H' a l c (aq (r.upto k.toNat)) G∧Fr [] H H'∧(∀ x∈G,H.size<=x),fun w _=>match w with
  | [_,.int _ k]=>(r.oops+1-k).toNat
  | _=>0,⟨1,_,_,_,_,rfl,by omega,by omega,by rw [show (1:Int).toNat=1 by rfl,h0];exact bv.nil 1 H,Fr.refl _ _,by simp⟩,?_⟩
 rintro w H1 ⟨k,a,l,c,G,rfl,hk1,hk2,ho,hf,hG⟩ _
 refine ⟨_,_,_,_,rfl,?_⟩
 have hR1:=hR.fr hf (bi.nil_right _)
 have hR1':=hR1
 obtain ⟨a',l',c',F',rfl,hnb,hB,hL,_⟩:=hR1'
 have hll:=hL.len
 have hc5:ac H1 ⟨b,5,none⟩=some (.slice a' l' c'):=hB.cell 5
 have hol:=ho.len
 simp only [aq,List.length_map,Nat.mul_one] at hol
 have hul:=r.upto_len k.toNat
 simp only [ae,cond_true,cond_false,Option.isNone_some,Option.isNone_none,aL,aB,aY,aQ,aJ,aR,aU,aC,aW,aV,aK,aX,and_assoc,true_and,and_true,ao,Nat.zero_add,Nat.mul_one,az,ax,aD,Bool.not_true,Bool.not_false,bj,bf,hc5]
 refine bC (fun hlt=>?_) fun hlt=>?_
 ·have hko:k<=r.oops:=by
   refine Classical.byContradiction fun hc=>?_
   have hke:k.toNat=(r.oops+1).toNat:=by omega
   have:(r.upto k.toNat).length=r.objs.length:=by rw [hke];exact hlen
   omega
  have e1:IntKind.wrap .i64 (k+1)=k+1:=am (by omega) (by omega)
  have hnx:=r.upto_succ k.toNat
  have ek:(k.toNat:Int)=k:=Int.toNat_of_nonneg (by omega)
  have ek1:(k+1).toNat=k.toNat+1:=by omega
  rw [ek] at hnx
  refine iX hR1 (fun hno=>⟨_,rfl,?_⟩) fun n hn hof=>⟨_,rfl,?_⟩
  ·rw [if_neg (by decide),e1]
   refine ⟨⟨k+1,_,_,_,G,rfl,by omega,by omega,?_,hf,hG⟩,by simp;omega⟩
   rw [ek1,hnx,hno]
   simpa using ho
  ·rw [if_pos (by omega),e1]
   refine bg hs2 rfl (by kernel_rfl) ho rfl (by simp [cC]) (by omega) (by decide) (by decide) fun a2 c2 G2 H2 h1 h2 h3=>⟨_,_,_,rfl,?_⟩
   have hfr:=Up.fresh hf h2 hG
   refine ⟨⟨k+1,_,_,_,G2,rfl,by omega,by omega,?_,hfr.1,hfr.2⟩,by simp;omega⟩
   rw [ek1,hnx,hof,bt]
   exact h1
 ·obtain ⟨t,ht⟩:=r.upto_prefix k.toNat (r.oops+1).toNat (by omega)
  have ht0:t=[]:=by
   have h1:r.all=r.upto k.toNat++t:=ht
   have h2:=congrArg List.length h1
   rw [List.length_append,hlen] at h2
   exact List.eq_nil_of_length_eq_zero (by omega)
  have:r.upto k.toNat=r.all:=by
   have h1:r.all=r.upto k.toNat++t:=ht
   rw [h1,ht0,List.append_nil]
  rw [this] at ho
  exact h _ _ _ _ H1 ho hf hG
end
section
variable {H:aj}{b:Nat}{F F':ay}{r:RH}{a:Option Addr}{l c:Nat}{Q:QT}
theorem zE (hw:WFH r) (kf:RO->Bool) (j:Nat):0<=bx 0 ((r.objs.take j).filter kf)∧bx 0 ((r.objs.take j).filter kf)<=1048576:=by
 have hw1:=hw.w1
 have hwt:WFO r.words r.oops ((r.objs.take j).filter kf):=WFO.filter ⟨fun o ho=>hw.objs.good o (List.mem_of_mem_take ho),hw.objs.pw.sublist (List.take_sublist j r.objs)⟩ kf
 have hs:=lB _ 0 hwt (Int.le_refl _) fun o ho=>(hwt.good o ho).pl
 have hb:=bO hs.1 hw.w0
 rw [gE] at hb
 omega
theorem Az (hR:dA H b F r){a2:Option Addr}{l2 c2:Nat}{ks:List Int} (hk:Rd 1 H a2 l2 (aq ks)) (hlk:l2<=1099511627776)
  (h:∀ H' F',dA H' b F' (r.keep ks).2->Up F H F' H'->Q (jP (r.keep ks).1) H'):ah PP Kq #[.pointer (some ⟨b,0,none⟩),.slice a2 l2 c2] Q H:=by
 have hR0:=hR
 obtain ⟨a,l,c,F',rfl,hn',hB,hL,hw⟩:=hR
 have hll:=hL.len
 have hlt0:=hR0.lt
 have hl2:l2=ks.length:=by have:=hk.1;simpa [aq] using this.symm
 have hcnt:=eh hw.objs
 have hen:=bO hw.objs hw.w0
 have hw1:=hw.w1
 have hs6:aF PP 227=some (6,64,some (.agg #[.int .i64 0,.int .i64 0,.int .i64 0,.int .i64 0,.int .i64 0,.slice none 0 0])):=by kernel_rfl
 apply DX
 unfold LA A0 iV wW pV lV cS;dsimp only [shH]
 simp only [ae,bj,bf,Option.isNone_some,cond_false]
 refine ⟨fun w H'=>H'=H∧∃ i:Nat,w=[.int .i64 i]∧i<=l2∧∀ k∈ks.take i,aH r.objs k≠none,fun w _=>match w with
  | [.int _ i]=>(l2-i).toNat
  | _=>0,⟨rfl,0,rfl,Nat.zero_le _,by simp⟩,?_⟩
 rintro w H1 ⟨rfl,i,rfl,hi,hall⟩ _
 refine ⟨_,rfl,bC (fun hlt=>?_) fun hlt=>?_⟩
 ·obtain ⟨p,rfl,hcell,hlt2⟩:=hk.int (i:=(i:Int)) (by omega) hlt
  rw [Int.toNat_natCast] at hcell hlt2
  have htk:ks.take (i+1)=ks.take i++[ks.getD i 0]:=by rw [List.take_add_one];simp [hlt2]
  have e:IntKind.wrap .i64 ((i:Int)+1)=((i+1:Nat):Int):=by rw [am (by omega) (by omega)];omega
  refine ⟨⟨by omega,hlt⟩,_,rfl,_,by rw [Int.toNat_natCast,Nat.mul_one];exact hcell,?_⟩
  refine iX hR0 (fun hno=>⟨_,rfl,bC (fun _=>?_) fun hc=>absurd (by decide) hc⟩) fun n hn ho=>⟨_,rfl,bC (fun hc=>absurd hc (by omega)) fun _=>?_⟩
  ·have hmem:ks.getD i 0∈ks:=by
    have:ks.getD i 0=ks[i]:=by simp [hlt2]
    rw [this];exact List.getElem_mem hlt2
   have hke:r.keep ks=((0,0,20),r):=by unfold RH.keep;rw [if_pos ⟨_,hmem,hno⟩]
   rw [hke] at h
   exact h H1 _ hR0 (Up.refl _ _)
  ·rw [e]
   refine ⟨⟨rfl,i+1,rfl,by omega,?_⟩,by simp;omega⟩
   rw [htk]
   intro k hkm
   rcases List.mem_append.1 hkm with hkm | hkm
   ·exact hall k hkm
   ·simp only [List.mem_singleton] at hkm;rw [hkm,ho];simp
 ·have htake:ks.take i=ks:=List.take_of_length_le (by omega)
  rw [htake] at hall
  obtain ⟨kf,hkf⟩:∃ kf:RO->Bool,kf=fun o=>decide (o.oop∈ks):=⟨_,rfl⟩
  have hko:r.keepO ks=bR 0 (r.objs.filter kf):=by rw [hkf];rfl
  have hke:r.keep ks=(((r.objs.length:Int)-((r.keepO ks).length:Int),bn r.objs-bn (r.keepO ks),0),{ r with objs:=r.keepO ks,turn:=IntKind.wrap .i64 (r.turn+1) }):=by
   unfold RH.keep
   rw [if_neg]
   rintro ⟨k,hk1,hk2⟩
   exact hall k hk1 hk2
  have hwf2:=gz hw ks
  rw [hke] at h hwf2
  have hc5:ac H1 ⟨b,5,none⟩=some (.slice a l c):=hB.cell 5
  refine ⟨_,rfl,_,_,_,hc5,?_⟩
  refine nB hR0 fun H2 hf2=>⟨_,rfl,?_⟩
  have hL0:=hL
  obtain ⟨xs,Fl,Fs,hown,hsr,hdj,rfl,_⟩:=hL
  refine ⟨fun w H'=>∃(j:Nat) (a1:Option Addr) (l1 c1:Nat) (ys:List Value) (F1 F2:ay) (xs1 xs2:List Value) (Fd Fr_:ay),w=[.int .i64 (bx 0 ((r.objs.take j).filter kf)),.slice a1 l1 c1,.int .i64 j]∧j<=r.objs.length∧Fr [] H1 H' ∧
    bv 6 H' a1 l1 c1 ys F1∧SRep 6 eU H' ys (bR 0 ((r.objs.take j).filter kf)) F2∧(∀ x∈F1,H1.size<=x)∧l1=(bR 0 ((r.objs.take j).filter kf)).length ∧
    xs=xs1++xs2∧SRep 6 eU H1 xs1 (r.objs.take j) Fd∧SRep 6 eU H1 xs2 (r.objs.drop j) Fr_∧bi Fd Fr_∧(∀ x∈F2,x∈Fd)∧(∀ x∈Fd,x∈Fs)∧(∀ x∈Fr_,x∈Fs),fun w _=>match w with
   | [_,_,.int _ i]=>(r.objs.length-i).toNat
   | _=>0,⟨0,none,0,0,[],[],[],[],xs,[],Fs,by simp [bx],Nat.zero_le _,hf2,bv.nil 6 H2,by simpa [bR] using SRep.nil,by simp,by simp [bR],rfl,by simpa using SRep.nil,by simpa using hsr,bi.nil_left _,by simp,by simp,fun x hx=>hx⟩,?_⟩
  rintro w H3 ⟨j,a1,l1,c1,ys,F1,F2,xs1,xs2,Fd,Fr_,rfl,hj,hf3,ho1,hs1,hF1,hl1,hxs,hsd,hsrr,hdd,hF2,hFd,hFr⟩ _
  have hB3:=hB.fr hf3 (by simp)
  have hc53:ac H3 ⟨b,5,none⟩=some (.slice a l c):=hB3.cell 5
  refine ⟨_,_,_,_,_,rfl,_,rfl,_,_,_,hc53,bC (fun hlt=>?_) fun hlt=>?_⟩
  ·have hjl:j<r.objs.length:=by omega
   have htk:r.objs.take (j+1)=r.objs.take j++[r.objs[j]]:=by rw [List.take_add_one];simp [hjl]
   have hdr:r.objs.drop j=r.objs[j] :: r.objs.drop (j+1):=List.drop_eq_getElem_cons hjl
   have hom:r.objs[j]∈r.objs:=List.getElem_mem hjl
   rw [hdr] at hsrr
   generalize r.objs[j]=o at *
   have hxl1:=hsd.length
   have hg:=hw.objs.good o hom
   have hmany:=hg.many
   have hopos:=o.len_pos
   rcases hown.2.2 with ⟨_,hc0,_⟩ | ⟨ob,cs,rfl,rfl,hblk,hcs,htc⟩
   ·have:=hown.2.1;omega
   generalize hzs:o :: r.objs.drop (j+1)=zs at hsrr
   cases hsrr with
   | nil=>cases hzs
   | @cons us xs3 o' l' G1 G2 hobj hun hsr3 hd12 =>
    cases hzs
    obtain ⟨sa,sl,sc,rfl,hso⟩:=hobj
    have hsl:sl=o.slots.length:=by have:=hso.len;simpa [aq] using this.symm
    have hrd3:=(hown.fr hf3 (by simp)).rd
    have hlen1:xs1.length=j*6:=by rw [hxl1,List.length_take,Nat.min_eq_left (by omega)]
    have hcell:∀ t,t<6->ac H3 ⟨ob,j*6+t,none⟩=[Value.int .i64 o.oop,.int .i64 o.fmt,.int .i64 o.place,.int .i64 o.born,.int .i64 o.cls,.slice sa sl sc][t]?:=by
     intro t ht
     have:=hrd3.2.2 _ rfl (j*6+t) (by omega)
     rw [ao,Nat.zero_add] at this
     rw [this,hxs,List.getElem?_append_right (by omega),hlen1,show j*6+t-j*6=t by omega,List.getElem?_append_left (by simpa using ht)]
    have hc0:=hcell 0 (by decide)
    have hc1:=hcell 1 (by decide)
    have hc2:=hcell 2 (by decide)
    have hc3:=hcell 3 (by decide)
    have hc4:=hcell 4 (by decide)
    have hc5':=hcell 5 (by decide)
    simp only [Nat.add_zero,List.getElem?_cons_zero,List.getElem?_cons_succ] at hc0 hc1 hc2 hc3 hc4 hc5'
    simp only [ao,Nat.zero_add,Int.toNat_natCast]
    refine ⟨_,rfl,_,_,_,hc53,⟨by omega,hlt⟩,_,rfl,?_⟩
    simp only [ao,Nat.zero_add]
    refine ⟨_,hc0,_,hc1,_,hc2,_,hc3,_,hc4,_,_,_,hc5',?_⟩
    simp only [az,ax,aD,ao,Nat.zero_add,List.setIfInBounds_toArray,List.set_cons_zero,List.set_cons_succ,List.size_toArray,List.length_cons,List.length_nil,List.getElem?_toArray,List.getElem?_cons_succ,List.getElem?_cons_zero]
    refine ⟨by decide,by decide,by decide,by decide,by decide,by decide,_,rfl,?_⟩
    have ej:IntKind.wrap .i64 ((j:Int)+1)=((j+1:Nat):Int):=by rw [am (by omega) (by omega)];omega
    have hfx:Fr [] H1 (H3.push (.cells #[.int .i64 o.oop,.int .i64 o.fmt,.int .i64 o.place,.int .i64 o.born,.int .i64 o.cls,.slice sa sl sc] 231)):=hf3.more
    have hsub1:∀ x∈G1,x∈Fs:=fun x hx=>hFr x (by simp [hx])
    have hFsl:∀ x∈Fs,x<H1.size:=fun x hx=>hlt0 x (by simp [hx])
    have hnew:SRep 6 eU H1 (xs1++[.int .i64 o.oop,.int .i64 o.fmt,.int .i64 o.place,.int .i64 o.born,.int .i64 o.cls,.slice sa sl sc]) (r.objs.take (j+1)) (Fd++G1):=by
     rw [htk]
     exact hsd.append (SRep.one ⟨sa,sl,sc,rfl,hso⟩ rfl) (hdd.mono (fun _ h=>h) fun x hx=>by simp [hx])
    refine Ko (hk.fr' hfx (by simp)) hlk ⟨_,rfl,?_⟩
    by_cases hm:o.oop∈ks
    ·have hkeep:kf o=true:=by rw [hkf];simpa using hm
     have hfl:(r.objs.take (j+1)).filter kf=(r.objs.take j).filter kf++[o]:=by rw [htk,List.filter_append];simp [hkeep]
     simp only [hm,decide_true,cond_true,az,ax,aD,ao,Nat.zero_add,List.setIfInBounds_toArray,List.set_cons_zero,List.set_cons_succ,List.size_toArray,List.length_cons,List.length_nil,List.getElem?_toArray,List.getElem?_cons_succ,List.getElem?_cons_zero]
     refine ⟨by decide,_,_,_,rfl,_,rfl,?_⟩
     refine jD (by omega) (by omega) ⟨_,rfl,?_⟩
     simp only [ax,ao,Nat.zero_add,List.setIfInBounds_toArray,List.set_cons_zero,List.set_cons_succ,List.size_toArray,List.length_cons,List.length_nil,List.getElem?_toArray,List.getElem?_cons_succ,List.getElem?_cons_zero]
     refine ⟨_,rfl,_,rfl,_,rfl,_,rfl,_,rfl,_,_,_,rfl,?_⟩
     have hat:bx 0 ((r.objs.take j).filter kf)<=1048576∧0<=bx 0 ((r.objs.take j).filter kf):=by
      have hst:=zE hw kf j
      omega
     have hof:o.len=lenOf o.slots.length o.fmt:=rfl
     have hfit:=hg.fits
     have hpl:=hg.pl
     have e2:IntKind.wrap .i64 (bx 0 ((r.objs.take j).filter kf)+lenOf ((sl:Nat):Int) o.fmt)=bx 0 ((r.objs.take (j+1)).filter kf):=by
      rw [hfl,fy,hof,hsl]
      exact am (by omega) (by omega)
     rw [e2,ej]
     have hfy:Fr [] H1 (H3.push (.cells #[.int .i64 o.oop,.int .i64 o.fmt,.int .i64 (bx 0 ((r.objs.take j).filter kf)),.int .i64 o.born,.int .i64 o.cls,.slice sa sl sc] 231)):=hf3.more
     have hfz:Fr [] H3 (H3.push (.cells #[.int .i64 o.oop,.int .i64 o.fmt,.int .i64 (bx 0 ((r.objs.take j).filter kf)),.int .i64 o.born,.int .i64 o.cls,.slice sa sl sc] 231)):=Fr.push _ _ _
     have hslen:(bR 0 ((r.objs.take j).filter kf)).length<=r.objs.length:=by
      rw [jM]
      have h1:=List.length_filter_le kf (r.objs.take j)
      rw [List.length_take] at h1
      omega
     refine bg hs6 rfl (by kernel_rfl) (ho1.fr hfz (by simp)) rfl (by simp [cC]) (by omega) (by decide) (by decide) fun a3 c3 F3 H4 h1 h2 h3=>⟨_,_,_,rfl,?_⟩
     have hfr:=Up.fresh hfy h2 hF1
     refine ⟨⟨j+1,a3,l1+1,c3,_,F3,F2++G1,_,xs3,Fd++G1,G2,rfl,by omega,hfr.1,h1,?_,hfr.2,?_,?_,hnew,hsr3,?_,?_,?_,?_⟩,by simp;omega⟩
     ·rw [hfl,dK]
      have hk4:∀ x,x<H1.size->x∉F1->H4[x]?=H3[x]?:=fun x hx hn=>by
       rw [h2.1.2 x (Nat.lt_of_lt_of_le hx hfy.1) hn,hfz.2 x (Nat.lt_of_lt_of_le hx hf3.1) (by simp)]
      have hnf:∀ x∈Fs,x∉F1:=fun x hx hn=>absurd (hF1 x hn) (by have:=hFsl x hx;omega)
      have hone:SRep 6 eU H4 [.int .i64 o.oop,.int .i64 o.fmt,.int .i64 (bx 0 ((r.objs.take j).filter kf)),.int .i64 o.born,.int .i64 o.cls,.slice sa sl sc] [{ o with place:=bx 0 ((r.objs.take j).filter kf) }] G1 :=
       SRep.one ⟨sa,sl,sc,rfl,hso.keep fun x hx=>by rw [hk4 x (hFsl x (hsub1 x hx)) (hnf x (hsub1 x hx)),hf3.2 x (hFsl x (hsub1 x hx)) (by simp)]⟩ rfl
      refine (hs1.keep eU.frR fun x hx=>hk4 x (hFsl x (hFd x (hF2 x hx))) (hnf x (hFd x (hF2 x hx)))).append hone ?_
      ·exact fun x hx hg'=>hdd x (hF2 x hx) (by simp [hg'])
     ·rw [hfl,dK,List.length_append,←hl1];rfl
     ·rw [hxs];simp
     ·exact fun x hx hg'=>by
       rcases List.mem_append.1 hx with h4 | h4
       ·exact hdd x h4 (by simp [hg'])
       ·exact hd12 x h4 hg'
     ·exact fun x hx=>by
       rcases List.mem_append.1 hx with h4 | h4
       ·simp [hF2 x h4]
       ·simp [h4]
     ·exact fun x hx=>by
       rcases List.mem_append.1 hx with h4 | h4
       ·exact hFd x h4
       ·exact hsub1 x h4
     ·exact fun x hx=>hFr x (by simp [hx])
    ·have hkeep:kf o=false:=by rw [hkf];simpa using hm
     have hfl:(r.objs.take (j+1)).filter kf=(r.objs.take j).filter kf:=by rw [htk,List.filter_append];simp [hkeep]
     simp only [hm,decide_false,cond_false]
     rw [ej]
     have hfz:Fr [] H3 (H3.push (.cells #[.int .i64 o.oop,.int .i64 o.fmt,.int .i64 o.place,.int .i64 o.born,.int .i64 o.cls,.slice sa sl sc] 231)):=Fr.push _ _ _
     refine ⟨⟨j+1,a1,l1,c1,ys,F1,F2,_,xs3,Fd++G1,G2,by rw [hfl],by omega,hfx,ho1.fr hfz (by simp),?_,hF1,by rw [hfl];exact hl1,?_,hnew,hsr3,?_,?_,?_,?_⟩,by simp;omega⟩
     ·rw [hfl]
      exact hs1.keep eU.frR fun x hx=>hfz.2 x (Nat.lt_of_lt_of_le (hFsl x (hFd x (hF2 x hx))) hf3.1) (by simp)
     ·rw [hxs];simp
     ·exact fun x hx hg'=>by
       rcases List.mem_append.1 hx with h4 | h4
       ·exact hdd x h4 (by simp [hg'])
       ·exact hd12 x h4 hg'
     ·exact fun x hx=>by simp [hF2 x hx]
     ·exact fun x hx=>by
       rcases List.mem_append.1 hx with h4 | h4
       ·exact hFd x h4
       ·exact hsub1 x h4
     ·exact fun x hx=>hFr x (by simp [hx])
  ·have hje:j=r.objs.length:=by omega
   subst hje
   have htl:r.objs.take r.objs.length=r.objs:=List.take_length
   rw [htl] at hs1 hl1
   rw [htl]
   rw [←hko] at hs1 hl1
   have hek:bx 0 (r.objs.filter kf)=bn (r.keepO ks):=by rw [hko,gE]
   rw [hek]
   have hkb:=bO (om hw ks) hw.w0
   have hb4:ac (au H3 ⟨b,5,none⟩ (.slice a1 l1 c1)) ⟨b,4,none⟩=some (.int .i64 r.turn):=(hB3.set 5 (.slice a1 l1 c1)).cell 4
   refine ⟨_,rfl,hB3.wr (by simp),_,rfl,_,hb4,_,rfl,(hB3.set 5 (.slice a1 l1 c1)).wr (by simp),?_⟩
   simp only [ao,Nat.zero_add]
   have hkl:((r.keepO ks).length:Int)<=r.objs.length:=by
    rw [hko,jM]
    have:=List.length_filter_le kf r.objs
    omega
   have e7:IntKind.wrap .i64 ((l:Int)-(l1:Int))=(r.objs.length:Int)-((r.keepO ks).length:Int):=by rw [am (by omega) (by omega)];omega
   have e8:IntKind.wrap .i64 (bn r.objs-bn (r.keepO ks))=bn r.objs-bn (r.keepO ks):=am (by omega) (by omega)
   rw [e7,e8]
   have hbl:b<H1.size:=hB.lt
   have hFsl:∀ x∈Fs,x<H1.size:=fun x hx=>hlt0 x (by simp [hx])
   have hbF1:b∉F1:=fun hm=>by have:=hF1 b hm;omega
   have hbF2:b∉F2:=fun hm=>hn' (by simp [hFd b (hF2 b hm)])
   have hset:∀ x,x≠b->(au (au H3 ⟨b,5,none⟩ (.slice a1 l1 c1)) ⟨b,4,none⟩ (.int .i64 (IntKind.wrap .i64 (r.turn+1))))[x]?=H3[x]?:=fun x hx=>by rw [dI hx,dI hx]
   have hBf:=(hB3.set 5 (.slice a1 l1 c1)).set 4 (.int .i64 (IntKind.wrap .i64 (r.turn+1)))
   refine h _ (b :: (F1++F2)) ⟨a1,l1,c1,F1++F2,rfl,by simp [hbF1,hbF2],hBf,⟨ys,F1,F2,ho1.keep fun x hx=>hset x (fun e=>hbF1 (e ▸ hx)),hs1.keep eU.frR fun x hx=>hset x (fun e=>hbF2 (e ▸ hx)),fun x hx hg=>by have:=hF1 x hx;have:=hFsl x (hFd x (hF2 x hg));omega,rfl,hl1⟩,hwf2⟩ ⟨?_,fun x hx=>?_⟩
   ·exact (hf3.of_nil.step (by simp)).step (by simp)
   ·rcases List.mem_cons.1 hx with rfl | hx
    ·exact .inl (by simp)
    ·rcases List.mem_append.1 hx with h4 | h4
     ·exact .inr (hF1 x h4)
     ·exact .inl (by simp [hFd x (hF2 x h4)])
end
end Go.Proofs.YtmkdkplipbocjaaGreatDoor
namespace Kw
open Go
def aZ (r:RH) (w:Int):Int:=if cz w=3∧(aH r.objs (w / 4)).isSome then w / 4 else 0
inductive Reaches (r:RH) (ws:List Int):Int->Prop
 | root {w:Int}:w∈ws->aZ r w≠0->Reaches r ws (aZ r w)
 | cls {o:RO}:Reaches r ws o.oop->o∈r.objs->aZ r o.cls≠0->Reaches r ws (aZ r o.cls)
 | slot {o:RO}{w:Int}:Reaches r ws o.oop->o∈r.objs->o.fmt=0->w∈o.slots->aZ r w≠0->Reaches r ws (aZ r w)
theorem i2 {r:RH}{w:Int} (h:aZ r w≠0):aH r.objs (aZ r w)≠none:=by
 unfold aZ at *
 split at h
 ·rename_i hc
  rw [if_pos hc]
  intro hn
  rw [hn] at hc
  simp at hc
 ·exact absurd rfl h
theorem Reaches.there {r:RH}{ws:List Int}{k:Int} (h:Reaches r ws k):aH r.objs k≠none:=by
 cases h with
 | root _ h=>exact i2 h
 | cls _ _ h=>exact i2 h
 | slot _ _ _ _ h=>exact i2 h
noncomputable instance (r:RH) (ws:List Int) (k:Int):Decidable (Reaches r ws k):=Classical.propDecidable _
noncomputable def RH.reach (r:RH) (ws:List Int):List Int:=r.all.filter fun k=>decide (Reaches r ws k)
theorem RH.mem_reach {r:RH} (hw:WFH r){ws:List Int}{k:Int}:k∈r.reach ws↔Reaches r ws k:=by
 unfold RH.reach
 rw [List.mem_filter,RH.mem_all hw]
 constructor
 ·exact fun h=>of_decide_eq_true h.2
 ·exact fun h=>⟨h.there,decide_eq_true h⟩
structure Closed3 (r:RH) (ws l:List Int):Prop where
 sound:∀ k∈l,Reaches r ws k
 roots:∀ w∈ws,aZ r w≠0->aZ r w∈l
 cls:∀ o∈r.objs,o.oop∈l->aZ r o.cls≠0->aZ r o.cls∈l
 slot:∀ o∈r.objs,o.oop∈l->o.fmt=0->∀ w∈o.slots,aZ r w≠0->aZ r w∈l
theorem Closed3.iff {r:RH}{ws l:List Int} (h:Closed3 r ws l){k:Int}:k∈l↔Reaches r ws k:=by
 refine ⟨h.sound k,fun hk=>?_⟩
 induction hk with
 | root h1 h2=>exact h.roots _ h1 h2
 | cls _ h2 h3 ih=>exact h.cls _ h2 ih h3
 | slot _ h2 h3 h4 h5 ih=>exact h.slot _ h2 ih h3 _ h4 h5
theorem Closed3.filter {r:RH}{ws l:List Int} (h:Closed3 r ws l):r.all.filter (fun k=>decide (k∈l))=r.reach ws:=by
 unfold RH.reach
 congr 1
 funext k
 rw [Bool.eq_iff_iff,decide_eq_true_iff,decide_eq_true_iff]
 exact h.iff
theorem jr {l m:List Int} (hn:l.Nodup) (hs:∀ x∈l,x∈m):l.length<=m.length:=by
 induction l generalizing m with
 | nil=>simp
 | cons x l ih =>
  have hc:=List.nodup_cons.1 hn
  have hx:x∈m:=hs x (by simp)
  have:=ih (m:=m.erase x) hc.2 fun y hy=>(List.mem_erase_of_ne (fun e:y=x=>hc.1 (e ▸ hy))).2 (hs y (by simp [hy]))
  rw [List.length_erase_of_mem hx] at this
  have:=List.length_pos_of_mem hx
  simp only [List.length_cons]
  omega
def fR (l:List Int) (n:Int):List Int:=if n=0∨n∈l then l else l++[n]
theorem i1 {l:List Int} (h:l.Nodup) (n:Int):(fR l n).Nodup:=by
 unfold fR
 split
 ·exact h
 ·rename_i hc
  rw [List.nodup_append]
  refine ⟨h,by simp,fun a ha b hb=>?_⟩
  simp only [List.mem_singleton] at hb
  subst hb
  exact fun e=>hc (.inr (e ▸ ha))
theorem fV {l:List Int}{n k:Int}:k∈fR l n↔k∈l∨(k=n∧n≠0):=by
 unfold fR
 split
 ·rename_i hc
  constructor
  ·exact .inl
  ·rintro (h | ⟨rfl,h⟩)
   ·exact h
   ·exact hc.resolve_left h
 ·rename_i hc
  simp only [List.mem_append,List.mem_singleton]
  constructor
  ·rintro (h | h)
   ·exact .inl h
   ·exact .inr ⟨h,fun e=>hc (.inl e)⟩
  ·rintro (h | ⟨h,_⟩)
   ·exact .inl h
   ·exact .inr h
theorem jQ (l:List Int) (n:Int):∃ t,fR l n=l++t:=by
 unfold fR
 split
 ·exact ⟨[],by simp⟩
 ·exact ⟨[n],rfl⟩
end Kw
namespace Go.Proofs.YtmkdkplipbocjaaGreatDoor
open Kw
section
variable {H:aj}{b:Nat}{F F':ay}{r:RH}{Q:QT}
theorem zl {a:Option Addr}{l c:Nat}{ks:List Int}{k:Int} (hk:Rd 1 H a l (aq ks)) (hl:l<=1099511627776) (h:Q (.bool (decide (k∈ks))) H):ah PP Hk #[.slice a l c,.int .i64 k] Q H:=by
 have hll:l=ks.length:=by have:=hk.1;simpa [aq] using this.symm
 apply DQ
 unfold Pe iV wW
 refine ⟨fun w H'=>H'=H∧∃ n:Nat,w=[.int .i64 n]∧n<=l∧k∉ks.take n,fun w _=>match w with
  | [.int _ i]=>(l-i).toNat
  | _=>0,⟨rfl,0,rfl,Nat.zero_le _,by simp⟩,?_⟩
 rintro w H1 ⟨rfl,n,rfl,hn1,hn2⟩ _
 refine ⟨n,rfl,?_⟩
 simp only [ae,cond_true,cond_false,Option.isNone_some,Option.isNone_none,aL,aB,aY,aQ,aJ,aR,aU,aC,aW,aV,aK,aX,and_assoc,true_and,and_true,ao,Nat.zero_add,Nat.mul_one,az,ax,aD,Bool.not_true,Bool.not_false,bj,bf]
 split
 ·rename_i hlt
  obtain ⟨p,rfl,hcell,hlt2⟩:=hk.int (i:=(n:Int)) (by omega) hlt
  rw [Int.toNat_natCast] at hcell hlt2
  simp only [ae,cond_true,cond_false,Option.isNone_some,Option.isNone_none,aL,aB,aY,aQ,aJ,aR,aU,aC,aW,aV,aK,aX,and_assoc,true_and,and_true,ao,Nat.zero_add,Nat.mul_one,az,ax,aD,Bool.not_true,Bool.not_false,bj,bf,Int.toNat_natCast,hcell]
  refine ⟨by omega,hlt,?_⟩
  have htk:ks.take (n+1)=ks.take n++[ks.getD n 0]:=by rw [List.take_add_one];simp [hlt2]
  split
  ·rename_i he
   have:k∈ks:=by
    have hm:ks.getD n 0∈ks:=by
     have:ks.getD n 0=ks[n]:=by simp [hlt2]
     rw [this];exact List.getElem_mem hlt2
    rw [he] at hm;exact hm
   simpa [this] using h
  ·rename_i he
   have e:IntKind.wrap .i64 ((n:Int)+1)=((n+1:Nat):Int):=by rw [am (by omega) (by omega)];omega
   rw [e]
   refine ⟨⟨n+1,rfl,by omega,?_⟩,by simp;omega⟩
   rw [htk]
   simp only [List.mem_append,List.mem_singleton,not_or]
   exact ⟨hn2,fun e=>he e.symm⟩
 ·rename_i hlt
  have:ks.take n=ks:=List.take_of_length_le (by omega)
  rw [this] at hn2
  simpa [hn2] using h
theorem oJ (hR:dA H b F r){w:Int} (h:Q (.int .i64 (aZ r w)) H):ah PP EP #[.pointer (some ⟨b,0,none⟩),.int .i64 w] Q H:=by
 apply AL
 unfold MC iV pV cS
 unfold aZ at h
 refine yw ?_
 unfold qD
 by_cases hk:cz w=3
 ·rw [if_pos hk]
  refine ⟨_,_,rfl,?_⟩
  simp only [ae,cond_true,cond_false,Option.isNone_some,Option.isNone_none,aL,aB,aY,aQ,aJ,aR,aU,aC,aW,aV,aK,aX,and_assoc,true_and,and_true,ao,Nat.zero_add,Nat.mul_one,az,ax,aD,Bool.not_true,Bool.not_false,bj,bf,ne_eq,not_true_eq_false,if_false]
  refine kZ hR ?_
  unfold RH.clsAt
  cases ho:aH r.objs (w / 4) with
  | none =>
   rw [ho] at h
   exact ⟨_,_,rfl,by simpa using h⟩
  | some o =>
   rw [ho] at h
   refine ⟨_,_,rfl,?_⟩
   simp only [hk,true_and,Option.isSome_some,if_true] at h
   simpa using h
 ·rw [if_neg hk]
  refine ⟨_,_,rfl,?_⟩
  rw [if_neg (fun hc=>hk hc.1)] at h
  simpa using h
theorem o9 {a:Option Addr}{l c:Nat}{ks:List Int}{G:ay}{n:Int} (ho:bv 1 H a l c (aq ks) G) (hl:l<1000000000) (h:∀ a' l' c' G' H',bv 1 H' a' l' c' (aq (fR ks n)) G'->Up G H G' H'->Q (.slice a' l' c') H') :
  ah PP IJ #[.slice a l c,.int .i64 n] Q H:=by
 have hs2:aF PP 66=some (1,8,some (.int .i64 0)):=by kernel_rfl
 apply Dx
 unfold Qe A0 iV lV cS
 unfold fR at h
 simp only [ae,cond_true,cond_false,Option.isNone_some,Option.isNone_none,aL,aB,aY,aQ,aJ,aR,aU,aC,aW,aV,aK,aX,and_assoc,true_and,and_true,ao,Nat.zero_add,Nat.mul_one,az,ax,aD,Bool.not_true,Bool.not_false,bj,bf]
 split
 ·rename_i h0
  rw [if_pos (.inl h0)] at h;exact h _ _ _ _ H ho (Up.refl _ _)
 ·rename_i h0
  refine zl ho.rd (by omega) ⟨_,rfl,?_⟩
  rw [ae]
  split
  ·rename_i hm
   rw [if_pos (.inr hm)] at h;exact h _ _ _ _ H ho (Up.refl _ _)
  ·rename_i hm
   rw [if_neg (by simp [h0,hm])] at h
   refine bg hs2 rfl (by kernel_rfl) ho rfl (by simp [cC]) (by omega) (by decide) (by decide) fun a' c' G' H' h1 h2 h3=>⟨_,_,_,rfl,h _ _ _ _ H' ?_ h2⟩
   rw [bt];exact h1
theorem sg (hR:dA H b F r){a2:Option Addr}{l2 c2:Nat}{ws:List Int} (hk:Rd 1 H a2 l2 (aq ws)) (hlk:l2<=1000000) (h:∀ a l c G H',bv 1 H' a l c (aq (r.reach ws)) G->Fr [] H H'->(∀ x∈G,H.size<=x)->Q (.tuple #[.slice a l c,.int .i64 0]) H') :
  ah PP Hu #[.pointer (some ⟨b,0,none⟩),.slice a2 l2 c2] Q H:=by
 have hw:=hR.wf
 have hal:=RH.all_len hw
 have hcnt:=eh hw.objs
 have hen:=bO hw.objs hw.w0
 have hw1:=hw.w1
 have hl2:l2=ws.length:=by have:=hk.1;simpa [aq] using this.symm
 have hbnd:∀ l:List Int,l.Nodup->(∀ k∈l,Reaches r ws k)->l.length<=r.objs.length:=fun l h1 h2=>by
  rw [←hal];exact jr h1 fun k hk=>(RH.mem_all hw).2 (h2 k hk).there
 apply DW
 unfold Pi A0 iV wW pV lV cS
 simp only [ae,bj,bf,Option.isNone_some,cond_false]
 refine ⟨fun w H'=>∃(i:Nat) (a:Option Addr) (l c:Nat) (G:ay) (fl:List Int),w=[.slice a l c,.int .i64 i]∧i<=l2∧bv 1 H' a l c (aq fl) G∧Fr [] H H'∧(∀ x∈G,H.size<=x)∧fl.Nodup∧(∀ k∈fl,Reaches r ws k)∧∀ w∈ws.take i,aZ r w≠0->aZ r w∈fl,fun w _=>match w with
  | [_,.int _ i]=>(l2-i).toNat
  | _=>0,⟨0,none,0,0,[],[],rfl,Nat.zero_le _,bv.nil 1 H,Fr.refl _ _,by simp,by simp,by simp,by simp⟩,?_⟩
 rintro w H1 ⟨i,a,l,c,G,fl,rfl,hi,ho,hf,hG,hnd,hsd,hrt⟩ _
 have hfl:l=fl.length:=by have:=ho.len;simpa [aq] using this.symm
 have hb1:=hbnd fl hnd hsd
 refine ⟨_,_,_,_,rfl,bC (fun hlt=>?_) fun hlt=>?_⟩
 ·have hk1:=hk.fr' hf (by simp)
  obtain ⟨p,rfl,hcell,hlt2⟩:=hk1.int (i:=(i:Int)) (by omega) hlt
  rw [Int.toNat_natCast] at hcell hlt2
  have htk:ws.take (i+1)=ws.take i++[ws.getD i 0]:=by rw [List.take_add_one];simp [hlt2]
  have hmem:ws.getD i 0∈ws:=by
   have:ws.getD i 0=ws[i]:=by simp [hlt2]
   rw [this];exact List.getElem_mem hlt2
  have e:IntKind.wrap .i64 ((i:Int)+1)=((i+1:Nat):Int):=by rw [am (by omega) (by omega)];omega
  refine ⟨⟨by omega,hlt⟩,_,rfl,_,by rw [Int.toNat_natCast,Nat.mul_one];exact hcell,?_⟩
  refine oJ (hR.fr hf (bi.nil_right _)) ⟨_,rfl,?_⟩
  refine o9 ho (by omega) fun a' l' c' G' H2 h1 h2=>⟨_,_,_,rfl,?_⟩
  have hfr:=Up.fresh hf h2 hG
  rw [e]
  refine ⟨⟨i+1,a',l',c',G',fR fl (aZ r (ws.getD i 0)),rfl,by omega,h1,hfr.1,hfr.2,i1 hnd _,fun k hkm=>?_,fun w hw1 hw2=>?_⟩,by simp;omega⟩
  ·rcases fV.1 hkm with h3 | ⟨rfl,h3⟩
   ·exact hsd k h3
   ·exact .root hmem h3
  ·rw [htk] at hw1
   rw [fV]
   rcases List.mem_append.1 hw1 with h3 | h3
   ·exact .inl (hrt w h3 hw2)
   ·simp only [List.mem_singleton] at h3;subst h3;exact .inr ⟨rfl,hw2⟩
 ·have htake:ws.take i=ws:=List.take_of_length_le (by omega)
  rw [htake] at hrt
  refine ⟨fun w H'=>∃(i:Nat) (a:Option Addr) (l c:Nat) (G:ay) (fl:List Int),w=[.slice a l c,.int .i64 i]∧i<=fl.length∧bv 1 H' a l c (aq fl) G∧Fr [] H H'∧(∀ x∈G,H.size<=x)∧fl.Nodup∧(∀ k∈fl,Reaches r ws k)∧(∀ w∈ws,aZ r w≠0->aZ r w∈fl) ∧
    ∀ o∈r.objs,o.oop∈fl.take i->(aZ r o.cls≠0->aZ r o.cls∈fl)∧(o.fmt=0->∀ w∈o.slots,aZ r w≠0->aZ r w∈fl),fun w _=>match w with
   | [_,.int _ i]=>(r.objs.length-i).toNat
   | _=>0,⟨0,a,l,c,G,fl,rfl,Nat.zero_le _,ho,hf,hG,hnd,hsd,hrt,by simp⟩,?_⟩
  clear hfl hb1 ho hf hG hnd hsd hrt hlt
  rintro w H2 ⟨j,a,l,c,G,fl,rfl,hj,ho,hf,hG,hnd,hsd,hrt,hcl⟩ _
  have hfl:l=fl.length:=by have:=ho.len;simpa [aq] using this.symm
  have hb1:=hbnd fl hnd hsd
  refine ⟨_,_,_,_,rfl,bC (fun hlt=>?_) fun hlt=>?_⟩
  ·obtain ⟨p,rfl,hcell,hlt2⟩:=ho.rd.int (i:=(j:Int)) (by omega) hlt
   rw [Int.toNat_natCast] at hcell hlt2
   refine ⟨⟨by omega,hlt⟩,_,rfl,_,by rw [Int.toNat_natCast,Nat.mul_one];exact hcell,?_⟩
   have hx:fl.getD j 0=fl[j]:=by simp [hlt2]
   have hxm:fl[j]∈fl:=List.getElem_mem hlt2
   have htk:fl.take (j+1)=fl.take j++[fl[j]]:=by rw [List.take_add_one];simp [hlt2]
   rw [hx]
   have hRx:=hsd _ hxm
   obtain ⟨o,hoo⟩:∃ o,aH r.objs fl[j]=some o:=by
    cases h1:aH r.objs fl[j] with
    | none=>exact absurd h1 hRx.there
    | some o=>exact ⟨o,rfl⟩
   have hom:=(aM hoo).1
   have hox:=(aM hoo).2
   have hRo:Reaches r ws o.oop:=by rw [hox];exact hRx
   have hmany:=(hw.objs.good o hom).many
   refine kZ (hR.fr hf (bi.nil_right _)) ?_
   have hcls:r.clsAt fl[j]=(o.cls,0):=by unfold RH.clsAt;rw [hoo]
   rw [hcls]
   refine ⟨_,_,rfl,?_⟩
   refine oJ (hR.fr hf (bi.nil_right _)) ⟨_,rfl,?_⟩
   refine o9 ho (by omega) fun a1 l1 c1 G1 H3 ho1 hu1=>⟨_,_,_,rfl,?_⟩
   have hfr1:=Up.fresh hf hu1 hG
   dsimp only at ho1
   obtain ⟨t1,ht1⟩:=jQ fl (aZ r o.cls)
   have hnd1:=i1 hnd (aZ r o.cls)
   have hsd1:∀ k∈fR fl (aZ r o.cls),Reaches r ws k:=fun k hk=>by
    rcases fV.1 hk with h4 | ⟨rfl,h4⟩
    ·exact hsd k h4
    ·exact .cls hRo hom h4
   have hc1:aZ r o.cls≠0->aZ r o.cls∈fR fl (aZ r o.cls):=fun h4=>fV.2 (.inr ⟨rfl,h4⟩)
   generalize fR fl (aZ r o.cls)=fl1 at *
   have hfl1:l1=fl1.length:=by have:=ho1.len;simpa [aq] using this.symm
   have hlen1:fl.length<=fl1.length:=by rw [ht1];simp
   obtain ⟨p1,rfl,hcell1,_⟩:=ho1.rd.int (i:=(j:Int)) (by omega) (by omega)
   rw [Int.toNat_natCast] at hcell1
   have hx1:fl1.getD j 0=fl[j]:=by rw [ht1];simp [List.getElem?_append_left hlt2,hlt2]
   rw [hx1] at hcell1
   refine ⟨⟨by omega,by omega⟩,_,rfl,_,by rw [Int.toNat_natCast,Nat.mul_one];exact hcell1,?_⟩
   refine rN (hR.fr hfr1.1 (bi.nil_right _)) ?_
   have hsz:r.size fl[j]=((o.slots.length:Int),o.fmt,0):=by unfold RH.size;rw [hoo]
   rw [hsz]
   refine ⟨_,_,_,rfl,?_⟩
   have fin:∀ (a:Option Addr) (l c:Nat) (G:ay) (fl2:List Int) (t:List Int) (H4:aj),bv 1 H4 a l c (aq fl2) G->Fr [] H H4->(∀ x∈G,H.size<=x)->fl2.Nodup->(∀ k∈fl2,Reaches r ws k)->fl2=fl1++t->(o.fmt=0->∀ w∈o.slots,aZ r w≠0->aZ r w∈fl2) ->
     (∃(i:Nat) (a':Option Addr) (l' c':Nat) (G':ay) (fl':List Int),[Value.slice a l c,.int .i64 (IntKind.wrap .i64 ((j:Int)+1))]=[.slice a' l' c',.int .i64 i]∧i<=fl'.length∧bv 1 H4 a' l' c' (aq fl') G'∧Fr [] H H4∧(∀ x∈G',H.size<=x)∧fl'.Nodup∧(∀ k∈fl',Reaches r ws k)∧(∀ w∈ws,aZ r w≠0->aZ r w∈fl') ∧
      ∀ o∈r.objs,o.oop∈fl'.take i->(aZ r o.cls≠0->aZ r o.cls∈fl')∧(o.fmt=0->∀ w∈o.slots,aZ r w≠0->aZ r w∈fl')):=by
    intro a l c G fl2 t H4 k1 k2 k3 k4 k5 k6 k7
    have e:IntKind.wrap .i64 ((j:Int)+1)=((j+1:Nat):Int):=by rw [am (by omega) (by omega)];omega
    have hsub:∀ k∈fl,k∈fl2:=fun k hk=>by rw [k6,ht1];simp [hk]
    have htk2:fl2.take (j+1)=fl.take (j+1):=by
     rw [k6,ht1,List.append_assoc,List.take_append_of_le_length (by omega)]
    refine ⟨j+1,a,l,c,G,fl2,by rw [e],by rw [k6,ht1];simp;omega,k1,k2,k3,k4,k5,fun w h1 h2=>hsub _ (hrt w h1 h2),fun o' ho' hm=>?_⟩
    rw [htk2,htk] at hm
    rcases List.mem_append.1 hm with h4 | h4
    ·have:=hcl o' ho' h4
     exact ⟨fun h5=>hsub _ (this.1 h5),fun h5 w h6 h7=>hsub _ (this.2 h5 w h6 h7)⟩
    ·simp only [List.mem_singleton] at h4
     have:o'=o:=by
      have h5:=bW hw.objs ho'
      rw [h4,hoo] at h5
      exact (Option.some.inj h5).symm
     subst this
     exact ⟨fun h5=>by rw [k6];simp [hc1 h5],k7⟩
   refine ⟨fun w H'=>∃(i:Nat) (a:Option Addr) (l c:Nat) (G:ay) (fl2 t:List Int),w=[.slice a l c,.int .i64 i]∧i<=o.slots.length∧bv 1 H' a l c (aq fl2) G∧Fr [] H H'∧(∀ x∈G,H.size<=x)∧fl2.Nodup∧(∀ k∈fl2,Reaches r ws k)∧fl2=fl1++t∧(o.fmt=0->∀ w∈o.slots.take i,aZ r w≠0->aZ r w∈fl2),fun w _=>match w with
    | [_,.int _ i]=>(o.slots.length-i).toNat
    | _=>0,⟨0,_,l1,c1,G1,fl1,[],rfl,Nat.zero_le _,ho1,hfr1.1,hfr1.2,hnd1,hsd1,by simp,by simp⟩,?_⟩
   rintro w H4 ⟨q,a2',l2',c2',G2,fl2,t2,rfl,hq,ho2,hf2,hG2,hnd2,hsd2,hpre,hsl⟩ _
   have hfl2:l2'=fl2.length:=by have:=ho2.len;simpa [aq] using this.symm
   have hb2:=hbnd fl2 hnd2 hsd2
   have hlen2:fl1.length<=fl2.length:=by rw [hpre];simp
   refine ⟨_,_,_,_,rfl,bC (fun hq1=>bC (fun hq2=>?_) fun hq2=>?_) fun hq1=>?_⟩
   ·obtain ⟨p2,rfl,hcell2,_⟩:=ho2.rd.int (i:=(j:Int)) (by omega) (by omega)
    rw [Int.toNat_natCast] at hcell2
    have hx2:fl2.getD j 0=fl[j]:=by rw [hpre,ht1,List.append_assoc];simp [List.getElem?_append_left hlt2,hlt2]
    rw [hx2] at hcell2
    refine ⟨⟨by omega,by omega⟩,_,rfl,_,by rw [Int.toNat_natCast,Nat.mul_one];exact hcell2,?_⟩
    refine Ei (hR.fr hf2 (bi.nil_right _)) ?_
    have hqn:q<o.slots.length:=by omega
    have hat:r.at fl[j] (q:Int)=(o.slots[q],0):=by
     unfold RH.at
     rw [hoo]
     simp only
     rw [if_neg (by omega)]
     simp [hqn]
    rw [hat]
    refine ⟨_,_,rfl,oJ (hR.fr hf2 (bi.nil_right _)) ⟨_,rfl,?_⟩⟩
    refine o9 ho2 (by omega) fun a5 l5 c5 G5 H5 ho5 hu5=>⟨_,_,_,rfl,?_⟩
    have hfr5:=Up.fresh hf2 hu5 hG2
    dsimp only at ho5
    have eq1:IntKind.wrap .i64 ((q:Int)+1)=((q+1:Nat):Int):=by rw [am (by omega) (by omega)];omega
    obtain ⟨t5,ht5⟩:=jQ fl2 (aZ r o.slots[q])
    rw [eq1]
    refine ⟨⟨q+1,a5,l5,c5,G5,fR fl2 (aZ r o.slots[q]),t2++t5,rfl,by omega,ho5,hfr5.1,hfr5.2,i1 hnd2 _,fun k hk=>?_,by rw [ht5,hpre,List.append_assoc],fun h6 w hw1 hw2=>?_⟩,by simp;omega⟩
    ·rcases fV.1 hk with h6 | ⟨rfl,h6⟩
     ·exact hsd2 k h6
     ·exact .slot hRo hom hq2 (List.getElem_mem hqn) h6
    ·rw [List.take_add_one] at hw1
     rw [fV]
     rcases List.mem_append.1 hw1 with h7 | h7
     ·exact .inl (hsl h6 w h7 hw2)
     ·simp [hqn] at h7
      subst h7
      exact .inr ⟨rfl,hw2⟩
   ·exact ⟨fin _ _ _ _ _ _ _ ho2 hf2 hG2 hnd2 hsd2 hpre fun h6=>absurd h6 hq2,by simp;rw [am (by omega) (by omega)];omega⟩
   ·refine ⟨fin _ _ _ _ _ _ _ ho2 hf2 hG2 hnd2 hsd2 hpre fun h6 w hw1 hw2=>hsl h6 w ?_ hw2,by simp;rw [am (by omega) (by omega)];omega⟩
    rw [List.take_of_length_le (by omega)];exact hw1
  ·have hclosed:Closed3 r ws fl:=by
    have hje:j=fl.length:=by omega
    subst hje
    rw [List.take_length] at hcl
    exact ⟨hsd,hrt,fun o ho hm=>(hcl o ho hm).1,fun o ho hm=>(hcl o ho hm).2⟩
   have hs2:aF PP 66=some (1,8,some (.int .i64 0)):=by kernel_rfl
   refine Fw (hR.fr hf (bi.nil_right _)) fun aa la ca Ga H3 hoa hfa hGa=>⟨_,_,_,rfl,?_⟩
   have hla:la=r.all.length:=by have:=hoa.len;simpa [aq] using this.symm
   refine ⟨fun w H'=>∃(i:Nat) (a:Option Addr) (l c:Nat) (G:ay),w=[.slice a l c,.int .i64 i]∧i<=la∧bv 1 H' a l c (aq ((r.all.take i).filter fun k=>decide (k∈fl))) G∧Fr [] H3 H'∧(∀ x∈G,H3.size<=x),fun w _=>match w with
    | [_,.int _ i]=>(la-i).toNat
    | _=>0,⟨0,none,0,0,[],rfl,Nat.zero_le _,by simpa [aq] using bv.nil 1 H3,Fr.refl _ _,by simp⟩,?_⟩
   rintro w H4 ⟨q,a4,l4,c4,G4,rfl,hq,ho4,hf4,hG4⟩ _
   have hl4:l4=((r.all.take q).filter fun k=>decide (k∈fl)).length:=by have:=ho4.len;simpa [aq] using this.symm
   have hl4b:l4<=la:=by
    have h1:=List.length_filter_le (fun k=>decide (k∈fl)) (r.all.take q)
    rw [List.length_take] at h1
    omega
   refine ⟨_,_,_,_,rfl,bC (fun hlt=>?_) fun hlt=>?_⟩
   ·have hoa4:=hoa.fr hf4 (by simp)
    have ho4':=(ho.fr hfa (by simp)).fr hf4 (by simp)
    obtain ⟨p,rfl,hcell,hlt2⟩:=hoa4.rd.int (i:=(q:Int)) (by omega) hlt
    rw [Int.toNat_natCast] at hcell hlt2
    have hx:r.all.getD q 0=r.all[q]:=by simp [hlt2]
    have htk:r.all.take (q+1)=r.all.take q++[r.all[q]]:=by rw [List.take_add_one];simp [hlt2]
    have e:IntKind.wrap .i64 ((q:Int)+1)=((q+1:Nat):Int):=by rw [am (by omega) (by omega)];omega
    rw [hx] at hcell
    have hcell':ac H4 (p.add (Int.toNat (q:Int)*1))=some (.int .i64 r.all[q]):=by rw [Int.toNat_natCast,Nat.mul_one];exact hcell
    refine ⟨⟨by omega,hlt⟩,_,rfl,_,hcell',zl ho4'.rd (by omega) ⟨_,rfl,?_⟩⟩
    rw [ae,e]
    refine bC (fun hm=>?_) fun hm=>?_
    ·refine ⟨⟨by omega,hlt⟩,_,rfl,_,hcell',?_⟩
     refine bg hs2 rfl (by kernel_rfl) ho4 rfl (by simp [cC]) (by omega) (by decide) (by decide) fun a5 c5 G5 H5 h1 h2 h3=>⟨_,_,_,rfl,?_⟩
     have hfr:=Up.fresh hf4 h2 hG4
     refine ⟨⟨q+1,a5,l4+1,c5,G5,rfl,by omega,?_,hfr.1,hfr.2⟩,by simp;omega⟩
     rw [htk,List.filter_append,bt]
     simpa [hm,aq] using h1
    ·refine ⟨⟨q+1,a4,l4,c4,G4,rfl,by omega,?_,hf4,hG4⟩,by simp;omega⟩
     rw [htk,List.filter_append]
     simpa [hm] using ho4
   ·rw [List.take_of_length_le (by omega),hclosed.filter] at ho4
    exact h _ _ _ _ H4 ho4 (hf.trans (hfa.trans hf4)) fun x hx=>Nat.le_trans (hf.trans hfa).1 (hG4 x hx)
theorem xP (hR:dA H b F r){a2:Option Addr}{l2 c2:Nat}{ws:List Int} (hk:Rd 1 H a2 l2 (aq ws)) (hlk:l2<=1000000) (h:∀ H' F',dA H' b F' (r.keep (r.reach ws)).2->Up F H F' H'->Q (jP (r.keep (r.reach ws)).1) H') :
  ah PP HW #[.pointer (some ⟨b,0,none⟩),.slice a2 l2 c2] Q H:=by
 have hw:=hR.wf
 have hal:=RH.all_len hw
 have hcnt:=eh hw.objs
 have hen:=bO hw.objs hw.w0
 have hw1:=hw.w1
 apply CH
 unfold Ng iV pV lV cS
 refine sg hR hk hlk fun a l c G H1 ho hf hG=>⟨_,_,_,_,rfl,?_⟩
 simp only [bf,ae]
 rw [if_neg (by decide)]
 have hl:l=(r.reach ws).length:=by have:=ho.len;simpa [aq] using this.symm
 have hlb:(r.reach ws).length<=r.all.length:=List.length_filter_le _ _
 refine Az (hR.fr hf (bi.nil_right _)) ho.rd (by omega) fun H2 F2 h1 h2=>⟨_,_,_,rfl,h H2 F2 h1 (Up.trans ⟨hf.of_nil,fun _ hb=>.inl hb⟩ h2)⟩
end
end Go.Proofs.YtmkdkplipbocjaaGreatDoor
namespace Kw
open Go
structure SP where
 h:RH
 king:Int
 stack:List Int
 op:Bool
 born:Int
 turn:Int
 mark:Int
structure WFS (s:SP):Prop where
 h:WFH s.h
 king0:0<=s.king
 king1:s.king<=65536
 many:s.stack.length<=65536
 words:∀ w∈s.stack,dG w
def SP.roots (s:SP):List Int:=(4*s.king) :: s.stack
noncomputable def SP.reach (s:SP):List Int:=s.h.reach s.roots
noncomputable def SP.collect (s:SP):(Int × Int × Int) × SP:=if s.op then ((0,0,25),s) else ((s.h.keep s.reach).1,{ s with h:=(s.h.keep s.reach).2 })
noncomputable def SP.alloc (s:SP) (cls n fmt:Int):(Int × Int) × SP :=
 if (s.h.alloc cls n fmt).1.2≠23∨s.op=true then ((4*(s.h.alloc cls n fmt).1.1,(s.h.alloc cls n fmt).1.2),{ s with h:=(s.h.alloc cls n fmt).2 })
 else ((4*((s.h.keep s.reach).2.alloc cls n fmt).1.1,((s.h.keep s.reach).2.alloc cls n fmt).1.2),{ s with h:=((s.h.keep s.reach).2.alloc cls n fmt).2 })
def SP.keepW (s:SP) (ws:List Int):Int × SP:=if ∃ w∈ws,¬ dG w then (10,s) else if 65536<s.stack.length+ws.length then (22,s) else (0,{ s with stack:=s.stack++ws })
def SP.drop (s:SP) (n:Int):Int × SP:=if n<0∨(s.stack.length:Int)<n then (28,s) else (0,{ s with stack:=s.stack.take (s.stack.length-n.toNat) })
def SP.crown (s:SP) (k:Int):Int × SP:=if (s.h.clsAt k).2≠0 then ((s.h.clsAt k).2,s) else (0,{ s with king:=k })
def SP.setRoot (s:SP) (i w:Int):Int × SP:=((s.h.put s.king i w).1,{ s with h:=(s.h.put s.king i w).2 })
noncomputable def SP.room (s:SP):Int × Int:=(s.h.words-((s.reach.map fun k=>match aH s.h.objs k with | some o=>o.len | none=>2).sum),s.h.oops-(s.reach.length:Int))
theorem oe {h:RH}{cls n fmt:Int} (he:(h.alloc cls n fmt).1.2=23):(h.alloc cls n fmt).2=h:=by
 unfold RH.alloc at *
 split
 ·rfl
 split
 ·rfl
 split
 ·rfl
 rename_i h1 h2 h3
 rw [if_neg h1,if_neg h2,if_neg h3] at he
 split
 ·rename_i h4;rw [if_pos h4] at he;simp at he
 ·rename_i h4;rw [if_neg h4] at he;simp at he
end Kw
namespace Go.Proofs.YtmkdkplipbocjaaGreatDoor
open Kw
def kC (H:aj) (b:Nat) (F:ay) (s:SP):Prop:=∃ hb a l c F1 F2 po b5 b6 b7,F=b :: (F1++F2)∧b∉F1∧b∉F2∧bi F1 F2 ∧
 bA H b #[.pointer (some ⟨hb,0,none⟩),.int .i64 s.king,.slice a l c,.bool s.op,.pointer po,.int .i64 b5,.int .i64 b6,.int .i64 b7]∧dA H hb F1 s.h∧bv 1 H a l c (aq s.stack) F2∧WFS s ∧
 (s.op=true->po=some ⟨hb,0,none⟩∧b5=s.born∧b6=s.turn∧b7=s.mark)
theorem kC.wf {H:aj}{b:Nat}{F:ay}{s:SP} (h:kC H b F s):WFS s:=by
 obtain ⟨_,_,_,_,_,_,_,_,_,_,_,_,_,_,_,_,_,h,_⟩:=h;exact h
theorem kC.lt {H:aj}{b:Nat}{F:ay}{s:SP} (h:kC H b F s):∀ x∈F,x<H.size:=by
 obtain ⟨hb,a,l,c,F1,F2,po,b5,b6,b7,rfl,h1,h2,h3,hB,hR,hO,_⟩:=h
 intro x hx
 rcases List.mem_cons.1 hx with rfl | hx
 ·exact hB.lt
 ·rcases List.mem_append.1 hx with hx | hx
  ·exact hR.lt x hx
  ·exact hO.lt x hx
theorem kC.fr {H H':aj}{b:Nat}{F G:ay}{s:SP} (h:kC H b F s) (hf:Fr G H H') (hd:bi F G):kC H' b F s:=by
 obtain ⟨hb,a,l,c,F1,F2,po,b5,b6,b7,rfl,h1,h2,h3,hB,hR,hO,hw,ho⟩:=h
 exact ⟨hb,a,l,c,F1,F2,po,b5,b6,b7,rfl,h1,h2,h3,hB.fr hf (hd b (by simp)),hR.fr hf (hd.mono (fun x hx=>by simp [hx]) fun _ h=>h),hO.fr hf (hd.mono (fun x hx=>by simp [hx]) fun _ h=>h),hw,ho⟩
section
variable {H:aj}{b:Nat}{F F':ay}{s:SP}{Q:QT}
theorem Db {words oops:Int} (hbad:¬ (0<=words∧words<=1048576∧0<=oops∧oops<=65536)->Q (.tuple #[.pointer none,.int .i64 1]) H)
  (h:(0<=words∧words<=1048576∧0<=oops∧oops<=65536)->∀ b F H',kC H' b F ⟨⟨words,oops,0,0,0,[]⟩,0,[],false,0,0,0⟩->Fr [] H H'->(∀ x∈F,H.size<=x)->Q (.tuple #[.pointer (some ⟨b,0,none⟩),.int .i64 0]) H'):ah PP MY #[.int .i64 words,.int .i64 oops] Q H:=by
 apply HG
 unfold Q0 A0 iV pV lV
 simp only [bf,ae]
 refine Ia (fun hb=>⟨_,_,rfl,?_⟩) fun hg H1 hR hf=>⟨_,_,rfl,?_⟩
 ·rw [if_pos (by decide)];exact hbad hb
 ·rw [if_neg (by decide)]
  have hlt:=hR.lt
  have hs:=hlt H.size (by simp)
  refine h hg H1.size (H1.size :: ([H.size]++[])) _ ⟨H.size,none,0,0,[H.size],[],none,0,0,0,rfl,by simp;omega,by simp,bi.nil_right _,bA.new _ _ _,hR.fr (Fr.push [] _ _) (bi.nil_right _),bv.nil 1 _,?_,by simp⟩ hf.more (by simp;have:=hf.1;omega)
  exact ⟨hR.wf,by simp,by simp,by simp,by simp⟩
theorem xa (hS:kC H b F s){k:Int} (h:∀ H',kC H' b F (s.crown k).2->Fr F H H'->Q (.int .i64 (s.crown k).1) H'):ah PP LZ #[.pointer (some ⟨b,0,none⟩),.int .i64 k] Q H:=by
 have hS0:=hS
 obtain ⟨hb,a,l,c,F1,F2,po,b5,b6,b7,rfl,h1,h2,h3,hB,hR,hO,hw,ho⟩:=hS
 have hc0:ac H ⟨b,0,none⟩=some (.pointer (some ⟨hb,0,none⟩)):=hB.cell 0
 apply Gd
 unfold QM iV pV cS
 simp only [ae,cond_true,cond_false,Option.isNone_some,Option.isNone_none,aL,aB,aY,aQ,aJ,aR,aU,aC,aW,aV,aK,aX,and_assoc,true_and,and_true,ao,Nat.zero_add,Nat.mul_one,az,ax,aD,Bool.not_true,Bool.not_false,bj,bf,hc0]
 refine kZ hR ⟨_,_,rfl,?_⟩
 unfold SP.crown at h
 by_cases he:(s.h.clsAt k).2=0
 ·rw [if_neg (by simpa using he)]
  simp only [he,ne_eq,not_true_eq_false,if_false] at h
  refine ⟨hB.wr (by simp),h _ ⟨hb,a,l,c,F1,F2,po,b5,b6,b7,rfl,h1,h2,h3,hB.set 1 (.int .i64 k),hR.fr (Fr.set (F:=[b]) (by simp)) (fun x hx hn=>h1 (by simp only [List.mem_singleton] at hn;rw [←hn];exact hx)),hO.fr (Fr.set (F:=[b]) (by simp)) (fun x hx hn=>h2 (by simp only [List.mem_singleton] at hn;rw [←hn];exact hx)),?_,ho⟩ (Fr.set (by simp))⟩
  have:∃ o,aH s.h.objs k=some o:=by
   unfold RH.clsAt at he
   cases ho:aH s.h.objs k with
   | none=>rw [ho] at he;simp at he
   | some o=>exact ⟨o,rfl⟩
  obtain ⟨o,hoo⟩:=this
  have hg:=hw.h.objs.good o (aM hoo).1
  have g1:=hg.oop1
  have g2:=hg.oop2
  have g3:=hw.h.o1
  rw [(aM hoo).2] at g1 g2
  exact { hw with king0:=by simp;omega,king1:=by simp;omega }
 ·rw [if_pos (by simpa using he)]
  simp only [he,ne_eq,not_false_eq_true,if_true] at h
  exact h H hS0 (Fr.refl _ _)
theorem mJ (hS:kC H b F s){i w:Int} (h:∀ H',kC H' b F (s.setRoot i w).2->Fr F H H'->Q (.int .i64 (s.setRoot i w).1) H'):ah PP Ic #[.pointer (some ⟨b,0,none⟩),.int .i64 i,.int .i64 w] Q H:=by
 obtain ⟨hb,a,l,c,F1,F2,po,b5,b6,b7,rfl,h1,h2,h3,hB,hR,hO,hw,ho⟩:=hS
 have hc0:ac H ⟨b,0,none⟩=some (.pointer (some ⟨hb,0,none⟩)):=hB.cell 0
 have hc1:ac H ⟨b,1,none⟩=some (.int .i64 s.king):=hB.cell 1
 apply CQ
 unfold Np iV pV cS
 simp only [ae,cond_true,cond_false,Option.isNone_some,Option.isNone_none,aL,aB,aY,aQ,aJ,aR,aU,aC,aW,aV,aK,aX,and_assoc,true_and,and_true,ao,Nat.zero_add,Nat.mul_one,az,ax,aD,Bool.not_true,Bool.not_false,bj,bf,hc0,hc1]
 refine ku hR fun H1 hR1 hf1=>?_
 simp only [ae,cond_true,cond_false,Option.isNone_some,Option.isNone_none,aL,aB,aY,aQ,aJ,aR,aU,aC,aW,aV,aK,aX,and_assoc,true_and,and_true,ao,Nat.zero_add,Nat.mul_one,az,ax,aD,Bool.not_true,Bool.not_false,bj,bf]
 exact h H1 ⟨hb,a,l,c,F1,F2,po,b5,b6,b7,rfl,h1,h2,h3,hB.fr hf1 h1,hR1,hO.fr hf1 h3.symm,{ hw with h:=il hw.h _ _ _ },ho⟩ (hf1.mono fun x hx=>by simp [hx])
theorem mj (hS:kC H b F s) (h:∀ a l c G H',bv 1 H' a l c (aq s.roots) G->Fr [] H H'->(∀ x∈G,H.size<=x)->Q (.slice a l c) H'):ah PP Ky #[.pointer (some ⟨b,0,none⟩)] Q H:=by
 obtain ⟨hb,a,l,c,F1,F2,po,b5,b6,b7,rfl,h1,h2,h3,hB,hR,hO,hw,ho⟩:=hS
 have hc1:ac H ⟨b,1,none⟩=some (.int .i64 s.king):=hB.cell 1
 have hc2:ac H ⟨b,2,none⟩=some (.slice a l c):=hB.cell 2
 have hp2:∀ o,ac (H.push o) ⟨b,2,none⟩=some (.slice a l c):=fun o=>(dm hB.lt).trans hc2
 have hk0:=hw.king0
 have hk1:=hw.king1
 have hl:l=s.stack.length:=by have:=hO.len;simpa [aq] using this.symm
 have hs1:aF PP 108=some (1,8,some (.int .i64 0)):=by kernel_rfl
 apply zP
 unfold LK A0 iV wW lV
 have e1:IntKind.wrap .i64 (4*s.king)=4*s.king:=am (by omega) (by omega)
 simp only [ae,cond_true,cond_false,Option.isNone_some,Option.isNone_none,aL,aB,aY,aQ,aJ,aR,aU,aC,aW,aV,aK,aX,and_assoc,true_and,and_true,ao,Nat.zero_add,Nat.mul_one,az,ax,aD,Bool.not_true,Bool.not_false,bj,bf,hc1,hc2,hp2,e1]
 have hown:bv 1 (H.push (.cells #[.int .i64 (4*s.king)] 36)) (some ⟨H.size,0,none⟩) 1 1 (aq [4*s.king]) [H.size]:=⟨by simp [aq],Nat.le_refl _,.inr ⟨H.size,_,rfl,rfl,bA.new _ _ _,by simp,by simp [aq]⟩⟩
 have hm:=hw.many
 refine bY hs1 rfl (by kernel_rfl) hown (hO.fr (Fr.push [] _ _) (by simp)).rd cM (by omega) (by decide) (by decide) fun a' c' F' H' g1 g2 g3=>⟨_,_,_,rfl,?_⟩
 have hfr:=Up.fresh (H:=H) (Fr.push [] H _) g2 (by simp)
 refine h _ _ _ F' H' ?_ hfr.1 hfr.2
 have e2:aq s.roots=aq [4*s.king]++aq s.stack:=by simp [aq,SP.roots]
 rw [e2]
 exact g1
theorem rZ (hS:kC H b F s) (h:∀ H' F',kC H' b F' s.collect.2->Up F H F' H'->Q (jP s.collect.1) H'):ah PP FQ #[.pointer (some ⟨b,0,none⟩)] Q H:=by
 have hS0:=hS
 obtain ⟨hb,a,l,c,F1,F2,po,b5,b6,b7,rfl,h1,h2,h3,hB,hR,hO,hw,ho⟩:=hS
 have hc0:ac H ⟨b,0,none⟩=some (.pointer (some ⟨hb,0,none⟩)):=hB.cell 0
 have hc3:ac H ⟨b,3,none⟩=some (.bool s.op):=hB.cell 3
 apply Bs
 unfold L1 iV pV lV cS
 simp only [ae,cond_true,cond_false,Option.isNone_some,Option.isNone_none,aL,aB,aY,aQ,aJ,aR,aU,aC,aW,aV,aK,aX,and_assoc,true_and,and_true,ao,Nat.zero_add,Nat.mul_one,az,ax,aD,Bool.not_true,Bool.not_false,bj,bf,hc0,hc3]
 unfold SP.collect at h
 cases hop:s.op with
 | true =>
  rw [hop] at h
  simp only [cond_true]
  exact h H _ hS0 (Up.refl _ _)
 | false =>
  rw [hop] at h
  simp only [cond_false,Bool.false_eq_true,if_false] at h ⊢
  refine mj hS0 fun ar lr cr G H1 hor hf hG=>?_
  have hB1:=hB.fr hf (by simp)
  have hR1:=hR.fr hf (bi.nil_right _)
  have hO1:=hO.fr hf (by simp)
  have hc01:ac H1 ⟨b,0,none⟩=some (.pointer (some ⟨hb,0,none⟩)):=hB1.cell 0
  refine ⟨_,_,_,rfl,hc01,?_⟩
  have hlr:lr=s.stack.length+1:=by have:=hor.len;simpa [aq,SP.roots] using this.symm
  have hm:=hw.many
  refine xP hR1 hor.rd (by omega) fun H2 F3 hR2 hu=>⟨_,_,_,rfl,?_⟩
  have hlt:=hS0.lt
  have hbF1:b∉F3:=fun hx=>by
   rcases hu.2 b hx with h4 | h4
   ·exact h1 h4
   ·have:=hlt b (by simp);have:=hf.1;omega
  have hdj:bi F3 F2:=fun x hx hx2=>by
   rcases hu.2 x hx with h4 | h4
   ·exact h3 x h4 hx2
   ·have:=hlt x (by simp [hx2]);have:=hf.1;omega
  refine h H2 (b :: (F3++F2)) ⟨hb,a,l,c,F3,F2,po,b5,b6,b7,rfl,hbF1,h2,hdj,by rw [hop] at hB1;exact hB1.fr hu.1 h1,hR2,hO1.fr hu.1 h3.symm,{ hw with h:=gz hw.h _ },by simp [hop]⟩ ?_
  refine ⟨(hf.of_nil).trans (hu.1.mono fun x hx=>by simp [hx]),fun x hx=>?_⟩
  rcases List.mem_cons.1 hx with rfl | hx
  ·exact .inl (by simp)
  ·rcases List.mem_append.1 hx with hx | hx
   ·rcases hu.2 x hx with h4 | h4
    ·exact .inl (by simp [h4])
    ·exact .inr (Nat.le_trans hf.1 h4)
   ·exact .inl (by simp [hx])
theorem kC.upd (hS:kC H b F s):∃ hb F1,dA H hb F1 s.h∧ac H ⟨b,0,none⟩=some (.pointer (some ⟨hb,0,none⟩))∧ac H ⟨b,3,none⟩=some (.bool s.op)∧(∀ x∈F1,x∈F)∧b∉F1 ∧
  ∀ H' F1' r',dA H' hb F1' r'->Up F1 H F1' H'->∃ F',kC H' b F' { s with h:=r' }∧Up F H F' H':=by
 have hlt:=hS.lt
 obtain ⟨hb,a,l,c,F1,F2,po,b5,b6,b7,rfl,h1,h2,h3,hB,hR,hO,hw,ho⟩:=hS
 refine ⟨hb,F1,hR,hB.cell 0,hB.cell 3,fun x hx=>by simp [hx],h1,fun H' F1' r' hR' hu=>?_⟩
 refine ⟨b :: (F1'++F2),⟨hb,a,l,c,F1',F2,po,b5,b6,b7,rfl,fun hx=>?_,h2,fun x hx hx2=>?_,hB.fr hu.1 h1,hR',hO.fr hu.1 h3.symm,{ hw with h:=hR'.wf },ho⟩,hu.1.mono fun x hx=>by simp [hx],fun x hx=>?_⟩
 ·rcases hu.2 b hx with h4 | h4
  ·exact h1 h4
  ·have:=hlt b (by simp);omega
 ·rcases hu.2 x hx with h4 | h4
  ·exact h3 x h4 hx2
  ·have:=hlt x (by simp [hx2]);omega
 ·rcases List.mem_cons.1 hx with rfl | hx
  ·exact .inl (by simp)
  ·rcases List.mem_append.1 hx with hx | hx
   ·exact (hu.2 x hx).imp (fun h4=>by simp [h4]) id
   ·exact .inl (by simp [hx])
theorem i6 {r:RH} (hw:WFH r) (cls n f:Int):0<=(r.alloc cls n f).1.1∧(r.alloc cls n f).1.1<=65537:=by
 have h1:=hw.o1
 unfold RH.alloc
 split
 ·simp
 split
 ·simp
 split
 ·simp
 rename_i h4
 have hl:=dL hw.objs hw.o1 (by omega)
 split
 ·simp
 ·simp;omega
theorem qb (hS:kC H b F s){cls n f:Int} (h:∀ H' F',kC H' b F' (s.alloc cls n f).2->Up F H F' H'->Q (mP (s.alloc cls n f).1) H'):ah PP Lb #[.pointer (some ⟨b,0,none⟩),.int .i64 cls,.int .i64 n,.int .i64 f] Q H:=by
 obtain ⟨hb,F1,hR,hc0,hc3,hsub,hnb,hup⟩:=hS.upd
 have hwf:=hS.wf.h
 have hbd:=i6 hwf cls n f
 apply Al
 unfold Me iV wW pV lV cS
 simp only [bf,ae,Option.isNone_some,cond_false]
 refine ⟨_,rfl,_,hc0,?_⟩
 refine pe hR fun H1 F1' hR1 hu1=>⟨_,_,rfl,?_⟩
 obtain ⟨F',hS1,hU1⟩:=hup H1 F1' _ hR1 hu1
 unfold SP.alloc at h
 have e1:IntKind.wrap .i64 (4*(s.h.alloc cls n f).1.1)=4*(s.h.alloc cls n f).1.1:=am (by omega) (by omega)
 rw [e1]
 refine bC (fun hne=>?_) fun hne=>?_
 ·rw [if_pos (.inl hne)] at h
  exact h H1 F' hS1 hU1
 ·have heq:(s.h.alloc cls n f).1.2=23:=Classical.byContradiction fun hc=>hne hc
  have hfull:=oe heq
  have hS1':kC H1 b F' s:=by
   have:({ s with h:=(s.h.alloc cls n f).2 }:SP)=s:=by rw [hfull]
   rw [this] at hS1;exact hS1
  obtain ⟨hb',F2,hR2,hc02,hc32,hsub2,hnb2,hup2⟩:=hS1'.upd
  refine ⟨_,rfl,_,hc32,?_⟩
  cases hop:s.op with
  | true =>
   rw [if_pos (.inr hop)] at h
   simp only [cond_true]
   exact h H1 F' hS1 hU1
  | false =>
   rw [if_neg (by simp [heq,hop])] at h
   simp only [cond_false]
   refine ⟨_,rfl,_,hc02,?_⟩
   have hlt1:=hS1'.lt
   refine mj hS1' fun ar lr cr G H2 hor hf hG=>?_
   have hc03:ac H2 ⟨b,0,none⟩=some (.pointer (some ⟨hb',0,none⟩)):=by
    have hbl:b<H1.size:=by
     obtain ⟨_,_,_,_,_,_,_,_,_,_,_,_,_,_,hB,_⟩:=hS1'
     exact hB.lt
    unfold ac at *
    rw [hf.2 b hbl (by simp)]
    exact hc02
   refine ⟨_,_,_,rfl,⟨⟨hc03,trivial⟩,trivial⟩,?_⟩
   have hlr:lr=s.stack.length+1:=by have:=hor.len;simpa [aq,SP.roots] using this.symm
   have hm:=hS1'.wf.many
   refine xP (hR2.fr hf (bi.nil_right _)) hor.rd (by omega) fun H3 F3 hR3 hu3=>⟨_,_,_,rfl,trivial,?_⟩
   obtain ⟨F4,hS4,hU4⟩:=hup2 H3 F3 _ hR3 (Up.trans ⟨hf.of_nil,fun _ hb=>.inl hb⟩ hu3)
   obtain ⟨hb5,F5,hR5,hc05,hc35,hsub5,hnb5,hup5⟩:=hS4.upd
   refine ⟨_,rfl,_,hc05,?_⟩
   refine pe hR5 fun H6 F6 hR6 hu6=>⟨_,_,rfl,?_⟩
   obtain ⟨F7,hS7,hU7⟩:=hup5 H6 F6 _ hR6 hu6
   have hbd2:=i6 (gz hwf s.reach) cls n f
   have e2:IntKind.wrap .i64 (4*((s.h.keep s.reach).2.alloc cls n f).1.1)=4*((s.h.keep s.reach).2.alloc cls n f).1.1:=am (by omega) (by omega)
   have:=h H6 F7 hS7 (hU1.trans (hU4.trans hU7))
   unfold mP at this
   rw [←e2] at this
   exact this
theorem sD (hS:kC H b F s){a2:Option Addr}{l2 c2:Nat}{ws:List Int} (hk:Rd 1 H a2 l2 (aq ws)) (hlk:l2<=1000000000) (h:∀ H' F',kC H' b F' (s.keepW ws).2->Up F H F' H'->Q (.int .i64 (s.keepW ws).1) H'):ah PP Gu #[.pointer (some ⟨b,0,none⟩),.slice a2 l2 c2] Q H:=by
 have hS0:=hS
 have hlt0:=hS.lt
 obtain ⟨hb,a,l,c,F1,F2,po,b5,b6,b7,rfl,h1,h2,h3,hB,hR,hO,hw,ho⟩:=hS
 have hc2:ac H ⟨b,2,none⟩=some (.slice a l c):=hB.cell 2
 have hl:l=s.stack.length:=by have:=hO.len;simpa [aq] using this.symm
 have hl2:l2=ws.length:=by have:=hk.1;simpa [aq] using this.symm
 have hm:=hw.many
 have hs1:aF PP 108=some (1,8,some (.int .i64 0)):=by kernel_rfl
 apply BI
 unfold Mm iV wW lV cS
 unfold SP.keepW at h
 simp only [bj,ae,Option.isNone_some,cond_false]
 refine ⟨fun w H'=>H'=H∧∃ i:Nat,w=[.int .i64 i]∧i<=l2∧∀ w∈ws.take i,dG w,fun w _=>match w with
  | [.int _ i]=>(l2-i).toNat
  | _=>0,⟨rfl,0,rfl,Nat.zero_le _,by simp⟩,?_⟩
 rintro w H1 ⟨rfl,i,rfl,hi,hall⟩ _
 refine ⟨_,rfl,bC (fun hlt=>?_) fun hlt=>?_⟩
 ·obtain ⟨p,rfl,hcell,hlt2⟩:=hk.int (i:=(i:Int)) (by omega) hlt
  rw [Int.toNat_natCast] at hcell hlt2
  have hx:ws.getD i 0=ws[i]:=by simp [hlt2]
  have htk:ws.take (i+1)=ws.take i++[ws[i]]:=by rw [List.take_add_one];simp [hlt2]
  have e:IntKind.wrap .i64 ((i:Int)+1)=((i+1:Nat):Int):=by rw [am (by omega) (by omega)];omega
  rw [hx] at hcell
  refine ⟨⟨by omega,hlt⟩,_,rfl,_,by rw [Int.toNat_natCast,Nat.mul_one];exact hcell,jL ⟨_,rfl,bC (fun h0=>?_) fun h0=>?_⟩⟩
  ·rw [if_pos ⟨ws[i],List.getElem_mem hlt2,fun hc=>hc h0⟩] at h
   exact h H1 _ hS0 (Up.refl _ _)
  ·rw [e]
   refine ⟨⟨rfl,i+1,rfl,by omega,?_⟩,by simp;omega⟩
   rw [htk]
   intro w hw
   rcases List.mem_append.1 hw with h4 | h4
   ·exact hall w h4
   ·simp only [List.mem_singleton] at h4;rw [h4];exact h0
 ·have htake:ws.take i=ws:=List.take_of_length_le (by omega)
  rw [htake] at hall
  rw [if_neg (by rintro ⟨w,h4,h5⟩;exact h5 (hall w h4))] at h
  have e:IntKind.wrap .i64 ((l:Int)+(l2:Int))=(l:Int)+l2:=am (by omega) (by omega)
  refine ⟨_,rfl,_,_,_,hc2,?_⟩
  rw [e]
  refine bC (fun hbig=>?_) fun hbig=>?_
  ·rw [if_pos (by omega)] at h;exact h H1 _ hS0 (Up.refl _ _)
  ·rw [if_neg (by omega)] at h
   refine ⟨_,rfl,_,_,_,hc2,?_⟩
   refine bY hs1 rfl (by kernel_rfl) hO hk cM (by omega) (by decide) (by decide) fun a' c' F3 H2 g1 g2 g3=>⟨_,_,_,rfl,?_⟩
   have hbF3:b∉F3:=fun hx=>by
    rcases g2.2 b hx with h4 | h4
    ·exact h2 h4
    ·have:=hlt0 b (by simp);omega
   have hB2:=hB.fr g2.1 h2
   refine ⟨_,rfl,hB2.wr (by simp),h _ (b :: (F1++F3)) ⟨hb,a',l+l2,c',F1,F3,po,b5,b6,b7,rfl,h1,hbF3,fun x hx hx2=>?_,hB2.set 2 (.slice a' (l+l2) c'),?_,?_,?_,ho⟩ ⟨?_,fun x hx=>?_⟩⟩
   ·rcases g2.2 x hx2 with h4 | h4
    ·exact h3 x hx h4
    ·have:=hlt0 x (by simp [hx]);omega
   ·exact (hR.fr g2.1 h3).fr (Fr.set (F:=[b]) (by simp)) (fun x hx hn=>h1 (by simp only [List.mem_singleton] at hn;rw [←hn];exact hx))
   ·have h5:=g1.fr (G:=[b]) (Fr.set (a:=⟨b,2,none⟩) (v:=.slice a' (l+l2) c') (by simp)) (fun x hx hn=>hbF3 (by simp only [List.mem_singleton] at hn;rw [←hn];exact hx))
    simp only
    rw [bt];exact h5
   ·refine { hw with many:=by simp;omega,words:=fun w hw'=>?_ }
    rcases List.mem_append.1 hw' with h4 | h4
    ·exact hw.words w h4
    ·exact hall w h4
   ·exact (g2.1.mono fun x hx=>by simp [hx]).step (by simp)
   ·rcases List.mem_cons.1 hx with rfl | hx
    ·exact .inl (by simp)
    ·rcases List.mem_append.1 hx with hx | hx
     ·exact .inl (by simp [hx])
     ·exact (g2.2 x hx).imp (fun h4=>by simp [h4]) id
theorem sW (hS:kC H b F s){n:Int} (h:∀ H' F',kC H' b F' (s.drop n).2->Up F H F' H'->Q (.int .i64 (s.drop n).1) H'):ah PP Iz #[.pointer (some ⟨b,0,none⟩),.int .i64 n] Q H:=by
 have hS0:=hS
 have hlt0:=hS.lt
 obtain ⟨hb,a,l,c,F1,F2,po,b5,b6,b7,rfl,h1,h2,h3,hB,hR,hO,hw,ho⟩:=hS
 have hc2:ac H ⟨b,2,none⟩=some (.slice a l c):=hB.cell 2
 have hl:l=s.stack.length:=by have:=hO.len;simpa [aq] using this.symm
 have hm:=hw.many
 have hlc:=hO.2.1
 have hs1:aF PP 108=some (1,8,some (.int .i64 0)):=by kernel_rfl
 apply Dn
 unfold NM iV wW lV
 unfold SP.drop at h
 simp only [ae,Option.isNone_some,cond_false]
 refine bC (fun h4=>?_) fun h4=>?_
 ·rw [if_pos (.inl h4)] at h;exact h H _ hS0 (Up.refl _ _)
 refine ⟨_,rfl,_,_,_,hc2,bC (fun h5=>?_) fun h5=>?_⟩
 ·rw [if_pos (by omega)] at h;exact h H _ hS0 (Up.refl _ _)
 rw [if_neg (by omega)] at h
 have e:IntKind.wrap .i64 ((l:Int)-n)=(l:Int)-n:=am (by omega) (by omega)
 refine ⟨_,rfl,_,_,_,hc2,_,rfl,_,_,_,hc2,⟨by rw [e];omega,by rw [e];omega⟩,?_⟩
 rw [e]
 have hln:((l:Int)-n).toNat=s.stack.length-n.toNat:=by omega
 rw [hln]
 have hrd:Rd 1 H a (s.stack.length-n.toNat) (aq (s.stack.take (s.stack.length-n.toNat))):=by
  have hr:=hO.rd
  refine ⟨by simp [aq],fun ha=>by have:=hr.2.1 ha;omega,fun p hp i hi=>?_⟩
  rw [hr.2.2 p hp i (by omega)]
  simp only [aq,List.map_take]
  rw [List.getElem?_take_of_lt (by omega)]
 refine bY hs1 rfl (by kernel_rfl) (bv.nil 1 H) hrd cM (by omega) (by decide) (by decide) fun a' c' F3 H2 g1 g2 g3=>⟨_,_,_,rfl,trivial,?_⟩
 have hF3:∀ x∈F3,H.size<=x:=fun x hx=>(g2.2 x hx).resolve_left (by simp)
 have hbF3:b∉F3:=fun hx=>by have:=hF3 b hx;have:=hlt0 b (by simp);omega
 have hB2:=hB.fr g2.1 (by simp)
 refine ⟨_,rfl,hB2.wr (by simp),trivial,h _ (b :: (F1++F3)) ⟨hb,a',0+(s.stack.length-n.toNat),c',F1,F3,po,b5,b6,b7,rfl,h1,hbF3,fun x hx hx2=>?_,hB2.set 2 _,?_,?_,?_,ho⟩ ⟨?_,fun x hx=>?_⟩⟩
 ·have:=hF3 x hx2;have:=hlt0 x (by simp [hx]);omega
 ·exact (hR.fr g2.1 (bi.nil_right _)).fr (Fr.set (F:=[b]) (by simp)) (fun x hx hn=>h1 (by simp only [List.mem_singleton] at hn;rw [←hn];exact hx))
 ·have h5:=g1.fr (G:=[b]) (Fr.set (a:=⟨b,2,none⟩) (v:=.slice a' (0+(s.stack.length-n.toNat)) c') (by simp)) (fun x hx hn=>hbF3 (by simp only [List.mem_singleton] at hn;rw [←hn];exact hx))
  simpa using h5
 ·exact { hw with many:=by simp;omega,words:=fun w hw'=>hw.words w (List.mem_of_mem_take hw') }
 ·exact (g2.1.of_nil).step (by simp)
 ·rcases List.mem_cons.1 hx with rfl | hx
  ·exact .inl (by simp)
  ·rcases List.mem_append.1 hx with hx | hx
   ·exact .inl (by simp [hx])
   ·exact .inr (hF3 x hx)
def i7 (r:RH) (k:Int):Int:=match aH r.objs k with
 | some o=>o.len
 | none=>2
theorem vB {r:RH} (hw:WFH r) (k:Int):0<=i7 r k∧i7 r k<=8200:=by
 unfold i7
 cases ho:aH r.objs k with
 | none=>simp
 | some o =>
  have hm:=(hw.objs.good o (aM ho).1).many
  have h1:=gR (n:=(o.slots.length:Int)) (fmt:=o.fmt) (by omega)
  have h2:=o.len_pos
  have h3:o.len=lenOf o.slots.length o.fmt:=rfl
  simp only
  omega
theorem En {r:RH} (hw:WFH r):∀ l:List Int,0<=(l.map (i7 r)).sum∧(l.map (i7 r)).sum<=8200*l.length
 | []=>by simp
 | k :: l=>by
  have h1:=En hw l
  have h2:=vB hw k
  simp only [List.map_cons,List.sum_cons,List.length_cons]
  push_cast
  omega
theorem zi (hS:kC H b F s) (h:∀ H',Fr [] H H'->Q (mP s.room) H'):ah PP Nx #[.pointer (some ⟨b,0,none⟩)] Q H:=by
 have hS0:=hS
 obtain ⟨hb,a,l,c,F1,F2,po,b5,b6,b7,rfl,h1,h2,h3,hB,hR,hO,hw,ho⟩:=hS
 have hc0:ac H ⟨b,0,none⟩=some (.pointer (some ⟨hb,0,none⟩)):=hB.cell 0
 have hw1:=hw.h.w1
 have hw0:=hw.h.w0
 have ho0:=hw.h.o0
 have ho1:=hw.h.o1
 have hal:=RH.all_len hw.h
 have hcnt:=eh hw.h.objs
 have hen:=bO hw.h.objs hw.h.w0
 apply Ev
 unfold RG iV wW pV lV cS
 simp only [ae,Option.isNone_some,cond_false]
 refine ⟨_,rfl,_,hc0,?_⟩
 refine mj hS0 fun ar lr cr G H1 hor hf hG=>?_
 have hc01:ac H1 ⟨b,0,none⟩=some (.pointer (some ⟨hb,0,none⟩)):=(hB.fr hf (by simp)).cell 0
 refine ⟨_,_,_,rfl,⟨⟨hc01,trivial⟩,trivial⟩,?_⟩
 have hlr:lr=s.stack.length+1:=by have:=hor.len;simpa [aq,SP.roots] using this.symm
 have hm:=hw.many
 refine sg (hR.fr hf (bi.nil_right _)) hor.rd (by omega) fun a2 l2 c2 G2 H2 ho2 hf2 hG2=>⟨_,_,_,_,rfl,trivial,?_⟩
 have hf12:=hf.trans hf2
 have hB2:=hB.fr hf12 (by simp)
 have hR2:=hR.fr hf12 (bi.nil_right _)
 have hc02:ac H2 ⟨b,0,none⟩=some (.pointer (some ⟨hb,0,none⟩)):=hB2.cell 0
 have hhw:ac H2 ⟨hb,0,none⟩=some (.int .i64 s.h.words)∧ac H2 ⟨hb,1,none⟩=some (.int .i64 s.h.oops):=by
  obtain ⟨_,_,_,_,_,_,hBr,_⟩:=hR2
  exact ⟨hBr.cell 0,hBr.cell 1⟩
 have hl2:l2=(s.h.reach s.roots).length:=by have:=ho2.len;simpa [aq] using this.symm
 have hlb:(s.h.reach s.roots).length<=s.h.all.length:=List.length_filter_le _ _
 have hthere:∀ k∈s.h.reach s.roots,aH s.h.objs k≠none:=fun k hk=>((RH.mem_reach hw.h).1 hk).there
 refine ⟨_,rfl,_,hc02,_,rfl,_,hhw.1,?_⟩
 refine ⟨fun w H'=>H'=H2∧∃ i:Nat,w=[.int .i64 (s.h.words-(((s.h.reach s.roots).take i).map (i7 s.h)).sum),.int .i64 i]∧i<=l2,fun w _=>match w with
  | [_,.int _ i]=>(l2-i).toNat
  | _=>0,⟨rfl,0,by simp,Nat.zero_le _⟩,?_⟩
 rintro w H3 ⟨rfl,i,rfl,hi⟩ _
 refine ⟨_,_,rfl,bC (fun hlt=>?_) fun hlt=>?_⟩
 ·obtain ⟨p,rfl,hcell,hlt2⟩:=ho2.rd.int (i:=(i:Int)) (by omega) hlt
  rw [Int.toNat_natCast] at hcell hlt2
  have hx:(s.h.reach s.roots).getD i 0=(s.h.reach s.roots)[i]:=by simp [hlt2]
  have htk:(s.h.reach s.roots).take (i+1)=(s.h.reach s.roots).take i++[(s.h.reach s.roots)[i]]:=by rw [List.take_add_one];simp [hlt2]
  have hmem:(s.h.reach s.roots)[i]∈s.h.reach s.roots:=List.getElem_mem hlt2
  rw [hx] at hcell
  generalize (s.h.reach s.roots)[i]=k at *
  refine ⟨_,rfl,_,hc02,⟨by omega,hlt⟩,_,rfl,_,by rw [Int.toNat_natCast,Nat.mul_one];exact hcell,rN hR2 ?_⟩
  obtain ⟨o,hoo⟩:∃ o,aH s.h.objs k=some o:=by
   cases h4:aH s.h.objs k with
   | none=>exact absurd h4 (hthere k hmem)
   | some o=>exact ⟨o,rfl⟩
  have hsz:s.h.size k=((o.slots.length:Int),o.fmt,0):=by unfold RH.size;rw [hoo]
  have hla:i7 s.h k=o.len:=by unfold i7;rw [hoo]
  have hlb2:=vB hw.h k
  have hmany:=(hw.h.objs.good o (aM hoo).1).many
  rw [hsz]
  refine ⟨_,_,_,rfl,trivial,jD (by omega) (by simp only;omega) ⟨_,rfl,?_⟩⟩
  have hsb:=En hw.h ((s.h.reach s.roots).take i)
  have htl:((s.h.reach s.roots).take i).length<=l2:=by rw [List.length_take];omega
  have e1:IntKind.wrap .i64 ((i:Int)+1)=((i+1:Nat):Int):=by rw [am (by omega) (by omega)];omega
  have e2:IntKind.wrap .i64 (s.h.words-(((s.h.reach s.roots).take i).map (i7 s.h)).sum-lenOf (o.slots.length:Int) o.fmt)=s.h.words-(((s.h.reach s.roots).take (i+1)).map (i7 s.h)).sum:=by
   rw [htk,List.map_append,List.sum_append]
   simp only [List.map_cons,List.map_nil,List.sum_cons,List.sum_nil,Int.add_zero]
   have:lenOf (o.slots.length:Int) o.fmt=i7 s.h k:=hla.symm
   rw [this,am (by omega) (by omega)]
   omega
  rw [e1]
  simp only
  rw [e2]
  exact ⟨⟨trivial,i+1,rfl,by omega⟩,by simp;omega⟩
 ·refine ⟨_,rfl,_,hc02,_,rfl,_,hhw.2,?_⟩
  have e:IntKind.wrap .i64 (s.h.oops-(l2:Int))=s.h.oops-(l2:Int):=am (by omega) (by omega)
  rw [e,List.take_of_length_le (by omega)]
  have:=h H3 hf12
  have hr:s.room=(s.h.words-((s.h.reach s.roots).map (i7 s.h)).sum,s.h.oops-(l2:Int)):=by
   unfold SP.room SP.reach
   rw [hl2]
   rfl
  rw [hr] at this
  exact this
end
variable {Q:QT}{H:aj}
abbrev PW:Nat:=21
def QP (p1:Option Addr) (n2:Int) (Q:QT) (H:aj):Prop :=
 ah PP 98 #[pV p1] (fun v3 H1=>∃ b4,v3=.bool b4∧cond b4 (Q (iV 2) H1) (cS 99 #[iV n2,iV 1073741824] (fun v5 H2=>∃ b6,v5=.bool b6∧cond (!b6) (Q (iV 1) H2) (∃ q7,p1=some q7∧Wr H2 (q7.add 6)∧Q (iV 0) (au H2 (q7.add 6) (iV n2)))) H1)) H
theorem Ey {p1:Option Addr}{n2:Int} (h:QP p1 n2 Q H):ah PP 21 #[.pointer p1,.int .i64 n2] Q H :=
 okF Tryz.func21 rfl h
abbrev yb:Nat:=49
def QR (p1:Option Addr) (n2:Int) (n3:Int) (n4:Int) (Q:QT) (H:aj):Prop :=
 ∃ J5:IT,(cS 98 #[pV p1] (fun v6 H1=>∃ b7,v6=.bool b7∧cond b7 (Q (.tuple #[iV 0,iV 2]) H1) (cS 160 #[iV n2] (fun v8 H2=>∃ b9,v8=.bool b9∧cond (!b9) (Q (.tuple #[iV 0,iV 1]) H2) (cond (n4 != 0) (cond (n4 != 1) (Q (.tuple #[iV 0,iV 1]) H2) (cond (decide (n3<0)) (Q (.tuple #[iV 0,iV 1]) H2) (cond (decide (n3 > 8192)) (Q (.tuple #[iV 0,iV 22]) H2) (∃ q10,p1=some q10∧∃ n11,ac H2 (q10.add 3)=some (iV n11)∧∃ q12,p1=some q12∧∃ a13 l13 c13,ac H2 (q12.add 1)=some (lV a13 l13 c13)∧cond (decide (n11 ≥ (wW ((l13:Int)-1)))) (Q (.tuple #[iV 0,iV 23]) H2) (∃ q14,p1=some q14∧∃ a15 l15 c15,ac H2 q14=some (lV a15 l15 c15)∧∃ q16,p1=some q16∧∃ n17,ac H2 (q16.add 4)=some (iV n17)∧cS 161 #[iV n3,iV n4] (fun v18 H3=>∃ n19,v18=iV n19∧((ac H3 (q16.add 4)=some (iV n17)∧True)∧((ac H3 q14=some (lV a15 l15 c15)∧True)∧True))∧cond (decide (n19 > (wW ((l15:Int)-n17)))) (Q (.tuple #[iV 0,iV 23]) H3) (∃ q20,p1=some q20∧∃ n21,ac H3 (q20.add 6)=some (iV n21)∧cond (n21 == 1) (∃ q22,p1=some q22∧Wr H3 (q22.add 6)∧Q (.tuple #[iV 0,iV 24]) (au H3 (q22.add 6) (iV 0))) (∃ q23,p1=some q23∧∃ n24,ac H3 (q23.add 6)=some (iV n24)∧cond (decide (n24 > 0)) (∃ q25,p1=some q25∧∃ n26,ac H3 (q25.add 6)=some (iV n26)∧∃ q27,p1=some q27∧Wr H3 (q27.add 6)∧J5 [] (au H3 (q27.add 6) (iV (wW (n26-1))))) (J5 [] H3)))) H2))))) (cond (decide (n3<0)) (Q (.tuple #[iV 0,iV 1]) H2) (cond (decide (n3 > 8192)) (Q (.tuple #[iV 0,iV 22]) H2) (∃ q28,p1=some q28∧∃ n29,ac H2 (q28.add 3)=some (iV n29)∧∃ q30,p1=some q30∧∃ a31 l31 c31,ac H2 (q30.add 1)=some (lV a31 l31 c31)∧cond (decide (n29 ≥ (wW ((l31:Int)-1)))) (Q (.tuple #[iV 0,iV 23]) H2) (∃ q32,p1=some q32∧∃ a33 l33 c33,ac H2 q32=some (lV a33 l33 c33)∧∃ q34,p1=some q34∧∃ n35,ac H2 (q34.add 4)=some (iV n35)∧cS 161 #[iV n3,iV n4] (fun v36 H4=>∃ n37,v36=iV n37∧((ac H4 (q34.add 4)=some (iV n35)∧True)∧((ac H4 q32=some (lV a33 l33 c33)∧True)∧True))∧cond (decide (n37 > (wW ((l33:Int)-n35)))) (Q (.tuple #[iV 0,iV 23]) H4) (∃ q38,p1=some q38∧∃ n39,ac H4 (q38.add 6)=some (iV n39)∧cond (n39 == 1) (∃ q40,p1=some q40∧Wr H4 (q40.add 6)∧Q (.tuple #[iV 0,iV 24]) (au H4 (q40.add 6) (iV 0))) (∃ q41,p1=some q41∧∃ n42,ac H4 (q41.add 6)=some (iV n42)∧cond (decide (n42 > 0)) (∃ q43,p1=some q43∧∃ n44,ac H4 (q43.add 6)=some (iV n44)∧∃ q45,p1=some q45∧Wr H4 (q45.add 6)∧J5 [] (au H4 (q45.add 6) (iV (wW (n44-1))))) (J5 [] H4)))) H2)))))) H1)) H)∧∀ w46 H5,J5 w46 H5->∀ _g:Nat->Value,w46=[]∧∃ q47,p1=some q47∧∃ n48,ac H5 (q47.add 5)=some (iV n48)∧∃(I49:IT) (μ49:MT),I49 [iV n48] H5∧∀ w50 H6,I49 w50 H6->∀ _g:Nat->Value,∃ n51,w50=[iV n51]∧∃ q52,p1=some q52∧∃ a53 l53 c53,ac H6 (q52.add 1)=some (lV a53 l53 c53)∧((0:Int)<=n51∧n51<(l53:Int))∧∃ q54,a53=some q54∧∃ n55,ac H6 (q54.add (Int.toNat n51*1))=some (iV n55)∧cond (decide (n55 ≥ 0)) (I49 [iV (wW (n51+1))] H6∧μ49 [iV (wW (n51+1))] H6<μ49 w50 H6) (∃ q56,shH (au H6 (q56.add 5) (iV (wW (n51+1)))) fun C1=>p1=some q56∧Wr H6 (q56.add 5)∧∃ q57,p1=some q57∧∃ a58 l58 c58,ac C1 q57=some (lV a58 l58 c58)∧∃ q59,p1=some q59∧∃ n60,ac C1 (q59.add 4)=some (iV n60)∧∃ q61,p1=some q61∧∃ n62,ac C1 (q61.add 4)=some (iV n62)∧cS 161 #[iV n3,iV n4] (fun v63 H7=>∃ n64,v63=iV n64∧((ac H7 (q61.add 4)=some (iV n62)∧True)∧((ac H7 (q59.add 4)=some (iV n60)∧True)∧((ac H7 q57=some (lV a58 l58 c58)∧True)∧True)))∧(((0:Int)<=(wW (n62+n64))∧(wW (n62+n64))<=(c58:Int))∧(0:Int)<=(wW (n60+2))∧(wW (n60+2))<=(wW (n62+n64)))∧bk PP (Builtin.clear_ #[108] 0 #[lV (gl a58 c58 (wW (n60+2)) 1) (Int.toNat (wW (n62+n64))-Int.toNat (wW (n60+2))) (c58-Int.toNat (wW (n60+2)))]) (fun v65 H8=>cond (n4 == 0) (∃(I66:IT) (μ66:MT),I66 [iV 0] H8∧∀ w67 H9,I66 w67 H9->∀ _g:Nat->Value,∃ n68,w67=[iV n68]∧cond (decide (n68<(((Int.toNat (wW (n62+n64))-Int.toNat (wW (n60+2))):Nat):Int))) (((0:Int)<=n68∧n68<(((Int.toNat (wW (n62+n64))-Int.toNat (wW (n60+2))):Nat):Int))∧∃ q69,(gl a58 c58 (wW (n60+2)) 1)=some q69∧Wr H9 (q69.add (Int.toNat n68*1))∧I66 [iV (wW (n68+1))] (au H9 (q69.add (Int.toNat n68*1)) (iV 4))∧μ66 [iV (wW (n68+1))] (au H9 (q69.add (Int.toNat n68*1)) (iV 4))<μ66 w67 H9) (cS 162 #[pV p1,iV n51,iV n2,iV n3,iV n4] (fun v70 H10=>∃ n71,v70=iV n71∧Q (.tuple #[iV n51,iV 0]) H10) H9)) (cS 162 #[pV p1,iV n51,iV n2,iV n3,iV n4] (fun v72 H11=>∃ n73,v72=iV n73∧Q (.tuple #[iV n51,iV 0]) H11) H8)) H7) C1)
theorem Gz {p1:Option Addr}{n2:Int}{n3:Int}{n4:Int} (h:QR p1 n2 n3 n4 Q H):ah PP 49 #[.pointer p1,.int .i64 n2,.int .i64 n3,.int .i64 n4] Q H :=
 aN good Tryz.func49 rfl (Ls:=fun | 1014=>some [] | 15=>some [(10,3)] | 22=>some [(127,3)] | _=>none) (by kernel_rfl) h
abbrev D2:Nat:=81
def Rj (p1:Option Addr) (Q:QT) (H:aj):Prop :=
 cond (Option.isNone p1) (Q (iV 0) H) (∃ q2,p1=some q2∧∃ n3,ac H (q2.add 6)=some (iV n3)∧Q (iV n3) H)
theorem II {p1:Option Addr} (h:Rj p1 Q H):ah PP 81 #[.pointer p1] Q H :=
 okF Tryz.func81 rfl h
abbrev NT:Nat:=98
def RP (p1:Option Addr) (Q:QT) (H:aj):Prop :=
 cond (Option.isNone p1) (Q (.bool true) H) (∃ q2,p1=some q2∧∃ a3 l3 c3,ac H (q2.add 1)=some (lV a3 l3 c3)∧Q (.bool (Option.isNone a3)) H)
theorem IU {p1:Option Addr} (h:RP p1 Q H):ah PP 98 #[.pointer p1] Q H :=
 okF Tryz.func98 rfl h
abbrev Lg:Nat:=99
def RR (n1:Int) (n2:Int) (Q:QT) (H:aj):Prop :=
 cond (decide ((0:Int)<=n1)) (Q (.bool (decide (n1<=n2))) H) (Q (.bool false) H)
theorem EV {n1:Int}{n2:Int} (h:RR n1 n2 Q H):ah PP 99 #[.int .i64 n1,.int .i64 n2] Q H :=
 okF Tryz.func99 rfl h
abbrev yl:Nat:=137
def Mp (p1:Option Addr) (n2:Int) (Q:QT) (H:aj):Prop :=
 ah PP 228 #[pV p1,iV n2] (fun v3 H1=>∃ n4 n5,v3=.tuple #[iV n4,iV n5]∧cond (n5 != 0) (Q (.tuple #[iV 0,iV n5]) H1) (∃ q6,p1=some q6∧∃ a7 l7 c7,ac H1 q6=some (lV a7 l7 c7)∧((0:Int)<=n4∧n4<(l7:Int))∧∃ q8,a7=some q8∧∃ n9,ac H1 (q8.add (Int.toNat n4*1))=some (iV n9)∧Q (.tuple #[iV n9,iV 0]) H1)) H
theorem BL {p1:Option Addr}{n2:Int} (h:Mp p1 n2 Q H):ah PP 137 #[.pointer p1,.int .i64 n2] Q H :=
 okF Tryz.func137 rfl h
abbrev GD:Nat:=140
def NQ (p1:Option Addr) (n2:Int) (n3:Int) (n4:Int) (Q:QT) (H:aj):Prop :=
 ah PP 231 #[pV p1,iV n2,iV n3] (fun v5 H1=>∃ n6 n7 n8 n9,v5=.tuple #[iV n6,iV n7,iV n8,iV n9]∧cond (n9 != 0) (Q (iV n9) H1) (cS 232 #[iV n4,iV n8] (fun v10 H2=>∃ b11,v10=.bool b11∧cond (!b11) (Q (iV 10) H2) (cond (n8 == 1) (∃ q12,p1=some q12∧∃ a13 l13 c13,ac H2 q12=some (lV a13 l13 c13)∧((0:Int)<=n6∧n6<(l13:Int))∧∃ q14,a13=some q14∧∃ n15,ac H2 (q14.add (Int.toNat n6*1))=some (iV n15)∧cond (decide (n7<0)) False (cond (decide (n7<0)) False (∃ q16,p1=some q16∧∃ a17 l17 c17,ac H2 q16=some (lV a17 l17 c17)∧((0:Int)<=n6∧n6<(l17:Int))∧∃ q18,a17=some q18∧Wr H2 (q18.add (Int.toNat n6*1))∧Q (iV 0) (au H2 (q18.add (Int.toNat n6*1)) (iV (Am .i64 (B9 .i64 n15 (kS .i64 255 n7)) (kS .i64 n4 n7))))))) (∃ q19,p1=some q19∧∃ a20 l20 c20,ac H2 q19=some (lV a20 l20 c20)∧((0:Int)<=n6∧n6<(l20:Int))∧∃ q21,a20=some q21∧Wr H2 (q21.add (Int.toNat n6*1))∧Q (iV 0) (au H2 (q21.add (Int.toNat n6*1)) (iV n4))))) H1)) H
theorem BT {p1:Option Addr}{n2:Int}{n3:Int}{n4:Int} (h:NQ p1 n2 n3 n4 Q H):ah PP 140 #[.pointer p1,.int .i64 n2,.int .i64 n3,.int .i64 n4] Q H :=
 okF Tryz.func140 rfl h
abbrev IQ:Nat:=159
def Qj (n1:Int) (n2:Int) (Q:QT) (H:aj):Prop :=
 ah PP 99 #[iV n1,iV 1048576] (fun v3 H1=>∃ b4,v3=.bool b4∧cond (!b4) (Q (.tuple #[pV none,iV 1]) H1) (cS 99 #[iV n2,iV 65536] (fun v5 H2=>∃ b6,v5=.bool b6∧cond (!b6) (Q (.tuple #[pV none,iV 1]) H2) (∃ J7:IT,((bk PP (Instr.makeSlice 108 (iV n1) (iV n1)) (fun v8 H3=>∃ a9 l9 c9,v8=lV a9 l9 c9∧True∧(bk PP (Instr.makeSlice 66 (iV (wW (n2+1))) (iV (wW (n2+1)))) (fun v10 H4=>∃ a11 l11 c11,v10=lV a11 l11 c11∧True∧bk PP (Instr.makeSlice 66 (iV (wW (n2+1))) (iV (wW (n2+1)))) (fun v12 H5=>∃ a13 l13 c13,v12=lV a13 l13 c13∧True∧True∧J7 [pV (some (A0 H5.size))] (H5.push (.cells #[lV a9 l9 c9,lV a11 l11 c11,lV a13 l13 c13,iV 0,iV 0,iV 1,iV 0,iV 0,iV 0] 154))) H4) H3)∧(bk PP (Instr.makeSlice 66 (iV (wW (n2+1))) (iV (wW (n2+1)))) (fun v14 H6=>∃ a15 l15 c15,v14=lV a15 l15 c15∧True∧bk PP (Instr.makeSlice 66 (iV (wW (n2+1))) (iV (wW (n2+1)))) (fun v16 H7=>∃ a17 l17 c17,v16=lV a17 l17 c17∧True∧True∧J7 [pV (some (A0 H7.size))] (H7.push (.cells #[lV a9 l9 c9,lV a17 l17 c17,lV a15 l15 c15,iV 0,iV 0,iV 1,iV 0,iV 0,iV 0] 154))) H6) H3)) H2)∧(bk PP (Instr.makeSlice 66 (iV (wW (n2+1))) (iV (wW (n2+1)))) (fun v18 H8=>∃ a19 l19 c19,v18=lV a19 l19 c19∧True∧(bk PP (Instr.makeSlice 108 (iV n1) (iV n1)) (fun v20 H9=>∃ a21 l21 c21,v20=lV a21 l21 c21∧True∧bk PP (Instr.makeSlice 66 (iV (wW (n2+1))) (iV (wW (n2+1)))) (fun v22 H10=>∃ a23 l23 c23,v22=lV a23 l23 c23∧True∧True∧J7 [pV (some (A0 H10.size))] (H10.push (.cells #[lV a21 l21 c21,lV a19 l19 c19,lV a23 l23 c23,iV 0,iV 0,iV 1,iV 0,iV 0,iV 0] 154))) H9) H8)∧(bk PP (Instr.makeSlice 66 (iV (wW (n2+1))) (iV (wW (n2+1)))) (fun v24 H11=>∃ a25 l25 c25,v24=lV a25 l25 c25∧True∧bk PP (Instr.makeSlice 108 (iV n1) (iV n1)) (fun v26 H12=>∃ a27 l27 c27,v26=lV a27 l27 c27∧True∧True∧J7 [pV (some (A0 H12.size))] (H12.push (.cells #[lV a27 l27 c27,lV a19 l19 c19,lV a25 l25 c25,iV 0,iV 0,iV 1,iV 0,iV 0,iV 0] 154))) H11) H8)) H2)∧(bk PP (Instr.makeSlice 66 (iV (wW (n2+1))) (iV (wW (n2+1)))) (fun v28 H13=>∃ a29 l29 c29,v28=lV a29 l29 c29∧True∧(bk PP (Instr.makeSlice 108 (iV n1) (iV n1)) (fun v30 H14=>∃ a31 l31 c31,v30=lV a31 l31 c31∧True∧bk PP (Instr.makeSlice 66 (iV (wW (n2+1))) (iV (wW (n2+1)))) (fun v32 H15=>∃ a33 l33 c33,v32=lV a33 l33 c33∧True∧True∧J7 [pV (some (A0 H15.size))] (H15.push (.cells #[lV a31 l31 c31,lV a33 l33 c33,lV a29 l29 c29,iV 0,iV 0,iV 1,iV 0,iV 0,iV 0] 154))) H14) H13)∧(bk PP (Instr.makeSlice 66 (iV (wW (n2+1))) (iV (wW (n2+1)))) (fun v34 H16=>∃ a35 l35 c35,v34=lV a35 l35 c35∧True∧bk PP (Instr.makeSlice 108 (iV n1) (iV n1)) (fun v36 H17=>∃ a37 l37 c37,v36=lV a37 l37 c37∧True∧True∧J7 [pV (some (A0 H17.size))] (H17.push (.cells #[lV a37 l37 c37,lV a35 l35 c35,lV a29 l29 c29,iV 0,iV 0,iV 1,iV 0,iV 0,iV 0] 154))) H16) H13)) H2))∧∀ w38 H18,J7 w38 H18->∀ _g:Nat->Value,∃ p39,w38=[pV p39]∧∃ q40,p39=some q40∧∃ a41 l41 c41,ac H18 (q40.add 1)=some (lV a41 l41 c41)∧∃(I42:IT) (μ42:MT),I42 [iV 0] H18∧∀ w43 H19,I42 w43 H19->∀ _g:Nat->Value,∃ n44,w43=[iV n44]∧cond (decide (n44<(l41:Int))) (∃ q45,p39=some q45∧∃ a46 l46 c46,ac H19 (q45.add 1)=some (lV a46 l46 c46)∧((0:Int)<=n44∧n44<(l46:Int))∧∃ q47,a46=some q47∧Wr H19 (q47.add (Int.toNat n44*1))∧I42 [iV (wW (n44+1))] (au H19 (q47.add (Int.toNat n44*1)) (iV (-1)))∧μ42 [iV (wW (n44+1))] (au H19 (q47.add (Int.toNat n44*1)) (iV (-1)))<μ42 w43 H19) (Q (.tuple #[pV p39,iV 0]) H19))) H1)) H
theorem DA {n1:Int}{n2:Int} (h:Qj n1 n2 Q H):ah PP 159 #[.int .i64 n1,.int .i64 n2] Q H :=
 aN good Tryz.func159 rfl (Ls:=fun | 1004=>some [(6,46)] | 5=>some [(31,3)] | _=>none) (by kernel_rfl) h
abbrev ES:Nat:=160
def Lj (n1:Int) (Q:QT) (H:aj):Prop :=
 ah PP 165 #[iV n1] (fun v2 H1=>∃ n3,v2=iV n3∧Q (.bool (n3 != 0)) H1) H
theorem AR {n1:Int} (h:Lj n1 Q H):ah PP 160 #[.int .i64 n1] Q H :=
 okF Tryz.func160 rfl h
abbrev Hg:Nat:=161
def MM (n1:Int) (n2:Int) (Q:QT) (H:aj):Prop :=
 cond (n2 == 1) (Q (iV (wW (2+(wW (Int.tdiv (wW ((wW (n1+4))-1)) 4))))) H) (Q (iV (wW (2+n1))) H)
theorem Cd {n1:Int}{n2:Int} (h:MM n1 n2 Q H):ah PP 161 #[.int .i64 n1,.int .i64 n2] Q H :=
 okF Tryz.func161 rfl h
abbrev yD:Nat:=162
def Pg (p1:Option Addr) (n2:Int) (n3:Int) (n4:Int) (n5:Int) (Q:QT) (H:aj):Prop :=
 ∃ q6,p1=some q6∧∃ n7,ac H (q6.add 4)=some (iV n7)∧∃ q8,p1=some q8∧∃ a9 l9 c9,ac H q8=some (lV a9 l9 c9)∧∃ q10,p1=some q10∧∃ a11 l11 c11,ac H q10=some (lV a11 l11 c11)∧((0:Int)<=n7∧n7<(l9:Int))∧∃ q12,a9=some q12∧Wr H (q12.add (Int.toNat n7*1))∧True∧((0:Int)<=(wW (n7+1))∧(wW (n7+1))<(l11:Int))∧∃ q13,shH (au (au H (q12.add (Int.toNat n7*1)) (iV n3)) (q13.add (Int.toNat (wW (n7+1))*1)) (iV (Am .i64 (kS .i64 n4 1) n5))) fun C1=>a11=some q13∧Wr (au H (q12.add (Int.toNat n7*1)) (iV n3)) (q13.add (Int.toNat (wW (n7+1))*1))∧True∧∃ q14,p1=some q14∧∃ a15 l15 c15,ac C1 (q14.add 1)=some (lV a15 l15 c15)∧∃ q16,p1=some q16∧∃ a17 l17 c17,ac C1 (q16.add 2)=some (lV a17 l17 c17)∧∃ q18,p1=some q18∧∃ n19,ac C1 (q18.add 7)=some (iV n19)∧((0:Int)<=n2∧n2<(l15:Int))∧∃ q20,a15=some q20∧Wr C1 (q20.add (Int.toNat n2*1))∧True∧((0:Int)<=n2∧n2<(l17:Int))∧∃ q21,shH (au (au C1 (q20.add (Int.toNat n2*1)) (iV n7)) (q21.add (Int.toNat n2*1)) (iV n19)) fun C4=>a17=some q21∧Wr (au C1 (q20.add (Int.toNat n2*1)) (iV n7)) (q21.add (Int.toNat n2*1))∧True∧∃ q22,p1=some q22∧∃ n23,ac C4 (q22.add 4)=some (iV n23)∧cS 161 #[iV n4,iV n5] (fun v24 H1=>∃ n25,v24=iV n25∧((ac H1 (q22.add 4)=some (iV n23)∧True)∧True)∧∃ q26,shH (au H1 (q26.add 4) (iV (wW (n23+n25)))) fun C2=>p1=some q26∧Wr H1 (q26.add 4)∧True∧∃ q27,p1=some q27∧∃ n28,ac C2 (q27.add 7)=some (iV n28)∧∃ q29,shH (au C2 (q29.add 7) (iV (wW (n28+1)))) fun C3=>p1=some q29∧Wr C2 (q29.add 7)∧∃ q30,p1=some q30∧∃ n31,ac C3 (q30.add 3)=some (iV n31)∧∃ q32,p1=some q32∧Wr C3 (q32.add 3)∧Q (iV n7) (au C3 (q32.add 3) (iV (wW (n31+1))))) C4
theorem Cn {p1:Option Addr}{n2:Int}{n3:Int}{n4:Int}{n5:Int} (h:Pg p1 n2 n3 n4 n5 Q H):ah PP 162 #[.pointer p1,.int .i64 n2,.int .i64 n3,.int .i64 n4,.int .i64 n5] Q H :=
 okF Tryz.func162 rfl h
abbrev zp:Nat:=182
def LG (p1:Option Addr) (n2:Int) (Q:QT) (H:aj):Prop :=
 ah PP 228 #[pV p1,iV n2] (fun v3 H1=>∃ n4 n5,v3=.tuple #[iV n4,iV n5]∧cond (n5 != 0) (Q (.tuple #[iV 0,iV 0,iV n5]) H1) (cS 247 #[pV p1,iV n4] (fun v6 H2=>∃ n7 n8,v6=.tuple #[iV n7,iV n8]∧Q (.tuple #[iV n7,iV n8,iV 0]) H2) H1)) H
theorem DZ {p1:Option Addr}{n2:Int} (h:LG p1 n2 Q H):ah PP 182 #[.pointer p1,.int .i64 n2] Q H :=
 okF Tryz.func182 rfl h
abbrev Fv:Nat:=196
def LO (p1:Option Addr) (Q:QT) (H:aj):Prop :=
 ah PP 98 #[pV p1] (fun v2 H1=>shH (au (au H1 (A0 H.size) (iV 0)) ((A0 H.size).add 1) (iV 0)) fun C12=>shH (H1.push (.cells #[iV 0,iV 0,iV 0,lV none 0 0] 243)) fun C5=>shH (au (au C12 ((A0 H.size).add 2) (iV 0)) ((A0 H.size).add 3) (lV none 0 0)) fun C2=>∃ b3,v2=.bool b3∧cond b3 (Wr H1 (A0 H.size)∧Wr (au H1 (A0 H.size) (iV 0)) ((A0 H.size).add 1)∧Wr C12 ((A0 H.size).add 2)∧Wr (au C12 ((A0 H.size).add 2) (iV 0)) ((A0 H.size).add 3)∧∃ n4,ac C2 (A0 H.size)=some (iV n4)∧∃ n5,ac C2 ((A0 H.size).add 1)=some (iV n5)∧∃ n6,ac C2 ((A0 H.size).add 2)=some (iV n6)∧∃ a7 l7 c7,ac C2 ((A0 H.size).add 3)=some (lV a7 l7 c7)∧Q (.agg #[iV n4,iV n5,iV n6,lV a7 l7 c7]) C2) (∃ q8,p1=some q8∧∃ a9 l9 c9,ac H1 q8=some (lV a9 l9 c9)∧∃ q10,p1=some q10∧∃ a11:Option Addr,∃ l11:Nat,shH (au (au C5 (A0 H1.size) (iV (l9:Int))) ((A0 H1.size).add 1) (iV (wW ((l11:Int)-1)))) fun C3=>∃ c11,ac H1 (q10.add 1)=some (lV a11 l11 c11)∧∃ q12,p1=some q12∧∃ n13:Int,shH (au (au C3 ((A0 H1.size).add 2) (iV n13)) ((A0 H1.size).add 3) (lV none 0 0)) fun C13=>ac H1 (q12.add 6)=some (iV n13)∧((ac C5 (q12.add 6)=some (iV n13)∧True)∧((ac C5 (q10.add 1)=some (lV a11 l11 c11)∧True)∧((ac C5 q8=some (lV a9 l9 c9)∧True)∧True)))∧Wr C5 (A0 H1.size)∧Wr (au C5 (A0 H1.size) (iV (l9:Int))) ((A0 H1.size).add 1)∧Wr C3 ((A0 H1.size).add 2)∧Wr (au C3 ((A0 H1.size).add 2) (iV n13)) ((A0 H1.size).add 3)∧True∧∃ q14,p1=some q14∧∃ n15,ac C13 (q14.add 3)=some (iV n15)∧bk PP (Instr.makeSlice 241 (iV n15) (iV n15)) (fun v16 H2=>∃ a17 l17 c17,v16=lV a17 l17 c17∧Wr H2 ((A0 H1.size).add 3)∧cS 252 #[pV p1] (fun v18 H3=>∃ a19 l19 c19,v18=lV a19 l19 c19∧∃(I20:IT) (μ20:MT),I20 [iV 0] H3∧∀ w21 H4,I20 w21 H4->∀ _g:Nat->Value,∃ n22,w21=[iV n22]∧cond (decide (n22<(l19:Int))) (((0:Int)<=n22∧n22<(l19:Int))∧∃ q23,a19=some q23∧∃ n24,ac H4 (q23.add (Int.toNat n22*1))=some (iV n24)∧∃ q25,p1=some q25∧∃ a26 l26 c26,ac H4 (q25.add 1)=some (lV a26 l26 c26)∧((0:Int)<=n24∧n24<(l26:Int))∧∃ q27,a26=some q27∧∃ n28,ac H4 (q27.add (Int.toNat n24*1))=some (iV n28)∧cS 247 #[pV p1,iV n28] (fun v29 H5=>shH (H5.push (.cells #[iV 0,iV 0,iV 0,lV none 0 0] 246)) fun C10=>∃ n30 n31,v29=.tuple #[iV n30,iV n31]∧∃ q32,p1=some q32∧∃ a33 l33 c33,ac H5 q32=some (lV a33 l33 c33)∧∃ q34,p1=some q34∧∃ a35 l35 c35,ac H5 (q34.add 1)=some (lV a35 l35 c35)∧((0:Int)<=n24∧n24<(l35:Int))∧∃ q36,a35=some q36∧∃ n37,ac H5 (q36.add (Int.toNat n24*1))=some (iV n37)∧((0:Int)<=n37∧n37<(l33:Int))∧∃ q38,a33=some q38∧∃ n39,ac H5 (q38.add (Int.toNat n37*1))=some (iV n39)∧(bk PP (Instr.makeSlice 108 (iV n30) (iV n30)) (fun v40 H6=>shH (H6.push (.cells #[iV 0,iV 0,iV 0,lV none 0 0] 246)) fun C4=>shH (au (au C4 (A0 H6.size) (iV n24)) ((A0 H6.size).add 1) (iV n39)) fun C14=>shH (au C14 ((A0 H6.size).add 2) (iV n31)) fun C6=>∃ a41 l41 c41,v40=lV a41 l41 c41∧((ac H6 (q38.add (Int.toNat n37*1))=some (iV n39)∧True)∧((ac H6 (q36.add (Int.toNat n24*1))=some (iV n37)∧True)∧((ac H6 (q34.add 1)=some (lV a35 l35 c35)∧True)∧((ac H6 q32=some (lV a33 l33 c33)∧True)∧True))))∧((ac C4 (q38.add (Int.toNat n37*1))=some (iV n39)∧True)∧((ac C4 (q36.add (Int.toNat n24*1))=some (iV n37)∧True)∧((ac C4 (q34.add 1)=some (lV a35 l35 c35)∧True)∧((ac C4 q32=some (lV a33 l33 c33)∧True)∧True))))∧Wr C4 (A0 H6.size)∧Wr (au C4 (A0 H6.size) (iV n24)) ((A0 H6.size).add 1)∧Wr C14 ((A0 H6.size).add 2)∧Wr C6 ((A0 H6.size).add 3)∧True∧∃ a42 l42 c42,ac (au C6 ((A0 H6.size).add 3) (lV a41 l41 c41)) ((A0 H6.size).add 3)=some (lV a42 l42 c42)∧∃(I43:IT) (μ43:MT),I43 [iV 0] (au C6 ((A0 H6.size).add 3) (lV a41 l41 c41))∧∀ w44 H7,I43 w44 H7->∀ _g:Nat->Value,∃ n45,w44=[iV n45]∧cond (decide (n45<(l42:Int))) (∃ a46 l46 c46,ac H7 ((A0 H6.size).add 3)=some (lV a46 l46 c46)∧cS 233 #[pV p1,iV n24,iV n45] (fun v47 H8=>∃ n48 n49,v47=.tuple #[iV n48,iV n49]∧((ac H8 ((A0 H6.size).add 3)=some (lV a46 l46 c46)∧True)∧True)∧((0:Int)<=n45∧n45<(l46:Int))∧∃ q50,a46=some q50∧Wr H8 (q50.add (Int.toNat n45*1))∧True∧I43 [iV (wW (n45+1))] (au H8 (q50.add (Int.toNat n45*1)) (iV n48))∧μ43 [iV (wW (n45+1))] (au H8 (q50.add (Int.toNat n45*1)) (iV n48))<μ43 w44 H7) H7) (∃ a51 l51 c51,ac H7 ((A0 H1.size).add 3)=some (lV a51 l51 c51)∧∃ n52,ac H7 (A0 H6.size)=some (iV n52)∧∃ n53,ac H7 ((A0 H6.size).add 1)=some (iV n53)∧∃ n54,ac H7 ((A0 H6.size).add 2)=some (iV n54)∧∃ a55 l55 c55,ac H7 ((A0 H6.size).add 3)=some (lV a55 l55 c55)∧((0:Int)<=n22∧n22<(l51:Int))∧∃ q56,shH (au (au H7 (q56.add (Int.toNat n22*4)) (iV n52)) ((q56.add (Int.toNat n22*4)).add 1) (iV n53)) fun C17=>shH (au C17 ((q56.add (Int.toNat n22*4)).add 2) (iV n54)) fun C9=>a51=some q56∧Wr H7 (q56.add (Int.toNat n22*4))∧Wr (au H7 (q56.add (Int.toNat n22*4)) (iV n52)) ((q56.add (Int.toNat n22*4)).add 1)∧Wr C17 ((q56.add (Int.toNat n22*4)).add 2)∧Wr C9 ((q56.add (Int.toNat n22*4)).add 3)∧I20 [iV (wW (n22+1))] (au C9 ((q56.add (Int.toNat n22*4)).add 3) (lV a55 l55 c55))∧μ20 [iV (wW (n22+1))] (au C9 ((q56.add (Int.toNat n22*4)).add 3) (lV a55 l55 c55))<μ20 w21 H4)) H5)∧(((ac C10 (q38.add (Int.toNat n37*1))=some (iV n39)∧True)∧((ac C10 (q36.add (Int.toNat n24*1))=some (iV n37)∧True)∧((ac C10 (q34.add 1)=some (lV a35 l35 c35)∧True)∧((ac C10 q32=some (lV a33 l33 c33)∧True)∧True))))∧bk PP (Instr.makeSlice 108 (iV n30) (iV n30)) (fun v57 H9=>shH (au (au H9 (A0 H5.size) (iV n24)) ((A0 H5.size).add 1) (iV n39)) fun C15=>shH (au C15 ((A0 H5.size).add 2) (iV n31)) fun C7=>∃ a58 l58 c58,v57=lV a58 l58 c58∧((ac H9 (q38.add (Int.toNat n37*1))=some (iV n39)∧True)∧((ac H9 (q36.add (Int.toNat n24*1))=some (iV n37)∧True)∧((ac H9 (q34.add 1)=some (lV a35 l35 c35)∧True)∧((ac H9 q32=some (lV a33 l33 c33)∧True)∧True))))∧Wr H9 (A0 H5.size)∧Wr (au H9 (A0 H5.size) (iV n24)) ((A0 H5.size).add 1)∧Wr C15 ((A0 H5.size).add 2)∧Wr C7 ((A0 H5.size).add 3)∧True∧∃ a59 l59 c59,ac (au C7 ((A0 H5.size).add 3) (lV a58 l58 c58)) ((A0 H5.size).add 3)=some (lV a59 l59 c59)∧∃(I60:IT) (μ60:MT),I60 [iV 0] (au C7 ((A0 H5.size).add 3) (lV a58 l58 c58))∧∀ w61 H10,I60 w61 H10->∀ _g:Nat->Value,∃ n62,w61=[iV n62]∧cond (decide (n62<(l59:Int))) (∃ a63 l63 c63,ac H10 ((A0 H5.size).add 3)=some (lV a63 l63 c63)∧cS 233 #[pV p1,iV n24,iV n62] (fun v64 H11=>∃ n65 n66,v64=.tuple #[iV n65,iV n66]∧((ac H11 ((A0 H5.size).add 3)=some (lV a63 l63 c63)∧True)∧True)∧((0:Int)<=n62∧n62<(l63:Int))∧∃ q67,a63=some q67∧Wr H11 (q67.add (Int.toNat n62*1))∧True∧I60 [iV (wW (n62+1))] (au H11 (q67.add (Int.toNat n62*1)) (iV n65))∧μ60 [iV (wW (n62+1))] (au H11 (q67.add (Int.toNat n62*1)) (iV n65))<μ60 w61 H10) H10) (∃ a68 l68 c68,ac H10 ((A0 H1.size).add 3)=some (lV a68 l68 c68)∧∃ n69,ac H10 (A0 H5.size)=some (iV n69)∧∃ n70,ac H10 ((A0 H5.size).add 1)=some (iV n70)∧∃ n71,ac H10 ((A0 H5.size).add 2)=some (iV n71)∧∃ a72 l72 c72,ac H10 ((A0 H5.size).add 3)=some (lV a72 l72 c72)∧((0:Int)<=n22∧n22<(l68:Int))∧∃ q73,shH (au (au H10 (q73.add (Int.toNat n22*4)) (iV n69)) ((q73.add (Int.toNat n22*4)).add 1) (iV n70)) fun C16=>shH (au C16 ((q73.add (Int.toNat n22*4)).add 2) (iV n71)) fun C8=>a68=some q73∧Wr H10 (q73.add (Int.toNat n22*4))∧Wr (au H10 (q73.add (Int.toNat n22*4)) (iV n69)) ((q73.add (Int.toNat n22*4)).add 1)∧Wr C16 ((q73.add (Int.toNat n22*4)).add 2)∧Wr C8 ((q73.add (Int.toNat n22*4)).add 3)∧I20 [iV (wW (n22+1))] (au C8 ((q73.add (Int.toNat n22*4)).add 3) (lV a72 l72 c72))∧μ20 [iV (wW (n22+1))] (au C8 ((q73.add (Int.toNat n22*4)).add 3) (lV a72 l72 c72))<μ20 w21 H4)) C10)) H4) (∃ n74,ac H4 (A0 H1.size)=some (iV n74)∧∃ n75:Int,shH (au (au H4 (A0 H.size) (iV n74)) ((A0 H.size).add 1) (iV n75)) fun C11=>ac H4 ((A0 H1.size).add 1)=some (iV n75)∧∃ n76,ac H4 ((A0 H1.size).add 2)=some (iV n76)∧∃ a77:Option Addr,∃ l77:Nat,∃ c77:Nat,shH (au (au C11 ((A0 H.size).add 2) (iV n76)) ((A0 H.size).add 3) (lV a77 l77 c77)) fun C1=>ac H4 ((A0 H1.size).add 3)=some (lV a77 l77 c77)∧Wr H4 (A0 H.size)∧Wr (au H4 (A0 H.size) (iV n74)) ((A0 H.size).add 1)∧Wr C11 ((A0 H.size).add 2)∧Wr (au C11 ((A0 H.size).add 2) (iV n76)) ((A0 H.size).add 3)∧∃ n78,ac C1 (A0 H.size)=some (iV n78)∧∃ n79,ac C1 ((A0 H.size).add 1)=some (iV n79)∧∃ n80,ac C1 ((A0 H.size).add 2)=some (iV n80)∧∃ a81 l81 c81,ac C1 ((A0 H.size).add 3)=some (lV a81 l81 c81)∧Q (.agg #[iV n78,iV n79,iV n80,lV a81 l81 c81]) C1)) (au H2 ((A0 H1.size).add 3) (lV a17 l17 c17))) C13)) (H.push (.cells #[iV 0,iV 0,iV 0,lV none 0 0] 243))
theorem Bj {p1:Option Addr} (h:LO p1 Q H):ah PP 196 #[.pointer p1] Q H :=
 aN good Tryz.func196 rfl (Ls:=fun | 6=>some [(38,3)] | 11=>some [(76,3)] | _=>none) (by kernel_rfl) h
abbrev FL:Nat:=228
def Nd (p1:Option Addr) (n2:Int) (Q:QT) (H:aj):Prop :=
 ah PP 98 #[pV p1] (fun v3 H1=>∃ b4,v3=.bool b4∧cond b4 (Q (.tuple #[iV 0,iV 2]) H1) (cond (decide (n2<1)) (Q (.tuple #[iV 0,iV 20]) H1) (∃ q5,p1=some q5∧∃ a6 l6 c6,ac H1 (q5.add 1)=some (lV a6 l6 c6)∧cond (decide (n2 ≥ (l6:Int))) (Q (.tuple #[iV 0,iV 20]) H1) (∃ q7,p1=some q7∧∃ a8 l8 c8,ac H1 (q7.add 1)=some (lV a8 l8 c8)∧((0:Int)<=n2∧n2<(l8:Int))∧∃ q9,a8=some q9∧∃ n10,ac H1 (q9.add (Int.toNat n2*1))=some (iV n10)∧cond (decide (n10<0)) (Q (.tuple #[iV 0,iV 20]) H1) (∃ q11,p1=some q11∧∃ a12 l12 c12,ac H1 (q11.add 1)=some (lV a12 l12 c12)∧((0:Int)<=n2∧n2<(l12:Int))∧∃ q13,a12=some q13∧∃ n14,ac H1 (q13.add (Int.toNat n2*1))=some (iV n14)∧Q (.tuple #[iV n14,iV 0]) H1))))) H
theorem CF {p1:Option Addr}{n2:Int} (h:Nd p1 n2 Q H):ah PP 228 #[.pointer p1,.int .i64 n2] Q H :=
 okF Tryz.func228 rfl h
abbrev HZ:Nat:=231
def PJ (p1:Option Addr) (n2:Int) (n3:Int) (Q:QT) (H:aj):Prop :=
 ah PP 228 #[pV p1,iV n2] (fun v4 H1=>∃ n5 n6,v4=.tuple #[iV n5,iV n6]∧cond (n6 != 0) (Q (.tuple #[iV 0,iV 0,iV 0,iV n6]) H1) (cS 247 #[pV p1,iV n5] (fun v7 H2=>∃ n8 n9,v7=.tuple #[iV n8,iV n9]∧cond (decide (n3<0)) (Q (.tuple #[iV 0,iV 0,iV 0,iV 21]) H2) (cond (decide (n3 ≥ n8)) (Q (.tuple #[iV 0,iV 0,iV 0,iV 21]) H2) (cond (n9 == 1) (Q (.tuple #[iV (wW ((wW (n5+2))+(wW (Int.tdiv n3 4)))),iV (wW ((Int.tmod n3 4)*8)),iV n9,iV 0]) H2) (Q (.tuple #[iV (wW ((wW (n5+2))+n3)),iV 0,iV n9,iV 0]) H2)))) H1)) H
theorem CM {p1:Option Addr}{n2:Int}{n3:Int} (h:PJ p1 n2 n3 Q H):ah PP 231 #[.pointer p1,.int .i64 n2,.int .i64 n3] Q H :=
 okF Tryz.func231 rfl h
abbrev K9:Nat:=232
def Mc (n1:Int) (n2:Int) (Q:QT) (H:aj):Prop :=
 cond (n2 == 1) (cond (decide ((0:Int)<=n1)) (Q (.bool (decide (n1<=255))) H) (Q (.bool false) H)) (cS 160 #[iV n1] (fun v3 H1=>∃ b4,v3=.bool b4∧Q (.bool b4) H1) H)
theorem Ai {n1:Int}{n2:Int} (h:Mc n1 n2 Q H):ah PP 232 #[.int .i64 n1,.int .i64 n2] Q H :=
 okF Tryz.func232 rfl h
abbrev tV:Nat:=233
def Mh (p1:Option Addr) (n2:Int) (n3:Int) (Q:QT) (H:aj):Prop :=
 ah PP 231 #[pV p1,iV n2,iV n3] (fun v4 H1=>∃ n5 n6 n7 n8,v4=.tuple #[iV n5,iV n6,iV n7,iV n8]∧cond (n8 != 0) (Q (.tuple #[iV 0,iV n8]) H1) (cond (n7 == 1) (∃ q9,p1=some q9∧∃ a10 l10 c10,ac H1 q9=some (lV a10 l10 c10)∧((0:Int)<=n5∧n5<(l10:Int))∧∃ q11,a10=some q11∧∃ n12,ac H1 (q11.add (Int.toNat n5*1))=some (iV n12)∧cond (decide (n6<0)) False (Q (.tuple #[iV (pj .i64 (eZ .i64 n12 n6) 255),iV 0]) H1)) (∃ q13,p1=some q13∧∃ a14 l14 c14,ac H1 q13=some (lV a14 l14 c14)∧((0:Int)<=n5∧n5<(l14:Int))∧∃ q15,a14=some q15∧∃ n16,ac H1 (q15.add (Int.toNat n5*1))=some (iV n16)∧Q (.tuple #[iV n16,iV 0]) H1))) H
theorem BF {p1:Option Addr}{n2:Int}{n3:Int} (h:Mh p1 n2 n3 Q H):ah PP 233 #[.pointer p1,.int .i64 n2,.int .i64 n3] Q H :=
 okF Tryz.func233 rfl h
abbrev ym:Nat:=247
def HV (p1:Option Addr) (n2:Int) (Q:QT) (H:aj):Prop :=
 ∃ q3,p1=some q3∧∃ a4 l4 c4,ac H q3=some (lV a4 l4 c4)∧((0:Int)<=(wW (n2+1))∧(wW (n2+1))<(l4:Int))∧∃ q5,a4=some q5∧∃ n6,ac H (q5.add (Int.toNat (wW (n2+1))*1))=some (iV n6)∧Q (.tuple #[iV (eZ .i64 n6 1),iV (pj .i64 n6 1)]) H
theorem vJ {p1:Option Addr}{n2:Int} (h:HV p1 n2 Q H):ah PP 247 #[.pointer p1,.int .i64 n2] Q H :=
 okF Tryz.func247 rfl h
abbrev ID:Nat:=252
def Qb (p1:Option Addr) (Q:QT) (H:aj):Prop :=
 ∃ p2,ac (H.push (.cells #[pV p1] 46)) (A0 H.size)=some (pV p2)∧cS 272 #[pV p2] (fun v3 H1=>∃ a4 l4 c4,v3=lV a4 l4 c4∧cS 273 #[lV a4 l4 c4,.func (.func 274) #[] #[pV (some (A0 H.size))]] (fun v5 H2=>v5=.tuple #[]∧Q (lV a4 l4 c4) H2) H1) (H.push (.cells #[pV p1] 46))
theorem Dr {p1:Option Addr} (h:Qb p1 Q H):ah PP 252 #[.pointer p1] Q H :=
 okF Tryz.func252 rfl h
abbrev xN:Nat:=261
def Qk (p1:Option Addr) (a2:Option Addr) (l2:Nat) (_c2:Nat) (Q:QT) (H:aj):Prop :=
 ah PP 98 #[pV p1] (fun v3 H1=>∃ b4,v3=.bool b4∧cond b4 (Q (.tuple #[iV 0,iV 0,iV 2]) H1) (∃ q5,p1=some q5∧∃ a6 l6 c6,ac H1 (q5.add 1)=some (lV a6 l6 c6)∧bk PP (Instr.makeSlice 66 (iV (l6:Int)) (iV (l6:Int))) (fun v7 H2=>∃ a8 l8 c8,v7=lV a8 l8 c8∧∃(I9:IT) (μ9:MT),I9 [iV 0] H2∧∀ w10 H3,I9 w10 H3->∀ _g:Nat->Value,∃ n11,w10=[iV n11]∧cond (decide (n11<(l2:Int))) (((0:Int)<=n11∧n11<(l2:Int))∧∃ q12,a2=some q12∧∃ n13,ac H3 (q12.add (Int.toNat n11*1))=some (iV n13)∧cS 228 #[pV p1,iV n13] (fun v14 H4=>∃ n15 n16,v14=.tuple #[iV n15,iV n16]∧cond (n16 != 0) (Q (.tuple #[iV 0,iV 0,iV n16]) H4) (((0:Int)<=n13∧n13<(l8:Int))∧∃ q17,a8=some q17∧Wr H4 (q17.add (Int.toNat n13*1))∧I9 [iV (wW (n11+1))] (au H4 (q17.add (Int.toNat n13*1)) (iV 1))∧μ9 [iV (wW (n11+1))] (au H4 (q17.add (Int.toNat n13*1)) (iV 1))<μ9 w10 H3)) H3) (∃ q18,p1=some q18∧∃ n19,ac H3 (q18.add 3)=some (iV n19)∧∃ q20,p1=some q20∧∃ n21,ac H3 (q20.add 4)=some (iV n21)∧cS 252 #[pV p1] (fun v22 H5=>∃ a23 l23 c23,v22=lV a23 l23 c23∧∃(I24:IT) (μ24:MT),I24 [iV 0,iV 0] H5∧∀ w25 H6,I24 w25 H6->∀ _g:Nat->Value,∃ n26 n27,w25=[iV n26,iV n27]∧cond (decide (n27<(l23:Int))) (((0:Int)<=n27∧n27<(l23:Int))∧∃ q28,a23=some q28∧∃ n29,ac H6 (q28.add (Int.toNat n27*1))=some (iV n29)∧∃ q30,p1=some q30∧∃ a31 l31 c31,ac H6 (q30.add 1)=some (lV a31 l31 c31)∧((0:Int)<=n29∧n29<(l31:Int))∧∃ q32,a31=some q32∧∃ n33,ac H6 (q32.add (Int.toNat n29*1))=some (iV n33)∧((0:Int)<=n29∧n29<(l8:Int))∧∃ q34,a8=some q34∧∃ n35,ac H6 (q34.add (Int.toNat n29*1))=some (iV n35)∧cond (n35 == 0) (cS 277 #[pV p1,iV n29] (fun v36 H7=>v36=.tuple #[]∧I24 [iV n26,iV (wW (n27+1))] H7∧μ24 [iV n26,iV (wW (n27+1))] H7<μ24 w25 H6) H6) (cS 278 #[pV p1,iV n33] (fun v37 H8=>∃ n38,v37=iV n38∧∃ q39,p1=some q39∧∃ a40 l40 c40,ac H8 q39=some (lV a40 l40 c40)∧((0:Int)<=n26∧n26<=(l40:Int))∧∃ q41,p1=some q41∧∃ a42 l42 c42,ac H8 q41=some (lV a42 l42 c42)∧(((0:Int)<=(wW (n33+n38))∧(wW (n33+n38))<=(c42:Int))∧(0:Int)<=n33∧n33<=(wW (n33+n38)))∧bk PP (Builtin.copy_ #[108,108] 3 #[lV (gl a40 c40 n26 1) (l40-Int.toNat n26) (c40-Int.toNat n26),lV (gl a42 c42 n33 1) (Int.toNat (wW (n33+n38))-Int.toNat n33) (c42-Int.toNat n33)]) (fun v43 H9=>∃ n44,v43=iV n44∧True∧∃ q45,p1=some q45∧∃ a46 l46 c46,ac H9 (q45.add 1)=some (lV a46 l46 c46)∧((0:Int)<=n29∧n29<(l46:Int))∧∃ q47,a46=some q47∧Wr H9 (q47.add (Int.toNat n29*1))∧I24 [iV (wW (n26+n38)),iV (wW (n27+1))] (au H9 (q47.add (Int.toNat n29*1)) (iV n26))∧μ24 [iV (wW (n26+n38)),iV (wW (n27+1))] (au H9 (q47.add (Int.toNat n29*1)) (iV n26))<μ24 w25 H6) H8) H6)) (∃ q48,p1=some q48∧∃ a49 l49 c49,ac H6 q48=some (lV a49 l49 c49)∧∃ q50,p1=some q50∧∃ n51,ac H6 (q50.add 4)=some (iV n51)∧(((0:Int)<=n51∧n51<=(c49:Int))∧(0:Int)<=n26∧n26<=n51)∧bk PP (Builtin.clear_ #[108] 0 #[lV (gl a49 c49 n26 1) (Int.toNat n51-Int.toNat n26) (c49-Int.toNat n26)]) (fun v52 H10=>True∧∃ q53,p1=some q53∧Wr H10 (q53.add 4)∧∃ q54,p1=some q54∧∃ n55,ac (au H10 (q53.add 4) (iV n26)) (q54.add 8)=some (iV n55)∧∃ q56,shH (au (au H10 (q53.add 4) (iV n26)) (q56.add 8) (iV (wW (n55+1)))) fun C1=>p1=some q56∧Wr (au H10 (q53.add 4) (iV n26)) (q56.add 8)∧∃ q57,p1=some q57∧∃ n58,ac C1 (q57.add 3)=some (iV n58)∧Q (.tuple #[iV (wW (n19-n58)),iV (wW (n21-n26)),iV 0]) C1) H6)) H3)) H1)) H
theorem AJ {p1:Option Addr}{a2:Option Addr}{l2:Nat}{c2:Nat} (h:Qk p1 a2 l2 c2 Q H):ah PP 261 #[.pointer p1,.slice a2 l2 c2] Q H :=
 aN good Tryz.func261 rfl (Ls:=fun | 5=>some [(29,3)] | 14=>some [(14,3),(57,3)] | _=>none) (by kernel_rfl) h
abbrev GQ:Nat:=272
def MG (p1:Option Addr) (Q:QT) (H:aj):Prop :=
 ah PP 98 #[pV p1] (fun v2 H1=>∃ b3,v2=.bool b3∧cond b3 (Q (lV none 0 0) H1) (∃ q4,p1=some q4∧∃ n5,ac H1 (q4.add 3)=some (iV n5)∧bk PP (Instr.makeSlice 66 (iV 0) (iV n5)) (fun v6 H2=>∃ a7 l7 c7,v6=lV a7 l7 c7∧∃ q8,p1=some q8∧∃ a9 l9 c9,ac H2 (q8.add 1)=some (lV a9 l9 c9)∧∃(I10:IT) (μ10:MT),I10 [lV a7 l7 c7,iV 0] H2∧∀ w11 H3,I10 w11 H3->∀ _g:Nat->Value,∃ a12 l12 c12 n13,w11=[lV a12 l12 c12,iV n13]∧cond (decide (n13<(l9:Int))) (((0:Int)<=n13∧n13<(l9:Int))∧∃ q14,a9=some q14∧∃ n15,ac H3 (q14.add (Int.toNat n13*1))=some (iV n15)∧cond (decide (n15 ≥ 0)) (bk PP (Builtin.append_ #[66,66] 66 #[lV a12 l12 c12,lV (some (A0 H3.size)) 1 1]) (fun v16 H4=>∃ a17 l17 c17,v16=lV a17 l17 c17∧I10 [lV a17 l17 c17,iV (wW (n13+1))] H4∧μ10 [lV a17 l17 c17,iV (wW (n13+1))] H4<μ10 w11 H3) (H3.push (.cells #[iV n13] 3))) (I10 [lV a12 l12 c12,iV (wW (n13+1))] H3∧μ10 [lV a12 l12 c12,iV (wW (n13+1))] H3<μ10 w11 H3)) (Q (lV a12 l12 c12) H3)) H1)) H
theorem B6 {p1:Option Addr} (h:MG p1 Q H):ah PP 272 #[.pointer p1] Q H :=
 aN good Tryz.func272 rfl (Ls:=fun | 5=>some [(3,66),(18,3)] | _=>none) (by kernel_rfl) h
abbrev Hi:Nat:=274
def Pb (n1:Int) (n2:Int) (q_0:Addr) (Q:QT) (H:aj):Prop :=
 ∃ p3,ac H q_0=some (pV p3)∧∃ q4,p3=some q4∧∃ a5 l5 c5,ac H (q4.add 1)=some (lV a5 l5 c5)∧((0:Int)<=n1∧n1<(l5:Int))∧∃ q6,a5=some q6∧∃ n7,ac H (q6.add (Int.toNat n1*1))=some (iV n7)∧∃ p8,ac H q_0=some (pV p8)∧∃ q9,p8=some q9∧∃ a10 l10 c10,ac H (q9.add 1)=some (lV a10 l10 c10)∧((0:Int)<=n2∧n2<(l10:Int))∧∃ q11,a10=some q11∧∃ n12,ac H (q11.add (Int.toNat n2*1))=some (iV n12)∧Q (iV (wW (n7-n12))) H
theorem Ce {n1:Int}{n2:Int}{q_0:Addr} (h:Pb n1 n2 q_0 Q H):ah PP 274 #[.int .i64 n1,.int .i64 n2,.pointer (some q_0)] Q H :=
 okF Tryz.func274 rfl h
abbrev Kl:Nat:=277
def Lw (p1:Option Addr) (n2:Int) (Q:QT) (H:aj):Prop :=
 ∃ q3,p1=some q3∧∃ a4 l4 c4,ac H q3=some (lV a4 l4 c4)∧∃ q5,p1=some q5∧∃ a6 l6 c6,ac H (q5.add 1)=some (lV a6 l6 c6)∧((0:Int)<=n2∧n2<(l6:Int))∧∃ q7,a6=some q7∧∃ n8,ac H (q7.add (Int.toNat n2*1))=some (iV n8)∧((0:Int)<=n8∧n8<(l4:Int))∧∃ q9,shH (au H (q9.add (Int.toNat n8*1)) (iV 0)) fun C3=>a4=some q9∧Wr H (q9.add (Int.toNat n8*1))∧True∧∃ q10,p1=some q10∧∃ a11 l11 c11,ac C3 (q10.add 1)=some (lV a11 l11 c11)∧((0:Int)<=n2∧n2<(l11:Int))∧∃ q12,shH (au C3 (q12.add (Int.toNat n2*1)) (iV (-1))) fun C1=>a11=some q12∧Wr C3 (q12.add (Int.toNat n2*1))∧∃ q13,p1=some q13∧∃ n14,ac C1 (q13.add 5)=some (iV n14)∧∃ q15,shH (au C1 (q15.add 5) (iV (if n2<n14 then n2 else n14))) fun C2=>p1=some q15∧Wr C1 (q15.add 5)∧∃ q16,p1=some q16∧∃ n17,ac C2 (q16.add 3)=some (iV n17)∧∃ q18,p1=some q18∧Wr C2 (q18.add 3)∧Q (.tuple #[]) (au C2 (q18.add 3) (iV (wW (n17-1))))
theorem DV {p1:Option Addr}{n2:Int} (h:Lw p1 n2 Q H):ah PP 277 #[.pointer p1,.int .i64 n2] Q H :=
 okF Tryz.func277 rfl h
abbrev Fe:Nat:=278
def LH (p1:Option Addr) (n2:Int) (Q:QT) (H:aj):Prop :=
 ah PP 247 #[pV p1,iV n2] (fun v3 H1=>∃ n4 n5,v3=.tuple #[iV n4,iV n5]∧cS 161 #[iV n4,iV n5] (fun v6 H2=>∃ n7,v6=iV n7∧Q (iV n7) H2) H1) H
theorem Bd {p1:Option Addr}{n2:Int} (h:LH p1 n2 Q H):ah PP 278 #[.pointer p1,.int .i64 n2] Q H :=
 okF Tryz.func278 rfl h
end Go.Proofs.YtmkdkplipbocjaaGreatDoor
namespace Go.Proofs.YtmkdkplipbocjaaGreatDoor
open Kw
structure SimH (W T B:Int->Int) (low:Int) (r:RH):Prop where
 tab:∀ k,0<=k->k<=r.oops->T k=match aH r.objs k with
  | some o=>o.place
  | none=>-1
 bor:∀ o∈r.objs,B o.oop=o.born
 cls:∀ o∈r.objs,W o.place=o.cls
 shp:∀ o∈r.objs,W (o.place+1)=2*(o.slots.length:Int)+o.fmt
 wrd:∀ o∈r.objs,o.fmt=0->∀ i:Nat,i<o.slots.length->W (o.place+2+i)=o.slots.getD i 0
 byt:∀ o∈r.objs,o.fmt=1->∀ i:Nat,i<o.slots.length->W (o.place+2+(i / 4:Nat)) / ((2 ^ (i % 4*8):Nat):Int) % 256=o.slots.getD i 0
 byr:∀ o∈r.objs,o.fmt=1->∀ j,o.place+2<=j->j<o.place+o.len->0<=W j∧W j<4294967296
 low1:1<=low
 low2:low<=r.oops+1
 low3:∀ k,1<=k->k<low->aH r.objs k≠none
structure PHs (H:aj) (hb wb tb bb:Nat) (W T B:Int->Int) (low:Int) (r:RH):Prop where
 hd:bA H hb #[.slice (some ⟨wb,0,none⟩) r.words.toNat r.words.toNat,.slice (some ⟨tb,0,none⟩) (r.oops+1).toNat (r.oops+1).toNat,.slice (some ⟨bb,0,none⟩) (r.oops+1).toNat (r.oops+1).toNat,.int .i64 (r.objs.length:Int),.int .i64 (bn r.objs),.int .i64 low,.int .i64 r.mark,.int .i64 r.born,.int .i64 r.turn]
 mw:dM H wb r.words.toNat W
 mt:dM H tb (r.oops+1).toNat T
 mb:dM H bb (r.oops+1).toNat B
 d:[hb,wb,tb,bb,aE].Nodup
 kinds:dw H
 wf:WFH r
 sim:SimH W T B low r
section
variable {H:aj}{hb wb tb bb:Nat}{W T B:Int->Int}{low:Int}{r:RH}
theorem PHs.c0 (h:PHs H hb wb tb bb W T B low r):ac H ⟨hb,0,none⟩=some (.slice (some ⟨wb,0,none⟩) r.words.toNat r.words.toNat):=h.hd.cell 0
theorem PHs.c1 (h:PHs H hb wb tb bb W T B low r):ac H ⟨hb,1,none⟩=some (.slice (some ⟨tb,0,none⟩) (r.oops+1).toNat (r.oops+1).toNat):=h.hd.cell 1
theorem PHs.c2 (h:PHs H hb wb tb bb W T B low r):ac H ⟨hb,2,none⟩=some (.slice (some ⟨bb,0,none⟩) (r.oops+1).toNat (r.oops+1).toNat):=h.hd.cell 2
theorem PHs.c3 (h:PHs H hb wb tb bb W T B low r):ac H ⟨hb,3,none⟩=some (.int .i64 (r.objs.length:Int)):=h.hd.cell 3
theorem PHs.c4 (h:PHs H hb wb tb bb W T B low r):ac H ⟨hb,4,none⟩=some (.int .i64 (bn r.objs)):=h.hd.cell 4
theorem PHs.c5 (h:PHs H hb wb tb bb W T B low r):ac H ⟨hb,5,none⟩=some (.int .i64 low):=h.hd.cell 5
theorem PHs.c6 (h:PHs H hb wb tb bb W T B low r):ac H ⟨hb,6,none⟩=some (.int .i64 r.mark):=h.hd.cell 6
theorem PHs.c7 (h:PHs H hb wb tb bb W T B low r):ac H ⟨hb,7,none⟩=some (.int .i64 r.born):=h.hd.cell 7
theorem PHs.c8 (h:PHs H hb wb tb bb W T B low r):ac H ⟨hb,8,none⟩=some (.int .i64 r.turn):=h.hd.cell 8
theorem PHs.word (h:PHs H hb wb tb bb W T B low r){i:Int} (h0:0<=i) (h1:i<r.words):ac H ⟨wb,i.toNat,none⟩=some (.int .i64 (W i)):=h.mw.cell h0 (by omega)
theorem PHs.tabc (h:PHs H hb wb tb bb W T B low r){i:Int} (h0:0<=i) (h1:i<=r.oops):ac H ⟨tb,i.toNat,none⟩=some (.int .i64 (T i)):=h.mt.cell h0 (by omega)
end
def dp (H:aj) (hb:Nat) (F:ay) (r:RH):Prop:=∃ wb tb bb W T B low,F=[hb,wb,tb,bb]∧PHs H hb wb tb bb W T B low r
theorem PHs.rep {H:aj}{hb wb tb bb:Nat}{W T B:Int->Int}{low:Int}{r:RH} (h:PHs H hb wb tb bb W T B low r):dp H hb [hb,wb,tb,bb] r:=⟨_,_,_,_,_,_,_,rfl,h⟩
theorem dp.wf {H:aj}{hb:Nat}{F:ay}{r:RH} (h:dp H hb F r):WFH r:=by obtain ⟨_,_,_,_,_,_,_,_,h⟩:=h;exact h.wf
theorem dp.kinds {H:aj}{hb:Nat}{F:ay}{r:RH} (h:dp H hb F r):dw H:=by obtain ⟨_,_,_,_,_,_,_,_,h⟩:=h;exact h.kinds
theorem dp.lt {H:aj}{hb:Nat}{F:ay}{r:RH} (h:dp H hb F r):∀ b∈F,b<H.size:=by
 obtain ⟨wb,tb,bb,_,_,_,_,rfl,h⟩:=h
 intro b hb
 simp at hb
 rcases hb with rfl | rfl | rfl | rfl
 ·exact h.hd.lt
 ·exact h.mw.lt
 ·exact h.mt.lt
 ·exact h.mb.lt
theorem dp.gk {H:aj}{hb:Nat}{F:ay}{r:RH} (h:dp H hb F r):aE∉F:=by
 obtain ⟨wb,tb,bb,_,_,_,_,rfl,h⟩:=h
 have:=h.d
 simp only [List.nodup_cons,List.mem_cons,List.not_mem_nil,or_false,not_or] at this ⊢
 obtain ⟨⟨_,_,_,h1⟩,⟨_,_,h2⟩,⟨_,h3⟩,h4,_⟩:=this
 exact ⟨fun e=>h1 e.symm,fun e=>h2 e.symm,fun e=>h3 e.symm,fun e=>h4 e.symm⟩
theorem dp.fr {H H':aj}{hb:Nat}{F G:ay}{r:RH} (h:dp H hb F r) (hf:Fr G H H') (hd:bi F G) (hg:aE∉G):dp H' hb F r:=by
 obtain ⟨wb,tb,bb,W,T,B,low,rfl,h⟩:=h
 exact ⟨wb,tb,bb,W,T,B,low,rfl,{ hd:=h.hd.fr hf (hd _ (by simp)),mw:=h.mw.fr hf (hd _ (by simp)),mt:=h.mt.fr hf (hd _ (by simp)),mb:=h.mb.fr hf (hd _ (by simp)),d:=h.d,kinds:=h.kinds.fr hf hg,wf:=h.wf,sim:=h.sim }⟩
section
variable {H:aj}{hb wb tb bb:Nat}{W T B:Int->Int}{low:Int}{r:RH}{Q:QT}
theorem nO {n m:Int} (h:Q (.bool (decide (0<=n∧n<=m))) H):ah PP Lg #[.int .i64 n,.int .i64 m] Q H:=by
 apply EV
 unfold RR
 simp only [ae]
 split
 ·rename_i h1;have h1:0<=n:=h1;simpa [h1] using h
 ·rename_i h1;have h1:¬ 0<=n:=h1;simpa [h1] using h
theorem lF (hR:PHs H hb wb tb bb W T B low r) (h:Q (.bool false) H):ah PP NT #[.pointer (some ⟨hb,0,none⟩)] Q H:=by
 apply IU
 unfold RP lV
 simp only [ae,cond_true,cond_false,Option.isNone_some,Option.isNone_none,aL,aB,aY,aQ,aJ,aR,aU,aC,aW,aV,aK,aX,and_assoc,true_and,and_true,ao,Nat.zero_add,Nat.mul_one,az,ax,aD,Bool.not_true,Bool.not_false,bj,bf,hR.c1]
 exact h
theorem sA {w:Int} (hk:dw H) (h:Q (.bool (decide (dG w))) H):ah PP ES #[.int .i64 w] Q H:=by
 apply AR
 unfold Lj iV
 refine lS hk ⟨_,rfl,?_⟩
 have:(cz w != 0)=decide (dG w):=by rw [bf];rfl
 rw [this];exact h
theorem kT {n f:Int} (h0:0<=n) (h1:n<=1000000000) (h:Q (.int .i64 (lenOf n f)) H):ah PP Hg #[.int .i64 n,.int .i64 f] Q H:=by
 apply Cd
 unfold MM iV wW
 simp only [ae,cond_true,cond_false,Option.isNone_some,Option.isNone_none,aL,aB,aY,aQ,aJ,aR,aU,aC,aW,aV,aK,aX,and_assoc,true_and,and_true,ao,Nat.zero_add,Nat.mul_one,az,ax,aD,Bool.not_true,Bool.not_false,bj,bf]
 unfold lenOf at h
 split
 ·rename_i hf
  rw [if_pos hf] at h
  rw [am (n:=n+4) (by omega) (by omega),am (n:=n+4-1) (by omega) (by omega),jC,if_pos (by omega),am (n:=(n+4-1) / 4) (by omega) (by omega),am (by omega) (by omega)]
  rw [show n+4-1=n+3 by omega];exact h
 ·rename_i hf
  rw [if_neg hf] at h
  rw [am (by omega) (by omega)];exact h
theorem PHs.in_ (hR:PHs H hb wb tb bb W T B low r){o:RO} (ho:o∈r.objs):0<=o.place∧o.place+o.len<=r.words∧2<=o.len∧r.words<=1048576∧(o.fmt=0∨o.fmt=1)∧(o.slots.length:Int)<=8192:=by
 have hg:=hR.wf.objs.good o ho
 exact ⟨hg.pl,hg.fits,o.len_pos,hR.wf.w1,hg.fmt,by have:=hg.many;omega⟩
theorem rD (hR:PHs H hb wb tb bb W T B low r){o:RO} (ho:o∈r.objs) (h:Q (.tuple #[.int .i64 (o.slots.length:Int),.int .i64 o.fmt]) H):ah PP ym #[.pointer (some ⟨hb,0,none⟩),.int .i64 o.place] Q H:=by
 obtain ⟨h1,h2,h3,h4,h5,h6⟩:=hR.in_ ho
 apply vJ
 unfold HV iV wW lV
 rw [am (n:=o.place+1) (by omega) (by omega)]
 simp only [ae,cond_true,cond_false,Option.isNone_some,Option.isNone_none,aL,aB,aY,aQ,aJ,aR,aU,aC,aW,aV,aK,aX,and_assoc,true_and,and_true,ao,Nat.zero_add,Nat.mul_one,az,ax,aD,Bool.not_true,Bool.not_false,bj,bf,hR.c0,hR.word (i:=o.place+1) (by omega) (by omega)]
 refine ⟨by omega,by omega,?_⟩
 rw [hR.sim.shp o ho,Cq,Ec]
 have e1:(2*(o.slots.length:Int)+o.fmt) / 2=o.slots.length:=by omega
 have e2:(2*(o.slots.length:Int)+o.fmt) % 2=o.fmt:=by omega
 rw [e1,e2];exact h
def qx (r:RH) (k:Int):Value:=match aH r.objs k with
 | none=>.tuple #[.int .i64 0,.int .i64 20]
 | some o=>.tuple #[.int .i64 o.place,.int .i64 0]
theorem rU (hR:PHs H hb wb tb bb W T B low r){k:Int} (h:Q (qx r k) H):ah PP FL #[.pointer (some ⟨hb,0,none⟩),.int .i64 k] Q H:=by
 apply CF
 unfold Nd iV pV lV
 refine lF hR ⟨_,rfl,?_⟩
 have ho0:=hR.wf.o0
 have none_:(k<1∨r.oops<k)->aH r.objs k=none:=fun hk=>dt.2 fun o ho=>by
  have hg:=hR.wf.objs.good o ho;have:=hg.oop1;have:=hg.oop2;omega
 unfold qx at h
 simp only [ae,cond_true,cond_false,Option.isNone_some,Option.isNone_none,aL,aB,aY,aQ,aJ,aR,aU,aC,aW,aV,aK,aX,and_assoc,true_and,and_true,ao,Nat.zero_add,Nat.mul_one,az,ax,aD,Bool.not_true,Bool.not_false,bj,bf,hR.c1]
 split
 ·rename_i hk;rw [none_ (.inl hk)] at h;exact h
 split
 ·rename_i hk;rw [none_ (.inr (by omega))] at h;exact h
 ·rename_i h1 h2
  have ht:=hR.sim.tab k (by omega) (by omega)
  simp only [hR.tabc (i:=k) (by omega) (by omega),ae,cond_true,cond_false,Option.isNone_some,Option.isNone_none,aL,aB,aY,aQ,aJ,aR,aU,aC,aW,aV,aK,aX,and_assoc,true_and,and_true,ao,Nat.zero_add,Nat.mul_one,az,ax,aD,Bool.not_true,Bool.not_false,bj,bf]
  refine ⟨by omega,by omega,?_⟩
  rw [ht]
  cases ho:aH r.objs k with
  | none=>rw [ho] at h;simpa using h
  | some o =>
   rw [ho] at h
   have:=(hR.in_ (aM ho).1).1
   simp only
   rw [if_neg (by omega)]
   exact ⟨by omega,by omega,h⟩
def vP (r:RH) (k i:Int):Value:=match aH r.objs k with
 | none=>.tuple #[.int .i64 0,.int .i64 0,.int .i64 0,.int .i64 20]
 | some o=>if i<0∨(o.slots.length:Int)<=i then .tuple #[.int .i64 0,.int .i64 0,.int .i64 0,.int .i64 21]
  else if o.fmt=1 then .tuple #[.int .i64 (o.place+2+i / 4),.int .i64 (i % 4*8),.int .i64 1,.int .i64 0]
  else .tuple #[.int .i64 (o.place+2+i),.int .i64 0,.int .i64 o.fmt,.int .i64 0]
theorem xT (hR:PHs H hb wb tb bb W T B low r){k i:Int} (h:Q (vP r k i) H):ah PP HZ #[.pointer (some ⟨hb,0,none⟩),.int .i64 k,.int .i64 i] Q H:=by
 apply CM
 unfold PJ iV wW pV cS
 refine rU hR ?_
 unfold qx
 unfold vP at h
 cases ho:aH r.objs k with
 | none=>rw [ho] at h;exact ⟨_,_,rfl,by simpa using h⟩
 | some o =>
  rw [ho] at h
  have hm:=(aM ho).1
  obtain ⟨h1,h2,h3,h4,h5,h6⟩:=hR.in_ hm
  refine ⟨_,_,rfl,?_⟩
  simp only [ae,cond_true,cond_false,Option.isNone_some,Option.isNone_none,aL,aB,aY,aQ,aJ,aR,aU,aC,aW,aV,aK,aX,and_assoc,true_and,and_true,ao,Nat.zero_add,Nat.mul_one,az,ax,aD,Bool.not_true,Bool.not_false,bj,bf,ne_eq,not_true_eq_false,if_false]
  refine rD hR hm ⟨_,_,rfl,?_⟩
  simp only at h
  split
  ·rw [if_pos (by omega)] at h;exact h
  split
  ·rw [if_pos (by omega)] at h;exact h
  ·rename_i g1 g2
   rw [if_neg (by omega)] at h
   split
   ·rename_i hf
    rw [if_pos hf] at h
    rw [jC,if_pos (by omega),mW _ _ (by decide),if_pos (by omega),am (n:=o.place+2) (by omega) (by omega),am (n:=i / 4) (by omega) (by omega),am (n:=i % 4*8) (by omega) (by omega),am (by omega) (by omega),hf]
    exact h
   ·rename_i hf
    rw [if_neg hf] at h
    rw [am (n:=o.place+2) (by omega) (by omega),am (by omega) (by omega)]
    exact h
theorem vi (hR:PHs H hb wb tb bb W T B low r){o:RO} (ho:o∈r.objs){i:Int} (h0:0<=i) (h1:i<o.slots.length):(o.fmt=1->o.place+2+i / 4<r.words∧o.place+2+i / 4<o.place+o.len)∧(o.fmt≠1->o.place+2+i<r.words∧o.place+2+i<o.place+o.len):=by
 obtain ⟨g1,g2,g3,g4,g5,g6⟩:=hR.in_ ho
 have hl:o.len=lenOf o.slots.length o.fmt:=rfl
 constructor
 ·intro hf;rw [lenOf,if_pos hf] at hl;omega
 ·intro hf;rw [lenOf,if_neg hf] at hl;omega
theorem Ml (hR:PHs H hb wb tb bb W T B low r){k i:Int} (h:Q (mP (r.at k i)) H):ah PP tV #[.pointer (some ⟨hb,0,none⟩),.int .i64 k,.int .i64 i] Q H:=by
 apply BF
 unfold Mh iV pV lV
 refine xT hR ?_
 unfold vP
 unfold RH.at at h
 cases ho:aH r.objs k with
 | none=>rw [ho] at h;exact ⟨_,_,_,_,rfl,by simpa using h⟩
 | some o =>
  rw [ho] at h
  have hm:=(aM ho).1
  obtain ⟨h1,h2,h3,h4,h5,h6⟩:=hR.in_ hm
  simp only at h ⊢
  split
  ·rename_i hi
   rw [if_pos hi] at h
   exact ⟨_,_,_,_,rfl,by simpa using h⟩
  ·rename_i hi
   rw [if_neg hi] at h
   have hs:=vi hR hm (i:=i) (by omega) (by omega)
   split
   ·rename_i hf
    have hs:=hs.1 hf
    refine ⟨_,_,_,_,rfl,?_⟩
    simp only [ae,cond_true,cond_false,Option.isNone_some,Option.isNone_none,aL,aB,aY,aQ,aJ,aR,aU,aC,aW,aV,aK,aX,and_assoc,true_and,and_true,ao,Nat.zero_add,Nat.mul_one,az,ax,aD,Bool.not_true,Bool.not_false,bj,bf,ne_eq,not_true_eq_false,if_false,if_true,hR.c0,hR.word (i:=o.place+2+i / 4) (by omega) (by omega)]
    refine ⟨by omega,by omega,?_⟩
    rw [if_neg (by omega)]
    have e:i % 4*8=((i.toNat % 4*8:Nat):Int):=by omega
    have hb:=hR.sim.byt o hm hf i.toNat (by omega)
    have e2:((i.toNat / 4:Nat):Int)=i / 4:=by omega
    rw [e2] at hb
    rw [e,rH _ _ (by omega),BQ,hb]
    exact h
   ·rename_i hf
    have hs:=hs.2 hf
    refine ⟨_,_,_,_,rfl,?_⟩
    have hf0:o.fmt=0:=by omega
    have hw:=hR.sim.wrd o hm hf0 i.toNat (by omega)
    rw [Int.toNat_of_nonneg (by omega)] at hw
    simp only [ae,cond_true,cond_false,Option.isNone_some,Option.isNone_none,aL,aB,aY,aQ,aJ,aR,aU,aC,aW,aV,aK,aX,and_assoc,true_and,and_true,ao,Nat.zero_add,Nat.mul_one,az,ax,aD,Bool.not_true,Bool.not_false,bj,bf,ne_eq,not_true_eq_false,if_false,hf,hR.c0,hR.word (i:=o.place+2+i) (by omega) (by omega)]
    refine ⟨by omega,by omega,?_⟩
    rw [hw]
    exact h
theorem BH (hR:PHs H hb wb tb bb W T B low r){k:Int} (h:Q (mP (r.clsAt k)) H):ah PP yl #[.pointer (some ⟨hb,0,none⟩),.int .i64 k] Q H:=by
 apply BL
 unfold Mp iV pV lV
 refine rU hR ?_
 unfold qx
 unfold RH.clsAt at h
 cases ho:aH r.objs k with
 | none=>rw [ho] at h;exact ⟨_,_,rfl,by simpa using h⟩
 | some o =>
  rw [ho] at h
  have hm:=(aM ho).1
  obtain ⟨h1,h2,h3,h4,h5,h6⟩:=hR.in_ hm
  refine ⟨_,_,rfl,?_⟩
  simp only [ae,cond_true,cond_false,Option.isNone_some,Option.isNone_none,aL,aB,aY,aQ,aJ,aR,aU,aC,aW,aV,aK,aX,and_assoc,true_and,and_true,ao,Nat.zero_add,Nat.mul_one,az,ax,aD,Bool.not_true,Bool.not_false,bj,bf,ne_eq,not_true_eq_false,if_false,hR.c0,hR.word (i:=o.place) (by omega) (by omega),hR.sim.cls o hm]
  exact ⟨by omega,by omega,h⟩
theorem GB (hR:PHs H hb wb tb bb W T B low r){k:Int} (h:Q (jP (r.size k)) H):ah PP zp #[.pointer (some ⟨hb,0,none⟩),.int .i64 k] Q H:=by
 apply DZ
 unfold LG iV pV cS
 refine rU hR ?_
 unfold qx
 unfold RH.size at h
 cases ho:aH r.objs k with
 | none=>rw [ho] at h;exact ⟨_,_,rfl,by simpa using h⟩
 | some o =>
  rw [ho] at h
  have hm:=(aM ho).1
  refine ⟨_,_,rfl,?_⟩
  simp only [ae,cond_true,cond_false,Option.isNone_some,Option.isNone_none,aL,aB,aY,aQ,aJ,aR,aU,aC,aW,aV,aK,aX,and_assoc,true_and,and_true,ao,Nat.zero_add,Nat.mul_one,az,ax,aD,Bool.not_true,Bool.not_false,bj,bf,ne_eq,not_true_eq_false,if_false]
  exact rD hR hm ⟨_,_,rfl,h⟩
theorem NL {w f:Int} (hk:dw H) (h:Q (.bool (decide (io f w))) H):ah PP K9 #[.int .i64 w,.int .i64 f] Q H:=by
 apply Ai
 unfold Mc iV cS
 have fin:∀ b:Bool,b=decide (io f w)->Q (.bool b) H:=fun b hb=>hb ▸ h
 simp only [ae,cond_true,cond_false,Option.isNone_some,Option.isNone_none,aL,aB,aY,aQ,aJ,aR,aU,aC,aW,aV,aK,aX,and_assoc,true_and,and_true,ao,Nat.zero_add,Nat.mul_one,az,ax,aD,Bool.not_true,Bool.not_false,bj,bf]
 split
 ·rename_i hf
  split
  ·exact fin _ (by simp [io,hf];omega)
  ·exact fin _ (by simp [io,hf];omega)
 ·rename_i hf
  exact sA hk ⟨_,rfl,fin _ (by simp [io,hf])⟩
theorem yE (hR:PHs H hb wb tb bb W T B low r) (h:Q (.int .i64 r.mark) H):ah PP D2 #[.pointer (some ⟨hb,0,none⟩)] Q H:=by
 apply II
 unfold Rj iV
 simp only [ae,cond_true,cond_false,Option.isNone_some,Option.isNone_none,aL,aB,aY,aQ,aJ,aR,aU,aC,aW,aV,aK,aX,and_assoc,true_and,and_true,ao,Nat.zero_add,Nat.mul_one,az,ax,aD,Bool.not_true,Bool.not_false,bj,bf,hR.c6]
 exact h
end
section
variable {H:aj}{hb wb tb bb:Nat}{W T B:Int->Int}{low:Int}{r:RH}{Q:QT}
theorem x6 {F:ay} (hR:dp H hb F r){k:Int} (h:∀ H',dp H' hb F (r.marks k).2->Fr F H H'->Q (.int .i64 (r.marks k).1) H'):ah PP PW #[.pointer (some ⟨hb,0,none⟩),.int .i64 k] Q H:=by
 have hR0:=hR
 obtain ⟨wb,tb,bb,W,T,B,low,rfl,hR⟩:=hR
 apply Ey
 unfold QP iV pV cS
 refine lF hR ⟨_,rfl,?_⟩
 simp only [cond_false]
 refine nO ⟨_,rfl,?_⟩
 have hd:=hR.d
 simp only [List.nodup_cons,List.mem_cons,List.not_mem_nil,or_false,not_or] at hd
 unfold RH.marks at h
 by_cases hk:0<=k∧k<=1073741824
 ·simp only [hk,and_self,if_true] at h
  simp only [ae,cond_true,cond_false,Option.isNone_some,Option.isNone_none,aL,aB,aY,aQ,aJ,aR,aU,aC,aW,aV,aK,aX,and_assoc,true_and,and_true,ao,Nat.zero_add,Nat.mul_one,az,ax,aD,Bool.not_true,Bool.not_false,bj,bf,hk]
  refine ⟨hR.hd.wr (by simp),h _ ⟨wb,tb,bb,W,T,B,low,rfl,?_⟩ (Fr.set (by simp))⟩
  exact { hd:=hR.hd.set 6 (.int .i64 k),mw:=hR.mw.set_ne (by simp;omega) _,mt:=hR.mt.set_ne (by simp;omega) _,mb:=hR.mb.set_ne (by simp;omega) _,d:=hR.d,kinds:=hR.kinds.fr (Fr.set (F:=[hb]) (by simp)) (by simp;omega),wf:={ hR.wf with m0:=hk.1,m1:=hk.2 },sim:={ hR.sim with } }
 ·simp only [hk,if_false] at h
  simp only [ae,cond_true,cond_false,Option.isNone_some,Option.isNone_none,aL,aB,aY,aQ,aJ,aR,aU,aC,aW,aV,aK,aX,and_assoc,true_and,and_true,ao,Nat.zero_add,Nat.mul_one,az,ax,aD,Bool.not_true,Bool.not_false,bj,bf,hk]
  exact h H hR0 (Fr.refl _ _)
theorem EN (hw:WFH r) (hs:SimH W T B low r){o:RO}{k i w:Int} (ho:aH r.objs k=some o) (h0:0<=i) (h1:i<o.slots.length) (hf:o.fmt=0) :
  SimH (upd W (o.place+2+i) w) T B low { r with objs:=iU r.objs k (iS i w) }:=by
 have hom:=aM ho
 have hlen:o.len=2+(o.slots.length:Int):=by unfold RO.len lenOf;rw [if_neg (by omega)]
 have key:∀ o'∈iU r.objs k (iS i w),∃ a∈r.objs,(a.oop=k∧a=o∧o'=iS i w o)∨(a.oop≠k∧o'=a∧(a.place+a.len<=o.place∨o.place+o.len<=a.place)):=by
  intro o' ho'
  simp only [iU,List.mem_map] at ho'
  obtain ⟨a,ha,rfl⟩:=ho'
  refine ⟨a,ha,?_⟩
  split
  ·rename_i hk
   have:a=o:=by have:=bW hw.objs ha;rw [hk,ho] at this;exact (Option.some.inj this).symm
   exact .inl ⟨hk,this,by rw [this]⟩
  ·rename_i hk
   exact .inr ⟨hk,rfl,apart hw.objs ha hom.1 (by rw [hom.2];exact hk)⟩
 refine { tab:=fun j g0 g1=>?_,bor:=fun o' ho'=>?_,cls:=fun o' ho'=>?_,shp:=fun o' ho'=>?_,wrd:=fun o' ho' hf' j hj=>?_,byt:=fun o' ho' hf' j hj=>?_,byr:=fun o' ho' hf' j hj1 hj2=>?_,low1:=hs.low1,low2:=hs.low2,low3:=fun j g0 g1=>?_ }
 ·rw [hs.tab j g0 g1]
  have e:=gH (l:=r.objs) (k:=k) (j:=j) (f:=iS i w) fun _=>rfl
  simp only [e]
  cases aH r.objs j with
  | none=>rfl
  | some a=>simp only [Option.map_some];split <;> rfl
 ·obtain ⟨a,ha,⟨hk,rfl,rfl⟩ | ⟨hk,rfl,hd⟩⟩:=key o' ho'
  ·exact hs.bor a ha
  ·exact hs.bor _ ha
 ·obtain ⟨a,ha,⟨hk,rfl,rfl⟩ | ⟨hk,rfl,hd⟩⟩:=key o' ho'
  ·show upd W _ w a.place=a.cls
   rw [upd,if_neg (by omega)];exact hs.cls _ ha
  ·have:=o'.len_pos
   rw [upd,if_neg (by omega)];exact hs.cls _ ha
 ·obtain ⟨a,ha,⟨hk,rfl,rfl⟩ | ⟨hk,rfl,hd⟩⟩:=key o' ho'
  ·show upd W _ w (a.place+1)=2*(((a.slots.set i.toNat w).length:Nat):Int)+a.fmt
   rw [upd,if_neg (by omega),List.length_set];exact hs.shp _ ha
  ·have:=o'.len_pos
   rw [upd,if_neg (by omega)];exact hs.shp _ ha
 ·obtain ⟨a,ha,⟨hk,rfl,rfl⟩ | ⟨hk,rfl,hd⟩⟩:=key o' ho'
  ·have hj':j<a.slots.length:=by simpa [iS] using hj
   show upd W _ w (a.place+2+j)=(a.slots.set i.toNat w).getD j 0
   unfold upd
   split
   ·rename_i he
    have:i.toNat=j:=by omega
    simp [this,hj']
   ·rename_i he
    have hne:i.toNat≠j:=by omega
    rw [hs.wrd _ ha hf j hj']
    simp [List.getElem?_set,hne]
  ·have hl:o'.len=2+(o'.slots.length:Int):=by unfold RO.len lenOf;rw [if_neg (by omega)]
   rw [upd,if_neg (by omega)];exact hs.wrd _ ha hf' j hj
 ·obtain ⟨a,ha,⟨hk,rfl,rfl⟩ | ⟨hk,rfl,hd⟩⟩:=key o' ho'
  ·have:a.fmt=1:=hf'
   omega
  ·have hl:o'.len=2+((o'.slots.length:Int)+3) / 4:=by unfold RO.len lenOf;rw [if_pos hf']
   rw [upd,if_neg (by omega)];exact hs.byt _ ha hf' j hj
 ·obtain ⟨a,ha,⟨hk,rfl,rfl⟩ | ⟨hk,rfl,hd⟩⟩:=key o' ho'
  ·have:a.fmt=1:=hf'
   omega
  ·rw [upd,if_neg (by omega)];exact hs.byr _ ha hf' j hj1 hj2
 ·have:=hs.low3 j g0 g1
  have e:=gH (l:=r.objs) (k:=k) (j:=j) (f:=iS i w) fun _=>rfl
  simp only [e]
  cases hj:aH r.objs j with
  | none=>exact absurd hj this
  | some a=>simp
theorem jS {F:ay} (hR:dp H hb F r){k i w:Int} (hf:∀ o,aH r.objs k=some o->o.fmt=0) (h:∀ H',dp H' hb F (r.put k i w).2->Fr F H H'->Q (.int .i64 (r.put k i w).1) H'):ah PP GD #[.pointer (some ⟨hb,0,none⟩),.int .i64 k,.int .i64 i,.int .i64 w] Q H:=by
 have hR0:=hR
 obtain ⟨wb,tb,bb,W,T,B,low,rfl,hR⟩:=hR
 apply BT
 unfold NQ iV pV lV cS
 refine xT hR ?_
 unfold vP
 have hwf:=il hR.wf k i w
 unfold RH.put at h hwf
 cases ho:aH r.objs k with
 | none=>rw [ho] at h;exact ⟨_,_,_,_,rfl,by simpa using h H hR0 (Fr.refl _ _)⟩
 | some o =>
  rw [ho] at h hwf
  have hm:=(aM ho).1
  obtain ⟨h1,h2,h3,h4,h5,h6⟩:=hR.in_ hm
  simp only at h hwf ⊢
  split
  ·rename_i hi
   simp only [if_pos hi] at h
   exact ⟨_,_,_,_,rfl,by simpa using h H hR0 (Fr.refl _ _)⟩
  ·rename_i hi
   simp only [if_neg hi] at h hwf
   have hs:=vi hR hm (i:=i) (by omega) (by omega)
   have hf0:=hf o ho
   rw [if_neg (by omega)]
   have hs:=hs.2 (by omega)
   refine ⟨_,_,_,_,rfl,?_⟩
   simp only [ae,cond_true,cond_false,Option.isNone_some,Option.isNone_none,aL,aB,aY,aQ,aJ,aR,aU,aC,aW,aV,aK,aX,and_assoc,true_and,and_true,ao,Nat.zero_add,Nat.mul_one,az,ax,aD,Bool.not_true,Bool.not_false,bj,bf,ne_eq,not_true_eq_false,if_false]
   refine NL hR.kinds ⟨_,rfl,?_⟩
   by_cases hmay:io o.fmt w
   ·simp only [hmay,not_true_eq_false,if_false] at h hwf
    have hmay':io 0 w:=hf0 ▸ hmay
    simp only [ae,cond_true,cond_false,Option.isNone_some,Option.isNone_none,aL,aB,aY,aQ,aJ,aR,aU,aC,aW,aV,aK,aX,and_assoc,true_and,and_true,ao,Nat.zero_add,Nat.mul_one,az,ax,aD,Bool.not_true,Bool.not_false,bj,bf,hf0,hmay',decide_true,hR.c0]
    rw [if_neg (by decide)]
    refine ⟨by omega,by omega,hR.mw.wr (by omega) (by omega),h _ ⟨wb,tb,bb,upd W (o.place+2+i) w,T,B,low,rfl,?_⟩ (Fr.set (by simp))⟩
    have hd:=hR.d
    simp only [List.nodup_cons,List.mem_cons,List.not_mem_nil,or_false,not_or] at hd
    refine { hd:=?_,mw:=hR.mw.set (by omega) w,mt:=hR.mt.set_ne (by simp;omega) _,mb:=hR.mb.set_ne (by simp;omega) _,d:=hR.d,kinds:=hR.kinds.fr (Fr.set (F:=[wb]) (by simp)) (by simp;omega),wf:=hwf,sim:=EN hR.wf hR.sim ho (by omega) (by omega) hf0 }
    have:=hR.hd.set_ne (a:=⟨wb,(o.place+2+i).toNat,none⟩) (by simp;omega) (.int .i64 w)
    simp only [zH,pL (k:=k) (f:=iS i w) (l:=r.objs) (fun _=>rfl) (nR i w)]
    exact this
   ·simp only [hmay,not_false_eq_true,if_true] at h
    simp only [ae,cond_true,cond_false,Option.isNone_some,Option.isNone_none,aL,aB,aY,aQ,aJ,aR,aU,aC,aW,aV,aK,aX,and_assoc,true_and,and_true,ao,Nat.zero_add,Nat.mul_one,az,ax,aD,Bool.not_true,Bool.not_false,bj,bf,hmay,decide_false]
    exact h H hR0 (Fr.refl _ _)
end
structure PV where
 W:Int->Int
 T:Int->Int
 B:Int->Int
 count:Int
 en:Int
 low:Int
 mark:Int
 ever:Int
 turn:Int
structure Raw (H:aj) (hb wb tb bb nw nt:Nat) (p:PV):Prop where
 hd:bA H hb #[.slice (some ⟨wb,0,none⟩) nw nw,.slice (some ⟨tb,0,none⟩) nt nt,.slice (some ⟨bb,0,none⟩) nt nt,.int .i64 p.count,.int .i64 p.en,.int .i64 p.low,.int .i64 p.mark,.int .i64 p.ever,.int .i64 p.turn]
 mw:dM H wb nw p.W
 mt:dM H tb nt p.T
 mb:dM H bb nt p.B
 d:[hb,wb,tb,bb,aE].Nodup
section
variable {H:aj}{hb wb tb bb nw nt:Nat}{p:PV}{W T B:Int->Int}{low:Int}{r:RH}{Q:QT}
theorem PHs.raw (h:PHs H hb wb tb bb W T B low r):Raw H hb wb tb bb r.words.toNat (r.oops+1).toNat ⟨W,T,B,r.objs.length,bn r.objs,low,r.mark,r.born,r.turn⟩:=⟨h.hd,h.mw,h.mt,h.mb,h.d⟩
theorem Raw.phs (h:Raw H hb wb tb bb nw nt p) (hk:dw H) (hw:WFH r) (hs:SimH p.W p.T p.B p.low r) (e1:nw=r.words.toNat) (e2:nt=(r.oops+1).toNat) (e3:p.count=r.objs.length) (e4:p.en=bn r.objs) (e5:p.mark=r.mark) (e6:p.ever=r.born) (e7:p.turn=r.turn):PHs H hb wb tb bb p.W p.T p.B p.low r:=by
 subst e1;subst e2
 have h1:=h.hd
 rw [e3,e4,e5,e6,e7] at h1
 exact ⟨h1,h.mw,h.mt,h.mb,h.d,hk,hw,hs⟩
theorem Raw.c0 (h:Raw H hb wb tb bb nw nt p):ac H ⟨hb,0,none⟩=some (.slice (some ⟨wb,0,none⟩) nw nw):=h.hd.cell 0
theorem Raw.c1 (h:Raw H hb wb tb bb nw nt p):ac H ⟨hb,1,none⟩=some (.slice (some ⟨tb,0,none⟩) nt nt):=h.hd.cell 1
theorem Raw.c2 (h:Raw H hb wb tb bb nw nt p):ac H ⟨hb,2,none⟩=some (.slice (some ⟨bb,0,none⟩) nt nt):=h.hd.cell 2
theorem Raw.c3 (h:Raw H hb wb tb bb nw nt p):ac H ⟨hb,3,none⟩=some (.int .i64 p.count):=h.hd.cell 3
theorem Raw.c4 (h:Raw H hb wb tb bb nw nt p):ac H ⟨hb,4,none⟩=some (.int .i64 p.en):=h.hd.cell 4
theorem Raw.c5 (h:Raw H hb wb tb bb nw nt p):ac H ⟨hb,5,none⟩=some (.int .i64 p.low):=h.hd.cell 5
theorem Raw.c6 (h:Raw H hb wb tb bb nw nt p):ac H ⟨hb,6,none⟩=some (.int .i64 p.mark):=h.hd.cell 6
theorem Raw.c7 (h:Raw H hb wb tb bb nw nt p):ac H ⟨hb,7,none⟩=some (.int .i64 p.ever):=h.hd.cell 7
theorem Raw.c8 (h:Raw H hb wb tb bb nw nt p):ac H ⟨hb,8,none⟩=some (.int .i64 p.turn):=h.hd.cell 8
theorem Raw.word (h:Raw H hb wb tb bb nw nt p){i:Int} (h0:0<=i) (h1:i<nw):ac H ⟨wb,i.toNat,none⟩=some (.int .i64 (p.W i)):=h.mw.cell h0 h1
theorem Raw.tabc (h:Raw H hb wb tb bb nw nt p){i:Int} (h0:0<=i) (h1:i<nt):ac H ⟨tb,i.toNat,none⟩=some (.int .i64 (p.T i)):=h.mt.cell h0 h1
theorem Raw.ne (h:Raw H hb wb tb bb nw nt p):(hb≠wb∧hb≠tb∧hb≠bb∧hb≠aE)∧(wb≠tb∧wb≠bb∧wb≠aE)∧(tb≠bb∧tb≠aE)∧bb≠aE:=by
 have hd:=h.d
 simpa only [List.nodup_cons,List.mem_cons,List.not_mem_nil,or_false,not_or,not_false_eq_true,List.nodup_nil,and_true] using hd
theorem Raw.setW (h:Raw H hb wb tb bb nw nt p){i:Int} (h0:0<=i) (v:Int):Raw (au H ⟨wb,i.toNat,none⟩ (.int .i64 v)) hb wb tb bb nw nt { p with W:=upd p.W i v }:=by
 obtain ⟨⟨n1,n2,n3,n4⟩,⟨n5,n6,n7⟩,⟨n8,n9⟩,n10⟩:=h.ne
 exact ⟨h.hd.set_ne n1 _,h.mw.set h0 v,h.mt.set_ne n5.symm _,h.mb.set_ne n6.symm _,h.d⟩
theorem Raw.setT (h:Raw H hb wb tb bb nw nt p){i:Int} (h0:0<=i) (v:Int):Raw (au H ⟨tb,i.toNat,none⟩ (.int .i64 v)) hb wb tb bb nw nt { p with T:=upd p.T i v }:=by
 obtain ⟨⟨n1,n2,n3,n4⟩,⟨n5,n6,n7⟩,⟨n8,n9⟩,n10⟩:=h.ne
 exact ⟨h.hd.set_ne n2 _,h.mw.set_ne n5 _,h.mt.set h0 v,h.mb.set_ne n8.symm _,h.d⟩
theorem Raw.setB (h:Raw H hb wb tb bb nw nt p){i:Int} (h0:0<=i) (v:Int):Raw (au H ⟨bb,i.toNat,none⟩ (.int .i64 v)) hb wb tb bb nw nt { p with B:=upd p.B i v }:=by
 obtain ⟨⟨n1,n2,n3,n4⟩,⟨n5,n6,n7⟩,⟨n8,n9⟩,n10⟩:=h.ne
 exact ⟨h.hd.set_ne n3 _,h.mw.set_ne n6 _,h.mt.set_ne n8 _,h.mb.set h0 v,h.d⟩
theorem Raw.set3 (h:Raw H hb wb tb bb nw nt p) (v:Int):Raw (au H ⟨hb,3,none⟩ (.int .i64 v)) hb wb tb bb nw nt { p with count:=v }:=by
 obtain ⟨⟨n1,n2,n3,n4⟩,_⟩:=h.ne
 exact ⟨h.hd.set 3 (.int .i64 v),h.mw.set_ne n1.symm _,h.mt.set_ne n2.symm _,h.mb.set_ne n3.symm _,h.d⟩
theorem Raw.set4 (h:Raw H hb wb tb bb nw nt p) (v:Int):Raw (au H ⟨hb,4,none⟩ (.int .i64 v)) hb wb tb bb nw nt { p with en:=v }:=by
 obtain ⟨⟨n1,n2,n3,n4⟩,_⟩:=h.ne
 exact ⟨h.hd.set 4 (.int .i64 v),h.mw.set_ne n1.symm _,h.mt.set_ne n2.symm _,h.mb.set_ne n3.symm _,h.d⟩
theorem Raw.set5 (h:Raw H hb wb tb bb nw nt p) (v:Int):Raw (au H ⟨hb,5,none⟩ (.int .i64 v)) hb wb tb bb nw nt { p with low:=v }:=by
 obtain ⟨⟨n1,n2,n3,n4⟩,_⟩:=h.ne
 exact ⟨h.hd.set 5 (.int .i64 v),h.mw.set_ne n1.symm _,h.mt.set_ne n2.symm _,h.mb.set_ne n3.symm _,h.d⟩
theorem Raw.set6 (h:Raw H hb wb tb bb nw nt p) (v:Int):Raw (au H ⟨hb,6,none⟩ (.int .i64 v)) hb wb tb bb nw nt { p with mark:=v }:=by
 obtain ⟨⟨n1,n2,n3,n4⟩,_⟩:=h.ne
 exact ⟨h.hd.set 6 (.int .i64 v),h.mw.set_ne n1.symm _,h.mt.set_ne n2.symm _,h.mb.set_ne n3.symm _,h.d⟩
theorem Raw.set7 (h:Raw H hb wb tb bb nw nt p) (v:Int):Raw (au H ⟨hb,7,none⟩ (.int .i64 v)) hb wb tb bb nw nt { p with ever:=v }:=by
 obtain ⟨⟨n1,n2,n3,n4⟩,_⟩:=h.ne
 exact ⟨h.hd.set 7 (.int .i64 v),h.mw.set_ne n1.symm _,h.mt.set_ne n2.symm _,h.mb.set_ne n3.symm _,h.d⟩
theorem Raw.set8 (h:Raw H hb wb tb bb nw nt p) (v:Int):Raw (au H ⟨hb,8,none⟩ (.int .i64 v)) hb wb tb bb nw nt { p with turn:=v }:=by
 obtain ⟨⟨n1,n2,n3,n4⟩,_⟩:=h.ne
 exact ⟨h.hd.set 8 (.int .i64 v),h.mw.set_ne n1.symm _,h.mt.set_ne n2.symm _,h.mb.set_ne n3.symm _,h.d⟩
theorem Raw.wrh (h:Raw H hb wb tb bb nw nt p){i:Nat} (hi:i<9):Wr H ⟨hb,i,none⟩:=h.hd.wr hi
theorem Raw.keep (h:Raw H hb wb tb bb nw nt p){F:ay}{H':aj} (hf:Fr F H H') (hd:bi [hb,wb,tb,bb] F):Raw H' hb wb tb bb nw nt p :=
 ⟨h.hd.fr hf (hd _ (by simp)),h.mw.fr hf (hd _ (by simp)),h.mt.fr hf (hd _ (by simp)),h.mb.fr hf (hd _ (by simp)),h.d⟩
def PD (p:PV) (oop cls n f:Int):PV:={ p with W:=upd (upd p.W p.en cls) (p.en+1) (2*n+f),T:=upd p.T oop p.en,B:=upd p.B oop p.ever,en:=p.en+lenOf n f,ever:=IntKind.wrap .i64 (p.ever+1),count:=p.count+1 }
theorem Pc (hR:Raw H hb wb tb bb nw nt p){oop cls n f:Int} (h0:0<=p.en) (h1:p.en+2<=nw) (h1':nw<=1048576) (h2:0<=oop) (h3:oop<nt) (h4:0<=n) (h5:n<=8192) (h6:f=0∨f=1) (h7:0<=p.count) (h8:p.count<=100000)
  (h:∀ H',Raw H' hb wb tb bb nw nt (PD p oop cls n f)->Fr [hb,wb,tb,bb] H H'->Q (.int .i64 p.en) H'):ah PP yD #[.pointer (some ⟨hb,0,none⟩),.int .i64 oop,.int .i64 cls,.int .i64 n,.int .i64 f] Q H:=by
 apply Cn
 unfold Pg iV wW lV cS;dsimp only [shH]
 have e1:kS .i64 n 1=2*n:=by
  have:=m8 n 1 (by decide) ⟨by simp;omega,by simp;omega⟩
  simpa [Int.mul_comm] using this
 have e2:Am .i64 (2*n) f=2*n+f:=by
  have:=nr (2*n) 1 f.toNat (by decide) (by omega) ⟨by omega,by omega⟩ (by simp)
  rw [Int.toNat_of_nonneg (by omega)] at this
  exact this
 have e3:IntKind.wrap .i64 (p.en+1)=p.en+1:=am (by omega) (by omega)
 have r1:=hR.setW (i:=p.en) h0 cls
 have r2:=r1.setW (i:=p.en+1) (by omega) (2*n+f)
 have r3:=r2.setT (i:=oop) h2 p.en
 have r4:=r3.setB (i:=oop) h2 p.ever
 have hl:=gR (n:=n) (fmt:=f) h4
 have hl2:=iz (n:=n) (fmt:=f) h4
 have e4:IntKind.wrap .i64 (p.en+lenOf n f)=p.en+lenOf n f:=am (by omega) (by omega)
 have e5:IntKind.wrap .i64 (p.count+1)=p.count+1:=am (by omega) (by omega)
 have r5:=r4.set4 (p.en+lenOf n f)
 have r6:=r5.set7 (IntKind.wrap .i64 (p.ever+1))
 have r7:=r6.set3 (p.count+1)
 simp only [ae,cond_true,cond_false,Option.isNone_some,Option.isNone_none,aL,aB,aY,aQ,aJ,aR,aU,aC,aW,aV,aK,aX,and_assoc,true_and,and_true,ao,Nat.zero_add,Nat.mul_one,az,ax,aD,Bool.not_true,Bool.not_false,bj,bf,e1,e2,e3,hR.c4,hR.c0,r2.c1,r2.c2,r2.c7,r4.c4]
 refine ⟨by omega,by omega,hR.mw.wr h0 (by omega),by omega,by omega,r1.mw.wr (by omega) (by omega),by omega,by omega,r2.mt.wr h2 h3,h2,h3,r3.mb.wr h2 h3,?_⟩
 refine kT h4 (by omega) ?_
 simp only [ae,cond_true,cond_false,Option.isNone_some,Option.isNone_none,aL,aB,aY,aQ,aJ,aR,aU,aC,aW,aV,aK,aX,and_assoc,true_and,and_true,ao,Nat.zero_add,Nat.mul_one,az,ax,aD,Bool.not_true,Bool.not_false,bj,bf,r4.c4,e4,r5.c7,r6.c3,e5]
 refine ⟨r4.wrh (by decide),r5.wrh (by decide),r6.wrh (by decide),h _ r7 ?_⟩
 ·exact ((((((((Fr.refl _ _).step (by simp)).step (by simp)).step (by simp)).step (by simp)).step (by simp)).step (by simp)).step (by simp))
end
section
variable {H:aj}{hb wb tb bb:Nat}{W T B:Int->Int}{low:Int}{r:RH}{Q:QT}
theorem GN (hw:WFH r) (hs:SimH W T B low r){cls n f m' ev':Int}{W':Int->Int} (hn:0<=n) (hf:f=0∨f=1) (hlt:(r.objs.length:Int)<r.oops)
  (h0:∀ i,i<bn r.objs->W' i=W i) (h1:W' (bn r.objs)=cls) (h2:W' (bn r.objs+1)=2*n+f) (h3:∀ i,bn r.objs+2<=i->i<bn r.objs+lenOf n f->W' i=if f=1 then 0 else 4) :
  SimH W' (upd T (bP r.objs) (bn r.objs)) (upd B (bP r.objs) r.born) (bP r.objs+1) { r with mark:=m',born:=ev',objs:=r.objs++[dV r cls n f] }:=by
 have hl:=dL hw.objs hw.o1 hlt
 have hend:=bO hw.objs hw.w0
 have key:∀ o∈r.objs++[dV r cls n f],(o∈r.objs∧o.place+o.len<=bn r.objs∧o.oop≠bP r.objs)∨o=dV r cls n f:=by
  intro o ho
  rcases List.mem_append.1 ho with ho | ho
  ·exact .inl ⟨ho,kR hw.objs ho,dt.1 hl.2.2.1 o ho⟩
  ·exact .inr (by simpa using ho)
 have hnl:((dV r cls n f).slots.length:Int)=n:=by simp only [dV,List.length_replicate];omega
 have hnn:(dV r cls n f).len=lenOf n f:=by simp only [RO.len,hnl];rfl
 have hget:∀ i:Nat,i<(dV r cls n f).slots.length->(dV r cls n f).slots.getD i 0=if f=1 then 0 else 4:=by
  intro i hi
  simp only [dV,List.length_replicate] at hi
  simp [dV,hi]
 refine { tab:=fun j g0 g1=>?_,bor:=fun o ho=>?_,cls:=fun o ho=>?_,shp:=fun o ho=>?_,wrd:=fun o ho hf' j hj=>?_,byt:=fun o ho hf' j hj=>?_,byr:=fun o ho hf' j hj1 hj2=>?_,low1:=by omega,low2:=by show bP r.objs+1<=r.oops+1;omega,low3:=fun j g0 g1=>?_ }
 ·have e:=gu (l:=r.objs) (x:=dV r cls n f) (k:=j)
  simp only [e]
  unfold upd
  by_cases hj:j=bP r.objs
  ·subst hj
   rw [if_pos rfl,hl.2.2.1]
   simp [dV]
  ·rw [if_neg hj,hs.tab j g0 g1]
   cases aH r.objs j with
   | some o=>rfl
   | none =>
    simp only
    rw [if_neg]
    exact fun e=>hj e.symm
 ·rcases key o ho with ⟨h4,h5,h6⟩ | rfl
  ·rw [upd,if_neg h6];exact hs.bor o h4
  ·simp [dV,upd]
 ·rcases key o ho with ⟨h4,h5,h6⟩ | rfl
  ·have:=o.len_pos
   rw [h0 _ (by omega)];exact hs.cls o h4
  ·exact h1
 ·rcases key o ho with ⟨h4,h5,h6⟩ | rfl
  ·have:=o.len_pos
   rw [h0 _ (by omega)];exact hs.shp o h4
  ·rw [hnl];exact h2
 ·rcases key o ho with ⟨h4,h5,h6⟩ | rfl
  ·have hlo:o.len=2+(o.slots.length:Int):=by unfold RO.len lenOf;rw [if_neg (by omega)]
   rw [h0 _ (by omega)];exact hs.wrd o h4 hf' j hj
  ·rw [hget j hj]
   have hf0:f=0:=hf'
   have hlo:lenOf n f=2+n:=by unfold lenOf;rw [if_neg (by omega)]
   exact h3 _ (by simp only [dV];omega) (by simp only [dV];rw [hlo];omega)
 ·rcases key o ho with ⟨h4,h5,h6⟩ | rfl
  ·have hlo:o.len=2+((o.slots.length:Int)+3) / 4:=by unfold RO.len lenOf;rw [if_pos hf']
   rw [h0 _ (by omega)];exact hs.byt o h4 hf' j hj
  ·rw [hget j hj]
   have hf1:f=1:=hf'
   have hlo:lenOf n f=2+(n+3) / 4:=by unfold lenOf;rw [if_pos hf1]
   rw [h3 _ (by simp only [dV];omega) (by simp only [dV];rw [hlo];omega),if_pos hf1]
   simp
 ·rcases key o ho with ⟨h4,h5,h6⟩ | rfl
  ·rw [h0 _ (by omega)];exact hs.byr o h4 hf' j hj1 hj2
  ·have hf1:f=1:=hf'
   rw [hnn] at hj2
   rw [h3 _ hj1 hj2,if_pos hf1]
   simp
 ·have e:=gu (l:=r.objs) (x:=dV r cls n f) (k:=j)
  simp only [e]
  by_cases hj:j=bP r.objs
  ·subst hj
   rw [hl.2.2.1]
   simp [dV]
  ·have:=hl.2.2.2 j g0 (by omega)
   cases hj:aH r.objs j with
   | none=>exact absurd hj this
   | some o=>simp
theorem qW {F:ay} (hR:dp H hb F r){cls n f:Int} (h:∀ H',dp H' hb F (r.alloc cls n f).2->Fr F H H'->Q (mP (r.alloc cls n f).1) H'):ah PP yb #[.pointer (some ⟨hb,0,none⟩),.int .i64 cls,.int .i64 n,.int .i64 f] Q H:=by
 have hR0:=hR
 obtain ⟨wb,tb,bb,W,T,B,low,rfl,hR⟩:=hR
 apply Gz
 unfold QR iV wW pV lV cS;dsimp only [shH]
 have hwf:=hR.wf
 have hen:=bO hwf.objs hwf.w0
 have hw1:=hwf.w1
 have ho0:=hwf.o0
 have ho1:=hwf.o1
 have hm0:=hwf.m0
 have hm1:=hwf.m1
 have hne:=hR.raw.ne
 refine ⟨fun w H'=>w=[]∧PHs H' hb wb tb bb W T B low { r with mark:=if 0<r.mark then r.mark-1 else r.mark }∧Fr [hb,wb,tb,bb] H H'∧dG cls∧(f=0∨f=1)∧0<=n∧n<=8192∧(r.objs.length:Int)<r.oops∧bn r.objs+lenOf n f<=r.words∧r.mark≠1,?_,?_⟩
 ·refine lF hR ⟨_,rfl,?_⟩
  simp only [cond_false]
  refine sA hR.kinds ⟨_,rfl,?_⟩
  unfold RH.alloc at h
  by_cases hcl:dG cls
  ·by_cases hf:f=0∨f=1
   ·simp only [ae,cond_true,cond_false,Option.isNone_some,Option.isNone_none,aL,aB,aY,aQ,aJ,aR,aU,aC,aW,aV,aK,aX,and_assoc,true_and,and_true,ao,Nat.zero_add,Nat.mul_one,az,ax,aD,Bool.not_true,Bool.not_false,bj,bf,hcl,decide_true]
    have hX:∀ {X Y:Prop},X->(if f≠0 then if f≠1 then Y else X else X):=fun {X Y} hx=>by
     split
     ·rw [if_neg (by omega)];exact hx
     ·exact hx
    refine hX ?_
    split
    ·rename_i hn
     simp only [hcl,not_true_eq_false,false_or,hn,or_true,if_true] at h
     exact h H hR0 (Fr.refl _ _)
    ·rename_i hn
     have n1:¬ (¬ dG cls∨f<0∨1<f∨n<0):=fun hh=>hh.elim (fun hh=>hh hcl) (by omega)
     rw [if_neg n1] at h
     split
     ·rename_i hn2
      rw [if_pos (by omega)] at h
      exact h H hR0 (Fr.refl _ _)
     ·rename_i hn2
      rw [if_neg (by omega)] at h
      have hl:=gR (n:=n) (fmt:=f) (by omega)
      have hl2:=iz (n:=n) (fmt:=f) (by omega)
      simp only [ae,cond_true,cond_false,Option.isNone_some,Option.isNone_none,aL,aB,aY,aQ,aJ,aR,aU,aC,aW,aV,aK,aX,and_assoc,true_and,and_true,ao,Nat.zero_add,Nat.mul_one,az,ax,aD,Bool.not_true,Bool.not_false,bj,bf,hR.c3,hR.c1,hR.c0,hR.c4]
      rw [am (n:=((r.oops+1).toNat:Int)-1) (by omega) (by omega)]
      split
      ·rename_i hc
       rw [if_pos (.inl (by omega))] at h
       exact h H hR0 (Fr.refl _ _)
      ·rename_i hc
       refine kT (by omega) (by omega) ⟨_,rfl,hR.c4,hR.c0,?_⟩
       rw [am (n:=(r.words.toNat:Int)-bn r.objs) (by omega) (by omega)]
       simp only [ae,cond_true,cond_false,Option.isNone_some,Option.isNone_none,aL,aB,aY,aQ,aJ,aR,aU,aC,aW,aV,aK,aX,and_assoc,true_and,and_true,ao,Nat.zero_add,Nat.mul_one,az,ax,aD,Bool.not_true,Bool.not_false,bj,bf,hR.c6]
       split
       ·rename_i hl3
        rw [if_pos (.inr (by omega))] at h
        exact h H hR0 (Fr.refl _ _)
       ·rename_i hl3
        rw [if_neg (by omega)] at h
        split
        ·rename_i hm
         rw [if_pos hm] at h
         have r1:=hR.raw.set6 0
         exact ⟨hR.raw.wrh (by decide),h _ ⟨wb,tb,bb,W,T,B,low,rfl,r1.phs (hR.kinds.fr (Fr.set (F:=[hb]) (by simp)) (by simp;omega)) { hwf with m0:=by simp,m1:=by simp } { hR.sim with } rfl rfl rfl rfl rfl rfl rfl⟩ (Fr.set (by simp))⟩
        ·rename_i hm
         split
         ·rename_i hm2
          have r1:=hR.raw.set6 (r.mark-1)
          rw [am (n:=r.mark-1) (by omega) (by omega)]
          refine ⟨hR.raw.wrh (by decide),?_,Fr.set (by simp),hf,by omega,by omega,by omega,by omega,hm⟩
          exact r1.phs (hR.kinds.fr (Fr.set (F:=[hb]) (by simp)) (by simp;omega)) { hwf with m0:=by simp;omega,m1:=by simp;omega } { hR.sim with } rfl rfl rfl rfl rfl rfl rfl
         ·rename_i hm2
          refine ⟨?_,Fr.refl _ _,hf,by omega,by omega,by omega,by omega,hm⟩
          exact hR
   ·simp only [ae,cond_true,cond_false,Option.isNone_some,Option.isNone_none,aL,aB,aY,aQ,aJ,aR,aU,aC,aW,aV,aK,aX,and_assoc,true_and,and_true,ao,Nat.zero_add,Nat.mul_one,az,ax,aD,Bool.not_true,Bool.not_false,bj,bf,hcl,decide_true]
    rw [if_pos (by omega),if_pos (by omega)]
    rw [if_pos (by omega)] at h
    exact h H hR0 (Fr.refl _ _)
  ·simp only [ae,cond_true,cond_false,Option.isNone_some,Option.isNone_none,aL,aB,aY,aQ,aJ,aR,aU,aC,aW,aV,aK,aX,and_assoc,true_and,and_true,ao,Nat.zero_add,Nat.mul_one,az,ax,aD,Bool.not_true,Bool.not_false,bj,bf,hcl,decide_false]
   rw [if_pos (.inl hcl)] at h
   exact h H hR0 (Fr.refl _ _)
 ·rintro w H1 ⟨rfl,hR1,hF1,hcl,hf,hn,hn2,hlt,hfit,hm⟩ _
  have hlow:=dL hwf.objs ho1 hlt
  have hlo:=hR.sim.low3
  have hllow:low<=bP r.objs:=by
   refine Classical.byContradiction fun hc=>?_
   exact hlo _ hlow.1 (by omega) hlow.2.2.1
  have hl:=gR (n:=n) (fmt:=f) (by omega)
  have hl2:=iz (n:=n) (fmt:=f) (by omega)
  have hl1:=hR.sim.low1
  refine ⟨rfl,?_⟩
  simp only [ae,cond_true,cond_false,Option.isNone_some,Option.isNone_none,aL,aB,aY,aQ,aJ,aR,aU,aC,aW,aV,aK,aX,and_assoc,true_and,and_true,ao,Nat.zero_add,Nat.mul_one,az,ax,aD,Bool.not_true,Bool.not_false,bj,bf,hR1.c5]
  refine ⟨fun w H'=>H'=H1∧∃ k,w=[.int .i64 k]∧low<=k∧k<=bP r.objs,fun w _=>match w with
   | [.int _ k]=>(bP r.objs-k).toNat
   | _=>0,⟨rfl,low,rfl,Int.le_refl _,hllow⟩,?_⟩
  rintro w H2 ⟨rfl,k,rfl,hk1,hk2⟩ _
  refine ⟨k,rfl,?_⟩
  have htk:=hR.sim.tab k (by omega) (by omega)
  have e1:IntKind.wrap .i64 (k+1)=k+1:=am (by omega) (by omega)
  simp only [ae,cond_true,cond_false,Option.isNone_some,Option.isNone_none,aL,aB,aY,aQ,aJ,aR,aU,aC,aW,aV,aK,aX,and_assoc,true_and,and_true,ao,Nat.zero_add,Nat.mul_one,az,ax,aD,Bool.not_true,Bool.not_false,bj,bf,e1,hR1.c1,hR1.tabc (i:=k) (by omega) (by show k<=r.oops;omega)]
  refine ⟨by omega,by show k<((r.oops+1).toNat:Int);omega,?_⟩
  split
  ·rename_i hT
   have hne2:k≠bP r.objs:=by
    rintro rfl
    rw [htk,hlow.2.2.1] at hT
    simp at hT
   exact ⟨⟨k+1,rfl,by omega,by omega⟩,by simp;omega⟩
  ·rename_i hT
   have hkl:k=bP r.objs:=by
    refine Classical.byContradiction fun hc=>?_
    cases ho:aH r.objs k with
    | none=>exact hlow.2.2.2 k (by omega) (by omega) ho
    | some o =>
     rw [ho] at htk
     simp only at htk
     have:=(hR.wf.objs.good o (aM ho).1).pl
     omega
   have r1:=hR1.raw.set5 (k+1)
   refine ⟨hR1.raw.wrh (by decide),?_⟩
   simp only [r1.c0,r1.c4,ae,cond_true,cond_false,Option.isNone_some,Option.isNone_none,aL,aB,aY,aQ,aJ,aR,aU,aC,aW,aV,aK,aX,and_assoc,true_and,and_true,ao,Nat.zero_add,Nat.mul_one,az,ax,aD,Bool.not_true,Bool.not_false,bj,bf]
   refine kT (by omega) (by omega) ?_
   simp only [r1.c0,r1.c4,ae,cond_true,cond_false,Option.isNone_some,Option.isNone_none,aL,aB,aY,aQ,aJ,aR,aU,aC,aW,aV,aK,aX,and_assoc,true_and,and_true,ao,Nat.zero_add,Nat.mul_one,az,ax,aD,Bool.not_true,Bool.not_false,bj,bf]
   have ew1:IntKind.wrap .i64 (bn r.objs+lenOf n f)=bn r.objs+lenOf n f:=am (by omega) (by omega)
   have ew2:IntKind.wrap .i64 (bn r.objs+2)=bn r.objs+2:=am (by omega) (by omega)
   simp only [ew1,ew2]
   have last:∀ H' W',Raw H' hb wb tb bb r.words.toNat (r.oops+1).toNat ⟨W',T,B,r.objs.length,bn r.objs,k+1,if 0<r.mark then r.mark-1 else r.mark,r.born,r.turn⟩->Fr [hb,wb,tb,bb] H2 H'->(∀ i,i<bn r.objs->W' i=W i)->(∀ i,bn r.objs+2<=i->i<bn r.objs+lenOf n f->W' i=if f=1 then 0 else 4) ->
     ah PP yD #[.pointer (some ⟨hb,0,none⟩),.int .i64 k,.int .i64 cls,.int .i64 n,.int .i64 f] (fun v H10=>∃ m:Int,v=.int .i64 m∧Q (.tuple #[.int .i64 k,.int .i64 0]) H10) H':=by
    intro H' W' hr hfr hw1' hw2'
    refine Pc hr hen.1 (by show bn r.objs+2<=(r.words.toNat:Int);omega) (by omega) (by omega) (by omega) hn hn2 hf (by show (0:Int)<=(r.objs.length:Int);omega) (by show (r.objs.length:Int)<=100000;omega) fun H3 hr3 hfr3=>⟨_,rfl,?_⟩
    have hal:r.alloc cls n f=((bP r.objs,0),{ r with mark:=if 0<r.mark then r.mark-1 else r.mark,born:=IntKind.wrap .i64 (r.born+1),objs:=r.objs++[dV r cls n f] }):=by
     unfold RH.alloc
     rw [if_neg (fun hh=>hh.elim (fun hh=>hh hcl) (by omega)),if_neg (by omega),if_neg (by omega),if_neg hm]
    have hwf2:=ix hwf cls n f
    rw [hal] at h hwf2
    rw [hkl]
    have hnn:(dV r cls n f).len=lenOf n f:=by simp only [RO.len,dV,List.length_replicate];congr 1;omega
    have hsim:=GN (T:=T) (B:=B) (low:=low) hwf hR.sim (m':=if 0<r.mark then r.mark-1 else r.mark) (ev':=IntKind.wrap .i64 (r.born+1)) (W':=upd (upd W' (bn r.objs) cls) (bn r.objs+1) (2*n+f)) hn hf hlt
     (cls:=cls) (fun i hi=>by rw [upd,if_neg (by omega),upd,if_neg (by omega)];exact hw1' i hi) (by rw [upd,if_neg (by omega)];simp [upd]) (by simp [upd]) (fun i g1 g2=>by rw [upd,if_neg (by omega),upd,if_neg (by omega)];exact hw2' i g1 g2)
    rw [←hkl] at hsim
    have hkinds:dw H3:=hR1.kinds.fr (F:=[hb,wb,tb,bb]) (hfr.trans hfr3) (by simp only [List.mem_cons,List.not_mem_nil,or_false,not_or];exact ⟨fun e=>hne.1.2.2.2 e.symm,fun e=>hne.2.1.2.2 e.symm,fun e=>hne.2.2.1.2 e.symm,fun e=>hne.2.2.2 e.symm⟩)
    exact h H3 ⟨wb,tb,bb,_,_,_,_,rfl,hr3.phs hkinds hwf2 hsim rfl rfl (by simp [PD]) (by show bn r.objs+lenOf n f=bn (r.objs++[dV r cls n f]);rw [di,hnn];rfl) rfl rfl rfl⟩ (hF1.trans (hfr.trans hfr3))
   refine ⟨by omega,by omega,by omega,by omega,?_⟩
   have hslen:(bn r.objs+lenOf n f).toNat-(bn r.objs+2).toNat=(lenOf n f-2).toNat:=by omega
   rw [hslen]
   refine kH (bs:=8) (by kernel_rfl) r1.mw (by omega) (by omega) fun H3 hm3 hs3 hk3=>?_
   have hfr3:Fr [hb,wb,tb,bb] H2 H3:=(Fr.set (by simp)).trans ⟨by omega,fun b hb' hb''=>hk3 b (fun e=>hb'' (by simp [e]))⟩
   have hr3:Raw H3 hb wb tb bb r.words.toNat (r.oops+1).toNat ⟨fun i=>if bn r.objs+2<=i∧i<bn r.objs+2+((lenOf n f-2).toNat:Int) then 0 else W i,T,B,r.objs.length,bn r.objs,k+1,if 0<r.mark then r.mark-1 else r.mark,r.born,r.turn⟩ :=
    ⟨r1.hd.of_eq (hk3 _ hne.1.1),hm3,r1.mt.of_eq (hk3 _ hne.2.1.1.symm),r1.mb.of_eq (hk3 _ hne.2.1.2.1.symm),r1.d⟩
   split
   ·rename_i hf0
    have hlo:lenOf n f=2+n:=by unfold lenOf;rw [if_neg (by omega)]
    refine ⟨fun w H'=>∃ i:Int,w=[.int .i64 i]∧0<=i∧i<=n∧Fr [hb,wb,tb,bb] H2 H'∧Raw H' hb wb tb bb r.words.toNat (r.oops+1).toNat ⟨fun j=>if bn r.objs+2<=j∧j<bn r.objs+2+n then if j<bn r.objs+2+i then 4 else 0 else W j,T,B,r.objs.length,bn r.objs,k+1,if 0<r.mark then r.mark-1 else r.mark,r.born,r.turn⟩,
     fun w _=>match w with
      | [.int _ i]=>(n-i).toNat
      | _=>0,⟨0,rfl,by omega,hn,hfr3,?_⟩,?_⟩
    ·refine ⟨hr3.hd,hr3.mw.congr fun j _ _=>?_,hr3.mt,hr3.mb,hr3.d⟩
     show (if bn r.objs+2<=j∧j<bn r.objs+2+((lenOf n f-2).toNat:Int) then (0:Int) else W j)=if bn r.objs+2<=j∧j<bn r.objs+2+n then if j<bn r.objs+2+0 then 4 else 0 else W j
     by_cases hj:bn r.objs+2<=j∧j<bn r.objs+2+n
     ·rw [if_pos (by omega),if_pos hj,if_neg (by omega)]
     ·rw [if_neg (by omega),if_neg hj]
    ·rintro w H4 ⟨i,rfl,hi0,hi1,hfr4,hr4⟩ _
     refine ⟨i,rfl,?_⟩
     split
     ·rename_i hi
      have hi':i<n:=by omega
      rw [ni (by omega)]
      simp only [ae,cond_true,cond_false,Option.isNone_some,Option.isNone_none,aL,aB,aY,aQ,aJ,aR,aU,aC,aW,aV,aK,aX,and_assoc,true_and,and_true,ao,Nat.zero_add,Nat.mul_one,az,ax,aD,Bool.not_true,Bool.not_false,bj,bf]
      have eo:(bn r.objs+2).toNat+i.toNat=(bn r.objs+2+i).toNat:=by omega
      rw [eo,am (n:=i+1) (by omega) (by omega)]
      refine ⟨by omega,hi,hr4.mw.wr (by omega) (by omega),⟨i+1,rfl,by omega,by omega,hfr4.step (by simp),?_⟩,by simp;omega⟩
      have hr5:=hr4.setW (i:=bn r.objs+2+i) (by omega) 4
      refine ⟨hr5.hd,hr5.mw.congr fun j _ _=>?_,hr5.mt,hr5.mb,hr5.d⟩
      show upd (fun j=>if bn r.objs+2<=j∧j<bn r.objs+2+n then if j<bn r.objs+2+i then 4 else 0 else W j) (bn r.objs+2+i) 4 j=if bn r.objs+2<=j∧j<bn r.objs+2+n then if j<bn r.objs+2+(i+1) then 4 else 0 else W j
      unfold upd
      by_cases hj:j=bn r.objs+2+i
      ·rw [if_pos hj,if_pos (by omega),if_pos (by omega)]
      ·rw [if_neg hj]
       show (if bn r.objs+2<=j∧j<bn r.objs+2+n then if j<bn r.objs+2+i then 4 else 0 else W j)=_
       by_cases hj2:bn r.objs+2<=j∧j<bn r.objs+2+n
       ·rw [if_pos hj2,if_pos hj2]
        by_cases hj3:j<bn r.objs+2+i
        ·rw [if_pos hj3,if_pos (by omega)]
        ·rw [if_neg hj3,if_neg (by omega)]
       ·rw [if_neg hj2,if_neg hj2]
     ·rename_i hi
      refine last H4 _ hr4 hfr4 (fun j hj=>?_) (fun j hj1 hj2=>?_)
      ·rw [if_neg (by omega)]
      ·rw [if_pos (by omega),if_pos (by omega),if_neg (by omega)]
   ·rename_i hf0
    refine last H3 _ hr3 hfr3 (fun j hj=>?_) (fun j hj1 hj2=>?_)
    ·rw [if_neg (by omega)]
    ·rw [if_pos (by omega),if_pos (by omega)]
end
def iy (words oops:Int):RH:=⟨words,oops,0,0,0,[]⟩
theorem yU {words oops:Int} (h0:0<=words) (h1:words<=1048576) (h2:0<=oops) (h3:oops<=65536):WFH (iy words oops) :=
 ⟨h0,h1,h2,h3,by simp [iy],by simp [iy],⟨by simp [iy],by simp [iy]⟩⟩
section
variable {H:aj}{hb wb tb bb nw nt:Nat}{p:PV}{W T B:Int->Int}{low:Int}{r:RH}{Q:QT}
theorem vW {words oops:Int} (hk:dw H) (hbad:¬ (0<=words∧words<=1048576∧0<=oops∧oops<=65536)->Q (.tuple #[.pointer none,.int .i64 1]) H)
  (h:(0<=words∧words<=1048576∧0<=oops∧oops<=65536)->∀ hb F H',dp H' hb F (iy words oops)->Fr [] H H'->(∀ b∈F,H.size<=b)->Q (.tuple #[.pointer (some ⟨hb,0,none⟩),.int .i64 0]) H'):ah PP IQ #[.int .i64 words,.int .i64 oops] Q H:=by
 apply DA
 unfold Qj A0 iV wW pV lV cS
 refine nO ⟨_,rfl,?_⟩
 by_cases h1:0<=words∧words<=1048576
 ·simp only [ae,cond_true,cond_false,Option.isNone_some,Option.isNone_none,aL,aB,aY,aQ,aJ,aR,aU,aC,aW,aV,aK,aX,and_assoc,true_and,and_true,ao,Nat.zero_add,Nat.mul_one,az,ax,aD,Bool.not_true,Bool.not_false,bj,bf,h1,decide_true]
  refine nO ⟨_,rfl,?_⟩
  by_cases h2:0<=oops∧oops<=65536
  ·simp only [ae,cond_true,cond_false,Option.isNone_some,Option.isNone_none,aL,aB,aY,aQ,aJ,aR,aU,aC,aW,aV,aK,aX,and_assoc,true_and,and_true,ao,Nat.zero_add,Nat.mul_one,az,ax,aD,Bool.not_true,Bool.not_false,bj,bf,h2,decide_true]
   have e1:IntKind.wrap .i64 (oops+1)=oops+1:=am (by omega) (by omega)
   have hg:aE<H.size:=by
    have h0:=hk.1
    unfold ac at h0
    rcases Nat.lt_or_ge aE H.size with h1 | h1
    ·exact h1
    ·simp only [Array.getElem?_eq_none h1] at h0;cases h0
   have hs1:aF PP 108=some (1,8,some (.int .i64 0)):=by kernel_rfl
   have hs2:aF PP 66=some (1,8,some (.int .i64 0)):=by kernel_rfl
   simp only [e1]
   have mk:∀ (T:TypeId) (n:Int) (K:Option Addr->Nat->Nat->aj->Prop) (G:aj),aF PP T=some (1,8,some (.int .i64 0))->0<=n->n<=1048576 ->
     (∀ e,K (some ⟨G.size,0,none⟩) n.toNat n.toNat (G.push (.cells (Array.replicate n.toNat (.int .i64 0)) e))) ->
     bk PP (Instr.makeSlice T (.int .i64 n) (.int .i64 n)) (fun v H3=>∃ a:Option Addr,∃ l:Nat,∃ c:Nat,v=.slice a l c∧K a l c H3) G :=
    fun T n K G hT g0 g1 hK=>dS hT rfl g0 (Int.le_refl _) (by omega) (by decide) fun e=>⟨_,_,_,rfl,hK e⟩
   have fin:∀ (G:aj) (wb tb bb:Nat) (e:TypeId),Fr [] H G->dM G wb words.toNat (fun _=>0)->dM G tb (oops+1).toNat (fun _=>0)->dM G bb (oops+1).toNat (fun _=>0)->wb≠tb->wb≠bb->tb≠bb->H.size<=wb->H.size<=tb->H.size<=bb ->
     ∃ hb wb' tb' bb',[Value.pointer (some ⟨G.size,0,none⟩)]=[.pointer (some ⟨hb,0,none⟩)]∧Fr [] H (G.push (.cells #[.slice (some ⟨wb,0,none⟩) words.toNat words.toNat,.slice (some ⟨tb,0,none⟩) (oops+1).toNat (oops+1).toNat,.slice (some ⟨bb,0,none⟩) (oops+1).toNat (oops+1).toNat,.int .i64 0,.int .i64 0,.int .i64 1,.int .i64 0,.int .i64 0,.int .i64 0] e))∧H.size<=hb∧H.size<=wb'∧H.size<=tb'∧H.size<=bb' ∧
      Raw (G.push (.cells #[.slice (some ⟨wb,0,none⟩) words.toNat words.toNat,.slice (some ⟨tb,0,none⟩) (oops+1).toNat (oops+1).toNat,.slice (some ⟨bb,0,none⟩) (oops+1).toNat (oops+1).toNat,.int .i64 0,.int .i64 0,.int .i64 1,.int .i64 0,.int .i64 0,.int .i64 0] e)) hb wb' tb' bb' words.toNat (oops+1).toNat ⟨fun _=>0,fun _=>0,fun _=>0,0,0,1,0,0,0⟩:=by
    intro G wb tb bb e hf m1 m2 m3 n1 n2 n3 g1 g2 g3
    have:=m1.lt
    have:=m2.lt
    have:=m3.lt
    have:=hf.1
    exact ⟨G.size,wb,tb,bb,rfl,hf.more,hf.1,g1,g2,g3,⟨bA.new _ _ _,m1.push _,m2.push _,m3.push _,by simp;omega⟩⟩
   have hfp:∀ (G:aj) (o:Obj),Fr [] H G->Fr [] H (G.push o):=fun G o hG=>hG.more
   have hsz:∀ (G:aj) (o:Obj),(G.push o).size=G.size+1:=fun G o=>by simp
   refine ⟨fun w H'=>∃ hb wb tb bb,w=[.pointer (some ⟨hb,0,none⟩)]∧Fr [] H H'∧H.size<=hb∧H.size<=wb∧H.size<=tb∧H.size<=bb∧Raw H' hb wb tb bb words.toNat (oops+1).toNat ⟨fun _=>0,fun _=>0,fun _=>0,0,0,1,0,0,0⟩,?A,?B,?C,?D⟩
   case A =>
    refine mk 108 words _ H hs1 h1.1 h1.2 fun e=>?_
    refine ⟨mk 66 (oops+1) _ _ hs2 (by omega) (by omega) fun e2=>?_,mk 66 (oops+1) _ _ hs2 (by omega) (by omega) fun e2=>?_⟩
    ·refine mk 66 (oops+1) _ _ hs2 (by omega) (by omega) fun e3=>?_
     exact fin _ _ _ _ _ (((Fr.refl _ _).more).more.more) (((dM.new _ _ _).push _).push _) ((dM.new _ _ _).push _) (dM.new _ _ _) (by (try simp only [Array.size_push]);omega) (by (try simp only [Array.size_push]);omega) (by (try simp only [Array.size_push]);omega) (by (try simp only [Array.size_push]);omega) (by (try simp only [Array.size_push]);omega) (by (try simp only [Array.size_push]);omega)
    ·refine mk 66 (oops+1) _ _ hs2 (by omega) (by omega) fun e3=>?_
     exact fin _ _ _ _ _ (((Fr.refl _ _).more).more.more) (((dM.new _ _ _).push _).push _) (dM.new _ _ _) ((dM.new _ _ _).push _) (by (try simp only [Array.size_push]);omega) (by (try simp only [Array.size_push]);omega) (by (try simp only [Array.size_push]);omega) (by (try simp only [Array.size_push]);omega) (by (try simp only [Array.size_push]);omega) (by (try simp only [Array.size_push]);omega)
   case B =>
    refine mk 66 (oops+1) _ H hs2 (by omega) (by omega) fun e=>?_
    refine ⟨mk 108 words _ _ hs1 h1.1 h1.2 fun e2=>?_,mk 66 (oops+1) _ _ hs2 (by omega) (by omega) fun e2=>?_⟩
    ·refine mk 66 (oops+1) _ _ hs2 (by omega) (by omega) fun e3=>?_
     exact fin _ _ _ _ _ (((Fr.refl _ _).more).more.more) ((dM.new _ _ _).push _) (((dM.new _ _ _).push _).push _) (dM.new _ _ _) (by (try simp only [Array.size_push]);omega) (by (try simp only [Array.size_push]);omega) (by (try simp only [Array.size_push]);omega) (by (try simp only [Array.size_push]);omega) (by (try simp only [Array.size_push]);omega) (by (try simp only [Array.size_push]);omega)
    ·refine mk 108 words _ _ hs1 h1.1 h1.2 fun e3=>?_
     exact fin _ _ _ _ _ (((Fr.refl _ _).more).more.more) (dM.new _ _ _) (((dM.new _ _ _).push _).push _) ((dM.new _ _ _).push _) (by (try simp only [Array.size_push]);omega) (by (try simp only [Array.size_push]);omega) (by (try simp only [Array.size_push]);omega) (by (try simp only [Array.size_push]);omega) (by (try simp only [Array.size_push]);omega) (by (try simp only [Array.size_push]);omega)
   case C =>
    refine mk 66 (oops+1) _ H hs2 (by omega) (by omega) fun e=>?_
    refine ⟨mk 108 words _ _ hs1 h1.1 h1.2 fun e2=>?_,mk 66 (oops+1) _ _ hs2 (by omega) (by omega) fun e2=>?_⟩
    ·refine mk 66 (oops+1) _ _ hs2 (by omega) (by omega) fun e3=>?_
     exact fin _ _ _ _ _ (((Fr.refl _ _).more).more.more) ((dM.new _ _ _).push _) (dM.new _ _ _) (((dM.new _ _ _).push _).push _) (by (try simp only [Array.size_push]);omega) (by (try simp only [Array.size_push]);omega) (by (try simp only [Array.size_push]);omega) (by (try simp only [Array.size_push]);omega) (by (try simp only [Array.size_push]);omega) (by (try simp only [Array.size_push]);omega)
    ·refine mk 108 words _ _ hs1 h1.1 h1.2 fun e3=>?_
     exact fin _ _ _ _ _ (((Fr.refl _ _).more).more.more) (dM.new _ _ _) ((dM.new _ _ _).push _) (((dM.new _ _ _).push _).push _) (by (try simp only [Array.size_push]);omega) (by (try simp only [Array.size_push]);omega) (by (try simp only [Array.size_push]);omega) (by (try simp only [Array.size_push]);omega) (by (try simp only [Array.size_push]);omega) (by (try simp only [Array.size_push]);omega)
   case D =>
    rintro w H1 ⟨hb,wb,tb,bb,rfl,hf,g1,g2,g3,g4,hr⟩ _
    refine ⟨_,rfl,?_⟩
    simp only [ae,cond_true,cond_false,Option.isNone_some,Option.isNone_none,aL,aB,aY,aQ,aJ,aR,aU,aC,aW,aV,aK,aX,and_assoc,true_and,and_true,ao,Nat.zero_add,Nat.mul_one,az,ax,aD,Bool.not_true,Bool.not_false,bj,bf,hr.c1]
    refine ⟨fun w H'=>∃ i:Int,w=[.int .i64 i]∧0<=i∧i<=oops+1∧Fr [] H H'∧Raw H' hb wb tb bb words.toNat (oops+1).toNat ⟨fun _=>0,fun k=>if k<i then -1 else 0,fun _=>0,0,0,1,0,0,0⟩,
     fun w _=>match w with
      | [.int _ i]=>(oops+1-i).toNat
      | _=>0,⟨0,rfl,by omega,by omega,hf,?_⟩,?_⟩
    ·refine ⟨hr.hd,hr.mw,hr.mt.congr fun i h0 _=>?_,hr.mb,hr.d⟩
     show (0:Int)=if i<0 then -1 else 0
     rw [if_neg (by omega)]
    ·rintro w H2 ⟨i,rfl,hi0,hi1,hf2,hr2⟩ _
     refine ⟨i,rfl,?_⟩
     split
     ·rename_i hi
      simp only [ae,cond_true,cond_false,Option.isNone_some,Option.isNone_none,aL,aB,aY,aQ,aJ,aR,aU,aC,aW,aV,aK,aX,and_assoc,true_and,and_true,ao,Nat.zero_add,Nat.mul_one,az,ax,aD,Bool.not_true,Bool.not_false,bj,bf,hr2.c1]
      rw [am (n:=i+1) (by omega) (by omega)]
      have hr3:=hr2.setT (i:=i) hi0 (-1)
      refine ⟨by omega,by omega,hr2.mt.wr hi0 (by omega),⟨i+1,rfl,by omega,by omega,?_,?_⟩,by simp;omega⟩
      ·exact ⟨by rw [dR];exact hf2.1,fun b hb' hn=>by rw [dI (by simp;omega)];exact hf2.2 b hb' hn⟩
      ·refine ⟨hr3.hd,hr3.mw,hr3.mt.congr fun j h0 _=>?_,hr3.mb,hr3.d⟩
       show upd (fun k=>if k<i then -1 else 0) i (-1) j=if j<i+1 then -1 else 0
       unfold upd
       by_cases hj:j=i
       ·rw [if_pos hj,if_pos (by omega)]
       ·rw [if_neg hj]
        show (if j<i then (-1:Int) else 0)=_
        by_cases hj2:j<i
        ·rw [if_pos hj2,if_pos (by omega)]
        ·rw [if_neg hj2,if_neg (by omega)]
     ·rename_i hi
      have hie:i=oops+1:=by omega
      subst hie
      have hw:=yU h1.1 h1.2 h2.1 h2.2
      refine h (by omega) hb [hb,wb,tb,bb] H2 ⟨wb,tb,bb,_,_,_,_,rfl,hr2.phs (hk.fr hf2 (by simp)) hw ?_ rfl rfl rfl rfl rfl rfl rfl⟩ hf2 (by simp;omega)
      refine { tab:=fun k h0 h1=>?_,bor:=by simp [iy],cls:=by simp [iy],shp:=by simp [iy],wrd:=by simp [iy],byt:=by simp [iy],byr:=by simp [iy],low1:=by simp,low2:=by simp [iy];omega,low3:=fun k h0 h1=>by simp at h1;omega }
      have:k<=oops:=h1
      show (if k<oops+1 then (-1:Int) else 0)=_
      rw [if_pos (by omega)]
      rfl
  ·simp only [ae,cond_true,cond_false,Option.isNone_some,Option.isNone_none,aL,aB,aY,aQ,aJ,aR,aU,aC,aW,aV,aK,aX,and_assoc,true_and,and_true,ao,Nat.zero_add,Nat.mul_one,az,ax,aD,Bool.not_true,Bool.not_false,bj,bf,h2,decide_false]
   exact hbad (by omega)
 ·simp only [ae,cond_true,cond_false,Option.isNone_some,Option.isNone_none,aL,aB,aY,aQ,aJ,aR,aU,aC,aW,aV,aK,aX,and_assoc,true_and,and_true,ao,Nat.zero_add,Nat.mul_one,az,ax,aD,Bool.not_true,Bool.not_false,bj,bf,h1,decide_false]
  exact hbad (by omega)
theorem P8 (hR:PHs H hb wb tb bb W T B low r) (h:∀ a l c F H',bv 1 H' a l c (aq r.all) F->Fr [] H H'->(∀ b∈F,H.size<=b)->F≠[]->Q (.slice a l c) H'):ah PP GQ #[.pointer (some ⟨hb,0,none⟩)] Q H:=by
 apply B6
 unfold MG A0 iV wW pV lV
 have ho0:=hR.wf.o0
 have ho1:=hR.wf.o1
 have hs2:aF PP 66=some (1,8,some (.int .i64 0)):=by kernel_rfl
 refine lF hR ⟨_,rfl,?_⟩
 simp only [ae,cond_true,cond_false,Option.isNone_some,Option.isNone_none,aL,aB,aY,aQ,aJ,aR,aU,aC,aW,aV,aK,aX,and_assoc,true_and,and_true,ao,Nat.zero_add,Nat.mul_one,az,ax,aD,Bool.not_true,Bool.not_false,bj,bf,hR.c3]
 have hcount:(r.objs.length:Int)<=1048576:=by
  have h1:=eh hR.wf.objs
  have h2:=bO hR.wf.objs hR.wf.w0
  have h3:=hR.wf.w1
  omega
 refine dS hs2 rfl (Int.le_refl _) (by omega) (by omega) (by decide) fun e=>?_
 have hf0:Fr [] H (H.push (.cells (Array.replicate (r.objs.length:Int).toNat (.int .i64 0)) e)):=Fr.push _ _ _
 have hc1:ac (H.push (.cells (Array.replicate (r.objs.length:Int).toNat (.int .i64 0)) e)) ⟨hb,1,none⟩=some (.slice (some ⟨tb,0,none⟩) (r.oops+1).toNat (r.oops+1).toNat):=(dm hR.hd.lt).trans hR.c1
 simp only [ae,cond_true,cond_false,Option.isNone_some,Option.isNone_none,aL,aB,aY,aQ,aJ,aR,aU,aC,aW,aV,aK,aX,and_assoc,true_and,and_true,ao,Nat.zero_add,Nat.mul_one,az,ax,aD,Bool.not_true,Bool.not_false,bj,bf,hc1]
 refine ⟨fun w H'=>∃ a l c F,∃ i:Int,w=[.slice a l c,.int .i64 i]∧0<=i∧i<=r.oops+1∧bv 1 H' a l c (aq (r.upto i.toNat)) F∧Fr [] H H'∧(∀ b∈F,H.size<=b)∧F≠[],fun w _=>match w with
  | [_,.int _ i]=>(r.oops+1-i).toNat
  | _=>0,⟨_,_,_,_,0,rfl,by omega,by omega,bv.newMem _ _ _,hf0,by simp,by simp⟩,?_⟩
 rintro w H1 ⟨a,l,c,F,i,rfl,hi0,hi1,ho,hf,hF,hne⟩ _
 refine ⟨a,l,c,i,rfl,?_⟩
 have hmt:=hR.mt.fr hf (by simp)
 have hl:=ho.len
 simp only [aq,List.length_map] at hl
 have hul:=r.upto_len i.toNat
 split
 ·rename_i hi
  simp only [ae,cond_true,cond_false,Option.isNone_some,Option.isNone_none,aL,aB,aY,aQ,aJ,aR,aU,aC,aW,aV,aK,aX,and_assoc,true_and,and_true,ao,Nat.zero_add,Nat.mul_one,az,ax,aD,Bool.not_true,Bool.not_false,bj,bf,hmt.cell hi0 (by omega)]
  rw [am (n:=i+1) (by omega) (by omega)]
  have ht:=hR.sim.tab i hi0 (by omega)
  have hnx:=r.upto_succ i.toNat
  have ei:(i.toNat:Int)=i:=Int.toNat_of_nonneg hi0
  have e1:(i+1).toNat=i.toNat+1:=by omega
  rw [ei] at hnx
  refine ⟨by omega,by omega,?_⟩
  split
  ·rename_i hp
   have hs:(aH r.objs i).isSome=true:=by
    cases ho:aH r.objs i with
    | none=>rw [ht,ho] at hp;simp at hp
    | some o=>rfl
   refine bg hs2 rfl (by kernel_rfl) ho rfl (by simp [cC]) (by omega) (by decide) (by decide) fun a' c' F' H2 h1 h2 h3=>⟨_,_,_,rfl,?_⟩
   have hfr:=Up.fresh hf h2 hF
   refine ⟨⟨_,_,_,F',i+1,rfl,by omega,by omega,?_,hfr.1,hfr.2,fun e=>by subst e;rcases h1.2.2 with ⟨_,hc,_⟩ | ⟨b,cs,_,hF',_⟩;(have:=h1.2.1;omega);cases hF'⟩,by simp;omega⟩
   rw [e1,hnx,if_pos hs,bt]
   exact h1
  ·rename_i hp
   have hs:¬ (aH r.objs i).isSome=true:=by
    cases ho:aH r.objs i with
    | none=>simp
    | some o =>
     rw [ht,ho] at hp
     exact absurd (hR.in_ (aM ho).1).1 hp
   refine ⟨⟨_,_,_,F,i+1,rfl,by omega,by omega,?_,hf,hF,hne⟩,by simp;omega⟩
   rw [e1,hnx,if_neg hs,List.append_nil]
   exact ho
 ·rename_i hi
  have e:i=r.oops+1:=by omega
  subst e
  exact h a l c F H1 ho hf hF hne
end
section
variable {H:aj}{hb wb tb bb nw nt:Nat}{p:PV}{W T B:Int->Int}{low:Int}{r:RH}{Q:QT}
theorem EA (hR:Raw H hb wb tb bb nw nt p){k:Int} (h0:0<=k) (h1:k<nt) (h2:0<=p.T k) (h3:p.T k<nw) (h4:0<=p.count) (h5:p.count<=1000000000)
  (h:∀ H',Raw H' hb wb tb bb nw nt { p with W:=upd p.W (p.T k) 0,T:=upd p.T k (-1),low:=if k<p.low then k else p.low,count:=p.count-1 }->Fr [hb,wb,tb,bb] H H'->Q (.tuple #[]) H'):ah PP Kl #[.pointer (some ⟨hb,0,none⟩),.int .i64 k] Q H:=by
 apply DV
 unfold Lw iV wW lV;dsimp only [shH]
 have e1:IntKind.wrap .i64 (p.count-1)=p.count-1:=am (by omega) (by omega)
 have r1:=hR.setW (i:=p.T k) h2 0
 have r2:=r1.setT (i:=k) h0 (-1)
 have r3:=r2.set5 (if k<p.low then k else p.low)
 have r4:=r3.set3 (p.count-1)
 simp only [ae,cond_true,cond_false,Option.isNone_some,Option.isNone_none,aL,aB,aY,aQ,aJ,aR,aU,aC,aW,aV,aK,aX,and_assoc,true_and,and_true,ao,Nat.zero_add,Nat.mul_one,az,ax,aD,Bool.not_true,Bool.not_false,bj,bf,hR.c0,hR.c1,hR.tabc h0 h1,r1.c1,r2.c5,r3.c3,e1]
 refine ⟨h0,h1,h2,h3,hR.mw.wr h2 h3,h0,h1,r1.mt.wr h0 h1,r2.wrh (by decide),r3.wrh (by decide),h _ r4 ?_⟩
 exact (((Fr.refl _ _).step (by simp)).step (by simp)).step (by simp) |>.step (by simp)
theorem AV (hw:WFH r) (hs:SimH W T B low r) (keep:RO->Bool):KeepSt W r.words r.oops keep [] r.objs W T low :=
 { wf:=by simpa using hw.objs,regK:=by simp [bR],regR:=fun _ _ _ _ _=>rfl,tab:=fun k h0 h1=>by rw [hs.tab k h0 h1];rfl,low1:=hs.low1,low2:=hs.low2,low3:=fun k h0 h1=>hs.low3 k h0 h1 }
theorem Ay (hs:SimH W T B low r){keep:RO->Bool}{W' T':Int->Int}{low' tn:Int} (h:KeepSt W r.words r.oops keep r.objs [] W' T' low') :
  SimH W' T' B low' { r with objs:=bR 0 (r.objs.filter keep),turn:=tn }:=by
 have key:∀ x∈bR 0 (r.objs.filter keep),∃ o∈r.objs,x.oop=o.oop∧x.fmt=o.fmt∧x.born=o.born∧x.cls=o.cls∧x.slots=o.slots∧x.len=o.len∧∀ i,0<=i->i<o.len->W' (x.place+i)=W (o.place+i):=by
  intro x hx
  obtain ⟨o,h1,h2,h3⟩:=h.regK x hx
  exact ⟨o,h1,by rw [h2],by rw [h2],by rw [h2],by rw [h2],by rw [h2],by rw [h2];rfl,h3⟩
 have e:bR 0 (r.objs.filter keep)++[]=bR 0 (r.objs.filter keep):=List.append_nil _
 refine { tab:=fun k h0 h1=>by have:=h.tab k h0 h1;rw [e] at this;exact this,bor:=fun x hx=>?_,cls:=fun x hx=>?_,shp:=fun x hx=>?_,wrd:=fun x hx hf j hj=>?_,byt:=fun x hx hf j hj=>?_,byr:=fun x hx hf j h0 h1=>?_,low1:=h.low1,low2:=h.low2,low3:=fun k h0 h1=>by have:=h.low3 k h0 h1;rw [e] at this;exact this }
 all_goals obtain ⟨o,ho,k1,k2,k3,k4,k5,k6,k7⟩:=key x hx
 ·rw [k1,k3];exact hs.bor o ho
 ·have:=k7 0 (Int.le_refl _) (by have:=o.len_pos;omega)
  rw [Int.add_zero,Int.add_zero] at this
  rw [this,k4];exact hs.cls o ho
 ·rw [k7 1 (by omega) (by have:=o.len_pos;omega),k5,k2];exact hs.shp o ho
 ·have hlo:o.len=2+(o.slots.length:Int):=by unfold RO.len lenOf;rw [if_neg (by omega)]
  rw [k5] at hj ⊢
  rw [Int.add_assoc,k7 (2+(j:Int)) (by omega) (by omega),←Int.add_assoc]
  exact hs.wrd o ho (k2 ▸ hf) j hj
 ·have hf':o.fmt=1:=k2 ▸ hf
  have hlo:o.len=2+((o.slots.length:Int)+3) / 4:=by unfold RO.len lenOf;rw [if_pos hf']
  rw [k5] at hj ⊢
  rw [Int.add_assoc,k7 (2+((j / 4:Nat):Int)) (by omega) (by omega),←Int.add_assoc]
  exact hs.byt o ho hf' j hj
 ·have hf':o.fmt=1:=k2 ▸ hf
  have:=k7 (j-x.place) (by omega) (by omega)
  rw [show x.place+(j-x.place)=j by omega] at this
  rw [this]
  exact hs.byr o ho hf' _ (by omega) (by omega)
theorem yo (hR:Raw H hb wb tb bb nw nt p){pl n f:Int} (h0:0<=pl) (h1:pl+1<nw) (hw:nw<=1048576) (he:p.W (pl+1)=2*n+f) (hf:f=0∨f=1) (h:Q (.tuple #[.int .i64 n,.int .i64 f]) H):ah PP ym #[.pointer (some ⟨hb,0,none⟩),.int .i64 pl] Q H:=by
 apply vJ
 unfold HV iV wW lV
 rw [am (n:=pl+1) (by omega) (by omega)]
 simp only [ae,cond_true,cond_false,Option.isNone_some,Option.isNone_none,aL,aB,aY,aQ,aJ,aR,aU,aC,aW,aV,aK,aX,and_assoc,true_and,and_true,ao,Nat.zero_add,Nat.mul_one,az,ax,aD,Bool.not_true,Bool.not_false,bj,bf,hR.c0,hR.word (i:=pl+1) (by omega) (by omega)]
 refine ⟨by omega,by omega,?_⟩
 rw [he,Cq,Ec]
 have e1:(2*n+f) / 2=n:=by omega
 have e2:(2*n+f) % 2=f:=by omega
 rw [e1,e2];exact h
theorem td (hR:Raw H hb wb tb bb nw nt p){pl n f:Int} (h0:0<=pl) (h1:pl+1<nw) (hw:nw<=1048576) (he:p.W (pl+1)=2*n+f) (hf:f=0∨f=1) (hn:0<=n) (hn2:n<=8192) (h:Q (.int .i64 (lenOf n f)) H):ah PP Fe #[.pointer (some ⟨hb,0,none⟩),.int .i64 pl] Q H:=by
 apply Bd
 unfold LH iV pV cS
 exact yo hR h0 h1 hw he hf ⟨_,_,rfl,kT hn (by omega) ⟨_,rfl,h⟩⟩
def ro (hb:Nat) (r:RH):Prop:=∀ {H:aj}{wb tb bb:Nat}{W T B:Int->Int}{low:Int}{Q:QT},PHs H hb wb tb bb W T B low r->(∀ a l c F H',bv 1 H' a l c (aq (r.objs.map (·.oop))) F->Fr [] H H'->(∀ b∈F,H.size<=b)->Q (.slice a l c) H')->ah PP ID #[.pointer (some ⟨hb,0,none⟩)] Q H
theorem IL {F:ay} (hR:dp H hb F r) (hbp:ro hb r){a2:Option Addr}{l2 c2:Nat}{ks:List Int} (hk:Rd 1 H a2 l2 (aq ks)) (hd:∀ p,a2=some p->p.block∉F) (hlk:l2<=1099511627776)
  (h:∀ H',dp H' hb F (r.keep ks).2->Fr F H H'->Q (jP (r.keep ks).1) H'):ah PP xN #[.pointer (some ⟨hb,0,none⟩),.slice a2 l2 c2] Q H:=by
 have hR0:=hR
 obtain ⟨wb,tb,bb,W,T,B,low,rfl,hR⟩:=hR
 apply AJ
 unfold Qk iV wW pV lV cS;dsimp only [shH]
 have hwf:=hR.wf
 have hw0:=hwf.w0
 have hw1:=hwf.w1
 have ho0:=hwf.o0
 have ho1:=hwf.o1
 have hne:=hR.raw.ne
 have hen:=bO hwf.objs hwf.w0
 have hcnt:=eh hwf.objs
 have hs2:aF PP 66=some (1,8,some (.int .i64 0)):=by kernel_rfl
 have hs1:aF PP 108=some (1,8,some (.int .i64 0)):=by kernel_rfl
 have hl2:l2=ks.length:=by have:=hk.1;simpa [aq] using this.symm
 refine lF hR ⟨_,rfl,?_⟩
 simp only [ae,cond_true,cond_false,Option.isNone_some,Option.isNone_none,aL,aB,aY,aQ,aJ,aR,aU,aC,aW,aV,aK,aX,and_assoc,true_and,and_true,ao,Nat.zero_add,Nat.mul_one,az,ax,aD,Bool.not_true,Bool.not_false,bj,bf,hR.c1]
 refine dS hs2 rfl (by omega) (Int.le_refl _) (by omega) (by decide) fun e=>?_
 simp only [Int.toNat_natCast]
 have hlts:∀ b∈[hb,wb,tb,bb],b<H.size:=hR0.lt
 have hsb:H.size∉[hb,wb,tb,bb]:=fun hm=>absurd (hlts _ hm) (by omega)
 simp only [ae,cond_true,cond_false,Option.isNone_some,Option.isNone_none,aL,aB,aY,aQ,aJ,aR,aU,aC,aW,aV,aK,aX,and_assoc,true_and,and_true,ao,Nat.zero_add,Nat.mul_one,az,ax,aD,Bool.not_true,Bool.not_false,bj,bf]
 refine ⟨fun w H'=>∃ i:Int,w=[.int .i64 i]∧0<=i∧i<=l2∧PHs H' hb wb tb bb W T B low r∧Fr [] H H'∧dM H' H.size (r.oops+1).toNat (fun k=>if k∈ks.take i.toNat then 1 else 0)∧∀ k∈ks.take i.toNat,aH r.objs k≠none,fun w _=>match w with
  | [.int _ i]=>(l2-i).toNat
  | _=>0,⟨0,rfl,by omega,by omega,?_,Fr.push _ _ _,?_,by simp⟩,?_⟩
 ·obtain ⟨wb',tb',bb',W',T',B',low',e1,h1⟩:=hR0.fr (Fr.push [] H (.cells (Array.replicate (r.oops+1).toNat (.int .i64 0)) e)) (bi.nil_right _) (by simp)
  exact { hR with hd:=hR.hd.push _,mw:=hR.mw.push _,mt:=hR.mt.push _,mb:=hR.mb.push _,kinds:=h1.kinds }
 ·exact (dM.new _ _ _).congr fun k _ _=>by simp
 rintro w H1 ⟨i,rfl,hi0,hi1,hR1,hf1,hm1,hall⟩ _
 refine ⟨i,rfl,?_⟩
 split
 ·rename_i hi
  have hk1:=hk.fr' hf1 (by simp)
  obtain ⟨pa,hpa,hcell,hlt⟩:=hk1.int hi0 (by omega)
  subst hpa
  simp only [ae,cond_true,cond_false,Option.isNone_some,Option.isNone_none,aL,aB,aY,aQ,aJ,aR,aU,aC,aW,aV,aK,aX,and_assoc,true_and,and_true,ao,Nat.zero_add,Nat.mul_one,az,ax,aD,Bool.not_true,Bool.not_false,bj,bf,hcell]
  refine ⟨hi0,hi,rU hR1 ?_⟩
  have htk:ks.take (i+1).toNat=ks.take i.toNat++[ks.getD i.toNat 0]:=by
   rw [show (i+1).toNat=i.toNat+1 by omega,List.take_add_one]
   simp [hlt]
  unfold qx
  cases ho:aH r.objs (ks.getD i.toNat 0) with
  | none =>
   refine ⟨_,_,rfl,?_⟩
   rw [if_pos (by decide)]
   have hmem:ks.getD i.toNat 0∈ks:=by
    have:ks.getD i.toNat 0=ks[i.toNat]:=by simp [hlt]
    rw [this];exact List.getElem_mem hlt
   have hke:r.keep ks=((0,0,20),r):=by unfold RH.keep;rw [if_pos ⟨_,hmem,ho⟩]
   rw [hke] at h
   exact h H1 ⟨wb,tb,bb,W,T,B,low,rfl,hR1⟩ hf1.of_nil
  | some o =>
   have hgo:=hwf.objs.good o (aM ho).1
   have hoo:=(aM ho).2
   have hg1:=hgo.oop1
   have hg2:=hgo.oop2
   rw [hoo] at hg1 hg2
   refine ⟨_,_,rfl,?_⟩
   simp only [ae,cond_true,cond_false,Option.isNone_some,Option.isNone_none,aL,aB,aY,aQ,aJ,aR,aU,aC,aW,aV,aK,aX,and_assoc,true_and,and_true,ao,Nat.zero_add,Nat.mul_one,az,ax,aD,Bool.not_true,Bool.not_false,bj,bf,ne_eq,not_true_eq_false,if_false]
   rw [am (n:=i+1) (by omega) (by omega)]
   refine ⟨by omega,by omega,hm1.wr (by omega) (by omega),⟨i+1,rfl,by omega,by omega,?_,?_,?_,?_⟩,by simp;omega⟩
   ·have hfs:Fr [H.size] H1 (au H1 ⟨H.size,(ks.getD i.toNat 0).toNat,none⟩ (.int .i64 1)):=Fr.set (by simp)
    have hmm:∀ b∈[hb,wb,tb,bb],b∉[H.size]:=fun b hb' hn=>by simp at hn;subst hn;exact hsb hb'
    have hgk:aE<H.size:=by
     have h0:=hR.kinds.1
     unfold ac at h0
     rcases Nat.lt_or_ge aE H.size with h1 | h1
     ·exact h1
     ·simp only [Array.getElem?_eq_none h1] at h0;cases h0
    exact { hR1 with hd:=hR1.hd.fr hfs (hmm _ (by simp)),mw:=hR1.mw.fr hfs (hmm _ (by simp)),mt:=hR1.mt.fr hfs (hmm _ (by simp)),mb:=hR1.mb.fr hfs (hmm _ (by simp)),kinds:=hR1.kinds.fr hfs (by simp;omega) }
   ·exact ⟨by rw [dR];exact hf1.1,fun b hb' hn=>by rw [dI (by simp;omega)];exact hf1.2 b hb' hn⟩
   ·refine (hm1.set (i:=ks.getD i.toNat 0) (by omega) 1).congr fun k _ _=>?_
    unfold upd
    rw [htk]
    by_cases hkk:k=ks.getD i.toNat 0
    ·rw [if_pos hkk,if_pos (by simp [hkk])]
    ·rw [if_neg hkk]
     simp only [List.mem_append,List.mem_singleton,hkk,or_false]
   ·rw [htk]
    intro k hkm
    rcases List.mem_append.1 hkm with hkm | hkm
    ·exact hall k hkm
    ·simp only [List.mem_singleton] at hkm;rw [hkm,ho];simp
 ·rename_i hi
  have hil:i.toNat=ks.length:=by omega
  have htake:ks.take i.toNat=ks:=by rw [hil,List.take_length]
  rw [htake] at hm1 hall
  have hke:r.keep ks=(((r.objs.length:Int)-((r.keepO ks).length:Int),bn r.objs-bn (r.keepO ks),0),{ r with objs:=r.keepO ks,turn:=IntKind.wrap .i64 (r.turn+1) }):=by
   unfold RH.keep
   rw [if_neg]
   rintro ⟨k,hk1,hk2⟩
   exact hall k hk1 hk2
  have hwf2:=gz hwf ks
  rw [hke] at h hwf2
  simp only [ae,cond_true,cond_false,Option.isNone_some,Option.isNone_none,aL,aB,aY,aQ,aJ,aR,aU,aC,aW,aV,aK,aX,and_assoc,true_and,and_true,ao,Nat.zero_add,Nat.mul_one,az,ax,aD,Bool.not_true,Bool.not_false,bj,bf,hR1.c3,hR1.c4]
  refine hbp hR1 fun ab lb cb Fb H2 hob hf2 hFb=>?_
  simp only [ae,cond_true,cond_false,Option.isNone_some,Option.isNone_none,aL,aB,aY,aQ,aJ,aR,aU,aC,aW,aV,aK,aX,and_assoc,true_and,and_true,ao,Nat.zero_add,Nat.mul_one,az,ax,aD,Bool.not_true,Bool.not_false,bj,bf]
  have hkeepf:∃ kf:RO->Bool,kf=fun o=>decide (o.oop∈ks):=⟨_,rfl⟩
  obtain ⟨kf,hkf⟩:=hkeepf
  have hko:r.keepO ks=bR 0 (r.objs.filter kf):=by rw [hkf];rfl
  have hlb:lb=r.objs.length:=by have:=hob.1;simpa [aq] using this.symm
  have hf12:Fr [] H H2:=hf1.trans hf2
  have hFb':∀ b∈Fb,b∉[hb,wb,tb,bb]:=fun b hb' hn=>absurd (hlts b hn) (by have:=hFb b hb';have:=hf1.1;omega)
  have hsbF:H.size∉Fb:=fun hm=>by have:=hFb _ hm;have:=hm1.lt;omega
  have hsub:∀ {H'},Fr [hb,wb,tb,bb] H2 H'->Fr [hb,wb,tb,bb] H H':=fun hf=>(hf12.of_nil).trans hf
  refine ⟨fun w H'=>∃(j:Nat) (W' T':Int->Int) (low':Int),w=[.int .i64 (bx 0 ((r.objs.take j).filter kf)),.int .i64 j]∧j<=r.objs.length∧KeepSt W r.words r.oops kf (r.objs.take j) (r.objs.drop j) W' T' low' ∧
    Raw H' hb wb tb bb r.words.toNat (r.oops+1).toNat ⟨W',T',B,((bR 0 ((r.objs.take j).filter kf)).length:Int)+((r.objs.length-j:Nat):Int),bn r.objs,low',r.mark,r.born,r.turn⟩∧Fr [hb,wb,tb,bb] H2 H',fun w _=>match w with
   | [_,.int _ i]=>(r.objs.length-i).toNat
   | _=>0,⟨0,W,T,low,by simp [bx],by omega,?_,?_,Fr.refl _ _⟩,?_⟩
  ·have:=AV hwf hR.sim kf
   simpa using this
  ·have hR2:=hR1.raw.keep hf2 (bi.nil_right _)
   simpa [bR] using hR2
  rintro w H3 ⟨j,W',T',low',rfl,hj,hst,hr3,hf3⟩ _
  refine ⟨_,_,rfl,?_⟩
  have hob3:=hob.fr hf3 hFb'
  have hm3:dM H3 H.size (r.oops+1).toNat (fun k=>if k∈ks then 1 else 0):=(hm1.fr hf2 (by simp)).fr hf3 hsb
  split
  ·rename_i hjl
   have hjl:j<r.objs.length:=by omega
   obtain ⟨pa,hpa,hcell,hlt⟩:=(hob3.rd).int (i:=(j:Int)) (by omega) (by omega)
   have ho:r.objs.drop j=r.objs[j] :: r.objs.drop (j+1):=List.drop_eq_getElem_cons hjl
   have hom:r.objs[j]∈r.objs:=List.getElem_mem hjl
   have hgd:(r.objs.map (·.oop)).getD (j:Int).toNat 0=r.objs[j].oop:=by simp [hjl]
   rw [hgd] at hcell
   have htk:r.objs.take (j+1)=r.objs.take j++[r.objs[j]]:=by rw [List.take_add_one];simp [hjl]
   generalize hoe:r.objs[j]=o at *
   have hg:=hwf.objs.good o hom
   have hg1:=hg.oop1
   have hg2:=hg.oop2
   have hg3:=hg.pl
   have hg4:=hg.fits
   have hg5:=o.len_pos
   have hg6:=hg.many
   rw [ho] at hst
   obtain ⟨e1,e2,e3,e4⟩:=hst.ends
   have hT:T' o.oop=o.place:=by
    rw [hst.tab o.oop (by omega) (by omega),gC,i4,if_pos rfl]
    have hn:aH (bR 0 ((r.objs.take j).filter kf)) o.oop=none:=dt.2 fun x hx=>(e3 x hx).2.2
    rw [hn];rfl
   have hWs:W' (o.place+1)=2*(o.slots.length:Int)+o.fmt:=by
    rw [hst.regR o (by simp) 1 (by omega) (by omega)];exact hR.sim.shp o hom
   subst hpa
   have ej:IntKind.wrap .i64 ((j:Int)+1)=((j+1:Nat):Int):=by rw [am (by omega) (by omega)];omega
   simp only [ae,cond_true,cond_false,Option.isNone_some,Option.isNone_none,aL,aB,aY,aQ,aJ,aR,aU,aC,aW,aV,aK,aX,and_assoc,true_and,and_true,ao,Nat.zero_add,Nat.mul_one,az,ax,aD,Bool.not_true,Bool.not_false,bj,bf,hcell,hr3.c1,hr3.tabc (i:=o.oop) (by omega) (by omega),hm3.cell (i:=o.oop) (by omega) (by omega),hT,ej]
   refine ⟨by omega,by omega,by omega,by omega,by omega,by omega,?_⟩
   by_cases hkk:o.oop∈ks
   ·have hkeep:kf o=true:=by rw [hkf];simpa using hkk
    simp only [hkk,if_true]
    rw [if_neg (by decide)]
    have hlen:o.len=lenOf o.slots.length o.fmt:=rfl
    refine td hr3 hg3 (by omega) (by omega) hWs hg.fmt (by omega) (by omega) ?_
    rw [←hlen]
    have e5:IntKind.wrap .i64 (o.place+o.len)=o.place+o.len:=am (by omega) (by omega)
    have e6:IntKind.wrap .i64 (bx 0 ((r.objs.take j).filter kf)+o.len)=bx 0 ((r.objs.take j).filter kf)+o.len:=am (by omega) (by omega)
    simp only [ae,cond_true,cond_false,Option.isNone_some,Option.isNone_none,aL,aB,aY,aQ,aJ,aR,aU,aC,aW,aV,aK,aX,and_assoc,true_and,and_true,ao,Nat.zero_add,Nat.mul_one,az,ax,aD,Bool.not_true,Bool.not_false,bj,bf,hr3.c0,e5,e6]
    refine ⟨by omega,by omega,by omega,by omega,by omega,by omega,?_⟩
    refine sw hs1 hr3.mw e1 (by omega) (by omega) hg3 (by omega) (by omega) (by omega) fun H4 hm4 hs4 hk4=>?_
    have hr4:Raw H4 hb wb tb bb r.words.toNat (r.oops+1).toNat ⟨fun i=>if bx 0 ((r.objs.take j).filter kf)<=i∧i<bx 0 ((r.objs.take j).filter kf)+(((o.place+o.len).toNat-o.place.toNat:Nat):Int) then W' (i-bx 0 ((r.objs.take j).filter kf)+o.place) else W' i,T',B,((bR 0 ((r.objs.take j).filter kf)).length:Int)+((r.objs.length-j:Nat):Int),bn r.objs,low',r.mark,r.born,r.turn⟩:=⟨hr3.hd.of_eq (hk4 _ hne.1.1),hm4,hr3.mt.of_eq (hk4 _ hne.2.1.1.symm),hr3.mb.of_eq (hk4 _ hne.2.1.2.1.symm),hr3.d⟩
    have hf4:Fr [hb,wb,tb,bb] H2 H4:=hf3.trans ⟨by omega,fun b _ hn=>hk4 b fun e=>hn (by simp [e])⟩
    simp only [ae,cond_true,cond_false,Option.isNone_some,Option.isNone_none,aL,aB,aY,aQ,aJ,aR,aU,aC,aW,aV,aK,aX,and_assoc,true_and,and_true,ao,Nat.zero_add,Nat.mul_one,az,ax,aD,Bool.not_true,Bool.not_false,bj,bf,hr4.c1]
    have hr5:=hr4.setT (i:=o.oop) (by omega) (bx 0 ((r.objs.take j).filter kf))
    have hst5:=hst.stay hkeep (W':=fun i=>if bx 0 ((r.objs.take j).filter kf)<=i∧i<bx 0 ((r.objs.take j).filter kf)+(((o.place+o.len).toNat-o.place.toNat:Nat):Int) then W' (i-bx 0 ((r.objs.take j).filter kf)+o.place) else W' i) fun i=>by
     have:(((o.place+o.len).toNat-o.place.toNat:Nat):Int)=o.len:=by omega
     rw [this]
    have hfl:(r.objs.take (j+1)).filter kf=(r.objs.take j).filter kf++[o]:=by rw [htk,List.filter_append];simp [hkeep]
    refine ⟨by omega,by omega,hr4.mt.wr (by omega) (by omega),⟨j+1,_,_,_,?_,by omega,by rw [htk];exact hst5,?_,hf4.step (by simp)⟩,by simp;omega⟩
    ·rw [hfl,fy]
    ·rw [hfl,dK,List.length_append]
     have hc:((bR 0 ((r.objs.take j).filter kf)).length:Int)+((r.objs.length-j:Nat):Int)=((bR 0 ((r.objs.take j).filter kf)).length+([({ o with place:=bx 0 ((r.objs.take j).filter kf) }:RO)].length:Nat):Nat)+((r.objs.length-(j+1):Nat):Int):=by
      simp only [List.length_singleton];omega
     have:=hr5
     simp only [hc] at this
     exact this
   ·have hkeep:kf o=false:=by rw [hkf];simpa using hkk
    simp only [hkk,if_false]
    rw [if_pos trivial]
    have hfl:(r.objs.take (j+1)).filter kf=(r.objs.take j).filter kf:=by rw [htk,List.filter_append];simp [hkeep]
    have hslen:((bR 0 ((r.objs.take j).filter kf)).length:Int)<=r.objs.length:=by
     rw [jM]
     have h1:=List.length_filter_le kf (r.objs.take j)
     have h2:=List.length_take_le j r.objs
     rw [List.length_take] at h1
     omega
    refine EA hr3 (by omega) (by omega) (by show 0<=T' o.oop;rw [hT];exact hg3) (by show T' o.oop<_;rw [hT];omega) (by simp only;omega) (by simp only;omega) fun H4 hr4 hf4=>?_
    have hst5:=hst.drop hkeep
    refine ⟨rfl,⟨j+1,_,_,_,by rw [hfl],by omega,by rw [htk];exact hst5,?_,hf3.trans hf4⟩,by simp;omega⟩
    rw [hfl]
    have hc:((bR 0 ((r.objs.take j).filter kf)).length:Int)+((r.objs.length-j:Nat):Int)-1=((bR 0 ((r.objs.take j).filter kf)).length:Int)+((r.objs.length-(j+1):Nat):Int):=by omega
    have:=hr4
    simp only [hc,hT] at this
    exact this
  ·rename_i hjl
   have hje:j=r.objs.length:=by omega
   subst hje
   have htl:r.objs.take r.objs.length=r.objs:=List.take_length
   have hdl:r.objs.drop r.objs.length=[]:=List.drop_length
   rw [htl,hdl] at hst
   rw [htl] at hr3
   rw [htl]
   rw [←hko] at hr3
   have hek:bx 0 (r.objs.filter kf)=bn (r.keepO ks):=by rw [hko,gE]
   rw [hek]
   have hkw:=om hwf ks
   have hkb:=bO hkw hwf.w0
   have hkc:=eh hkw
   have hle:bn (r.keepO ks)<=bn r.objs:=by
    rcases List.eq_nil_or_concat (r.keepO ks) with he | ⟨m,x,he⟩
    ·rw [he];simpa [bn] using hen.1
    ·simp only [List.concat_eq_append] at he
     have hx:x∈r.keepO ks:=by rw [he];simp
     rw [hko] at hx
     obtain ⟨o,g1,g2,g3⟩:=oX _ 0 hst.wfd (fun o ho=>(hst.wfd.good o ho).pl) x hx
     have hxl:x.len=o.len:=by rw [g2];rfl
     have:=kR hwf.objs (List.mem_filter.1 g1).1
     rw [he,di];omega
   have hkl:((r.keepO ks).length:Int)<=r.objs.length:=by
    rw [hko,jM]
    have:=List.length_filter_le kf r.objs
    omega
   simp only [ae,cond_true,cond_false,Option.isNone_some,Option.isNone_none,aL,aB,aY,aQ,aJ,aR,aU,aC,aW,aV,aK,aX,and_assoc,true_and,and_true,ao,Nat.zero_add,Nat.mul_one,az,ax,aD,Bool.not_true,Bool.not_false,bj,bf,hr3.c0,hr3.c4]
   refine ⟨by omega,by omega,by omega,by omega,?_⟩
   refine kH hs1 hr3.mw (by omega) (by omega) fun H4 hm4 hs4 hk4=>?_
   have hr4:Raw H4 hb wb tb bb r.words.toNat (r.oops+1).toNat ⟨fun i=>if bn (r.keepO ks)<=i∧i<bn (r.keepO ks)+(((bn r.objs).toNat-(bn (r.keepO ks)).toNat:Nat):Int) then 0 else W' i,T',B,((r.keepO ks).length:Int)+((r.objs.length-r.objs.length:Nat):Int),bn r.objs,low',r.mark,r.born,r.turn⟩:=⟨hr3.hd.of_eq (hk4 _ hne.1.1),hm4,hr3.mt.of_eq (hk4 _ hne.2.1.1.symm),hr3.mb.of_eq (hk4 _ hne.2.1.2.1.symm),hr3.d⟩
   have hf4:Fr [hb,wb,tb,bb] H2 H4:=hf3.trans ⟨by omega,fun b _ hn=>hk4 b fun e=>hn (by simp [e])⟩
   have hr5:=hr4.set4 (bn (r.keepO ks))
   have hr6:=hr5.set8 (IntKind.wrap .i64 (r.turn+1))
   simp only [ae,cond_true,cond_false,Option.isNone_some,Option.isNone_none,aL,aB,aY,aQ,aJ,aR,aU,aC,aW,aV,aK,aX,and_assoc,true_and,and_true,ao,Nat.zero_add,Nat.mul_one,az,ax,aD,Bool.not_true,Bool.not_false,bj,bf,hr5.c8,hr6.c3]
   have e7:IntKind.wrap .i64 ((r.objs.length:Int)-(((r.keepO ks).length:Int)+((r.objs.length-r.objs.length:Nat):Int)))=(r.objs.length:Int)-((r.keepO ks).length:Int):=by rw [am (by omega) (by omega)];omega
   have e8:IntKind.wrap .i64 (bn r.objs-bn (r.keepO ks))=bn r.objs-bn (r.keepO ks):=am (by omega) (by omega)
   rw [e7,e8]
   have hf6:Fr [hb,wb,tb,bb] H (au (au H4 ⟨hb,4,none⟩ (.int .i64 (bn (r.keepO ks)))) ⟨hb,8,none⟩ (.int .i64 (IntKind.wrap .i64 (r.turn+1)))):=((hsub hf4).step (by simp)).step (by simp)
   refine ⟨hr4.wrh (by decide),hr5.wrh (by decide),h _ ⟨wb,tb,bb,_,_,_,_,rfl,hr6.phs (hR.kinds.fr hf6 hR0.gk) hwf2 (r:={ r with objs:=r.keepO ks,turn:=IntKind.wrap .i64 (r.turn+1) }) ?_ rfl rfl (by simp) rfl rfl rfl rfl⟩ hf6⟩
   have hst2:KeepSt W r.words r.oops kf r.objs [] (fun i=>if bn (r.keepO ks)<=i∧i<bn (r.keepO ks)+(((bn r.objs).toNat-(bn (r.keepO ks)).toNat:Nat):Int) then 0 else W' i) T' low' :=
    { wf:=hst.wf,regK:=fun x hx=>by
       obtain ⟨o,g1,g2,g3⟩:=hst.regK x hx
       refine ⟨o,g1,g2,fun i h0 h1=>?_⟩
       have hx':x∈r.keepO ks:=by rw [hko];exact hx
       have:=kR hkw hx'
       have hxl:x.len=o.len:=by rw [g2];rfl
       rw [if_neg (by omega)]
       exact g3 i h0 h1
      regR:=fun y hy=>by cases hy
      tab:=hst.tab,low1:=hst.low1,low2:=hst.low2,low3:=hst.low3 }
   have:=Ay hR.sim hst2 (tn:=IntKind.wrap .i64 (r.turn+1))
   rw [←hko] at this
   exact this
end
end Go.Proofs.YtmkdkplipbocjaaGreatDoor
namespace Kw
open Go Go.Proofs Go.Shelf Go.Sort Go.RowKit Go.Lib
variable {P:Program}{α:Type} [Inhabited α]
theorem sS {enc:α->Value}{w:World}{b:Nat}{d:Array α}{cs:Array Value}{t:TypeId}{fr:Nat × Nat} (hb:w.heap[b]?=some (.cells cs t fr)) :
  (putRow enc w b 0 d).heap[b]?=some (.cells (putCells enc 0 d cs) t fr)∧(putRow enc w b 0 d).heap.size=w.heap.size∧∀ b',b'≠b->(putRow enc w b 0 d).heap[b']?=w.heap[b']?:=by
 refine ⟨?_,by simp [putRow,mapBlock],fun b' hn=>?_⟩
 ·simp only [putRow,mapBlock,Array.getElem?_modify,if_true,hb,Option.map_some]
  rfl
 ·simp only [putRow,mapBlock,Array.getElem?_modify]
  rw [if_neg (Ne.symm hn)]
theorem jq {enc:α->Value}{w:World}{b m:Nat}{d:Array α}{os:Array Obj}{cs:Array Value}{t:TypeId}{fr:Nat × Nat} (hb:w.heap[b]?=some (.cells cs t fr)) :
  (sortWorld enc w b 0 m d os).heap[b]?=some (.cells (putCells enc 0 d cs) t fr)∧Fr [b] w.heap (sortWorld enc w b 0 m d os).heap:=by
 have h:=sS (enc:=enc) (w:=Sort.ahead w m) (d:=d) (b:=b) (cs:=cs) (t:=t) (fr:=fr) hb
 have hlt:b<w.heap.size:=(Array.getElem?_eq_some_iff.1 hb).1
 have hs:(Sort.ahead w m).heap.size=w.heap.size:=rfl
 unfold sortWorld Sort.grow
 refine ⟨?_,?_,fun b' hb' hn=>?_⟩
 ·simp only
  rw [Array.getElem?_append_left (by rw [h.2.1];exact hlt)]
  exact h.1
 ·simp only [Array.size_append];rw [h.2.1];exact Nat.le_add_right _ _
 ·simp only
  rw [Array.getElem?_append_left (by rw [h.2.1];exact hb')]
  exact h.2.2 b' (by simpa using hn)
theorem pd {ρ:Ren} (L:SlLaysF.n6 P ρ) (enc:α->Int) (cf:α->α->Int) (hO:SWO (ltOf cf)) (hT:∀ x y,(ltOf cf) x y=false->(ltOf cf) y x=false->x=y){g:Nat}{cb:Array Value}
  (hfn:∃ fn,P.funcs[ρ.f 6]?=some fn∧fn.body.isSome=true) (eg:∀ args w,(callFunc g args).run P w=.ok (.enter g args) w){b l c:Nat}{H:aj}{d:List α}{Q:Value->aj->Prop} (ho:bv 1 H (some ⟨b,0,none⟩) l c (aq (d.map enc)) [b]) (hsz:l<4611686018427387904)
  (hcl:∀ x y H',Fr [b] H H'->ah P g (#[.int .i64 (enc x),.int .i64 (enc y)]++cb) (fun v H''=>v=.int .i64 (cf x y)∧H''=H') H')
  (h:∀ H',bv 1 H' (some ⟨b,0,none⟩) l c (aq ((d.mergeSort fun x y=>!(ltOf cf) y x).map enc)) [b]->Fr [b] H H'->Q (.tuple #[]) H') :
  ah P (ρ.f 6) #[.slice (some ⟨b,0,none⟩) l c,.func (.func g) #[] cb] Q H:=by
 refine ⟨hfn,?_⟩
 intro w hw
 subst hw
 rcases ho.2.2 with ⟨h0,_,_⟩ | ⟨b',cs,hb1,_,⟨t,hbk⟩,hcs,htk⟩
 ·cases h0
 cases hb1
 have hl:l=d.length:=by have:=ho.1;simpa [aq] using this.symm
 subst hl
 have hdl:(d.toArray).size=d.length:=by simp
 have hle:d.length<=c:=ho.2.1
 have hcell:∀ j,j<d.length->cs[j]?=some (.int .i64 (enc d.toArray[j]!)):=by
  intro j hj
  have h1:(cs.toList.take (d.length*1))[j]?=(aq (d.map enc))[j]?:=by rw [htk]
  rw [List.getElem?_take_of_lt (by omega)] at h1
  rw [←Array.getElem?_toList,h1]
  simp [aq,hj]
 have hH:Go.Sort.Holds (fun x=>Value.int .i64 (enc x)) w b 0 d.toArray:=by
  intro j hj
  rw [hdl] at hj
  refine ⟨?_,?_⟩
  ·rw [Nat.zero_add,←hcell j hj]
   unfold World.cell?
   simp only [hbk]
   rfl
  ·unfold World.frozen?
   simp only [hbk]
   simp
 have hS0:=Any.slices_SortFunc L (fun x=>Value.int .i64 (enc x)) (fun _=>rfl) cf hO g cb b 0 c d.toArray w eg (fun m os dk hdk x y=>?_) hH (Array.getElem?_eq_some_iff.1 hbk).1 (by simpa using hsz)
 ·rw [hdl] at hS0
  refine hS0.mono ?_
  rintro e w' ⟨rfl,d',n,os,hp,hs,rfl⟩
  have hd':d'=(d.mergeSort fun x y=>!(ltOf cf) y x).toArray:=by
   have h1:=sorted_unique_holds hO hT d.toArray d' (by simpa using hp) (by simpa using hs)
   rw [←h1]
  subst hd'
  have hh:=jq (enc:=fun x=>Value.int .i64 (enc x)) (m:=n) (os:=os) (d:=(d.mergeSort fun x y=>!(ltOf cf) y x).toArray) hbk
  refine ⟨_,rfl,h _ ⟨by simp [aq,List.length_mergeSort],hle,.inr ⟨b,_,rfl,rfl,⟨t,hh.1⟩,by simp [putCells,hcs],?_⟩⟩ hh.2,rfl,rfl,rfl,?_⟩
  ·apply List.ext_getElem
   ·simp [aq,putCells,List.length_mergeSort];omega
   ·intro j h1 h2
    have hj:j<d.length:=by simpa [aq,List.length_mergeSort] using h2
    have hj2:j<(d.mergeSort fun x y=>!(ltOf cf) y x).length:=by rw [List.length_mergeSort];exact hj
    simp only [List.getElem_take,aq,List.getElem_map,Array.getElem_toList,putCells,Array.getElem_mapIdx,Nat.zero_le,true_and,Nat.zero_add,List.size_toArray,List.length_mergeSort,hj,if_true,Nat.sub_zero]
    congr 2
    rw [List.getElem!_toArray,List.getElem!_eq_getElem?_getD,List.getElem?_eq_getElem hj2]
    rfl
  ·refine ⟨by show w.drawn<=w.drawn+n;omega,hh.2.1,fun b' ds hb'=>?_⟩
   have hlt':b'<w.heap.size:=(Array.getElem?_eq_some_iff.1 hb').1
   have hne:b'≠b:=fun e=>by subst e;rw [hbk] at hb';cases hb'
   exact (hh.2.2 b' hlt' (by simpa using hne)).trans hb'
 ·have hh:=jq (enc:=fun x=>Value.int .i64 (enc x)) (m:=m) (os:=os) (d:=dk) hbk
  refine ((hcl x y _ hh.2).2 _ rfl).mono ?_
  rintro e w' ⟨v,rfl,⟨rfl,hheap⟩,h1,h2,h3,h4,h5⟩
  refine ⟨rfl,w'.drawn-(sortWorld (fun x=>Value.int .i64 (enc x)) w b 0 m dk os).drawn,#[],?_⟩
  rw [Sort.grow_empty]
  cases w'
  simp only at hheap h1 h2 h3 h4
  subst hheap;subst h1;subst h2;subst h3
  rename_i dr
  have e:dr=(sortWorld (fun x=>Value.int .i64 (enc x)) w b 0 m dk os).drawn+(dr-(sortWorld (fun x=>Value.int .i64 (enc x)) w b 0 m dk os).drawn):=by omega
  unfold World.drewN
  show World.mk _ _ _ _ _=World.mk _ _ _ _ _
  congr 1
end Kw
namespace Go.Proofs
open Go.Shelf
def Tryz.sortL_ren:Go.Shelf.Ren:=⟨fun | 6=>273 | 15=>271 | 14=>290 | 28=>288 | 29=>289 | 20=>296 | 21=>297 | 22=>298 | 23=>299 | 24=>300 | 25=>301 | 26=>302 | 27=>303 | 46=>305 | 47=>292 | 48=>293 | 49=>306 | 50=>307 | 57=>308 | n=>n,fun | 22=>66 | 24=>3 | 25=>132 | 3=>3 | 39=>213 | 0=>0 | 53=>314 | 55=>316 | 4=>4 | 46=>308 | 45=>307 | 50=>193 | 5=>5 | 9=>9 | 66=>318 | 70=>322 | 76=>329 | 77=>105 | n=>n,fun | n=>n⟩
theorem Tryz.sortL:Go.Proofs.SlLaysF.n6 Tryz.prog Tryz.sortL_ren:={
 mixed:=by kernel_rfl
 f6:=⟨Tryz.f273.name,by decide,Tryz.func273.trans (congrArg some (by kernel_rfl))⟩
 f14:=⟨Tryz.f290.name,by decide,Tryz.func290.trans (congrArg some (by kernel_rfl))⟩
 f15:=Tryz.func271.trans (congrArg some (by kernel_rfl))
 f20:=⟨Tryz.f296.name,by decide,Tryz.func296.trans (congrArg some (by kernel_rfl))⟩
 f21:=⟨Tryz.f297.name,by decide,Tryz.func297.trans (congrArg some (by kernel_rfl))⟩
 f22:=⟨Tryz.f298.name,by decide,Tryz.func298.trans (congrArg some (by kernel_rfl))⟩
 f23:=⟨Tryz.f299.name,by decide,Tryz.func299.trans (congrArg some (by kernel_rfl))⟩
 f24:=⟨Tryz.f300.name,by decide,Tryz.func300.trans (congrArg some (by kernel_rfl))⟩
 f25:=⟨Tryz.f301.name,by decide,Tryz.func301.trans (congrArg some (by kernel_rfl))⟩
 f26:=⟨Tryz.f302.name,by decide,Tryz.func302.trans (congrArg some (by kernel_rfl))⟩
 f27:=⟨Tryz.f303.name,by decide,Tryz.func303.trans (congrArg some (by kernel_rfl))⟩
 f28:=Tryz.func288.trans (congrArg some (by kernel_rfl))
 f29:=Tryz.func289.trans (congrArg some (by kernel_rfl))
 f46:=⟨Tryz.f305.name,by decide,Tryz.func305.trans (congrArg some (by kernel_rfl))⟩
 f47:=Tryz.func292.trans (congrArg some (by kernel_rfl))
 f48:=Tryz.func293.trans (congrArg some (by kernel_rfl))
 f49:=⟨Tryz.f306.name,by decide,Tryz.func306.trans (congrArg some (by kernel_rfl))⟩
 f50:=⟨Tryz.f307.name,by decide,Tryz.func307.trans (congrArg some (by kernel_rfl))⟩
 f57:=⟨Tryz.f308.name,by decide,Tryz.func308.trans (congrArg some (by kernel_rfl))⟩
 t0:=Tryz.underlying0
 a0:=Tryz.isAgg0
 z0:=Tryz.sizeOf0
 v0:=Tryz.zeroValue0
 t3:=Tryz.underlying3
 a3:=Tryz.isAgg3
 z3:=Tryz.sizeOf3
 v3:=Tryz.zeroValue3
 t4:=Tryz.underlying4
 a4:=Tryz.isAgg4
 z4:=Tryz.sizeOf4
 v4:=Tryz.zeroValue4
 t5:=Tryz.underlying5
 a5:=Tryz.isAgg5
 z5:=Tryz.sizeOf5
 v5:=Tryz.zeroValue5
 t9:=Tryz.underlying9
 a9:=Tryz.isAgg9
 z9:=Tryz.sizeOf9
 v9:=Tryz.zeroValue9
 t22:=Tryz.underlying66
 a22:=Tryz.isAgg66
 z22:=Tryz.sizeOf66
 v22:=Tryz.zeroValue66
 a24:=Tryz.isAgg3
 z24:=Tryz.sizeOf3
 t25:=Tryz.underlying132
 a25:=Tryz.isAgg132
 z25:=Tryz.sizeOf132
 v25:=Tryz.zeroValue132
 t39:=Tryz.underlying213
 a39:=Tryz.isAgg213
 z39:=Tryz.sizeOf213
 v39:=Tryz.zeroValue213
 t45:=Tryz.underlying307
 a45:=Tryz.isAgg307
 z45:=Tryz.sizeOf307
 v45:=Tryz.zeroValue307
 t46:=Tryz.underlying308
 a46:=Tryz.isAgg308
 z46:=Tryz.sizeOf308
 v46:=Tryz.zeroValue308
 t50:=Tryz.underlying193
 a50:=Tryz.isAgg193
 z50:=Tryz.sizeOf193
 v50:=Tryz.zeroValue193
 t53:=Tryz.underlying314
 a53:=Tryz.isAgg314
 z53:=Tryz.sizeOf314
 v53:=Tryz.zeroValue314
 t55:=Tryz.underlying316
 a55:=Tryz.isAgg316
 z55:=Tryz.sizeOf316
 v55:=Tryz.zeroValue316
 t66:=Tryz.underlying318
 a66:=Tryz.isAgg318
 z66:=Tryz.sizeOf318
 v66:=Tryz.zeroValue318
 t70:=Tryz.underlying322
 a70:=Tryz.isAgg322
 z70:=Tryz.sizeOf322
 v70:=Tryz.zeroValue322
 t76:=Tryz.underlying329
 a76:=Tryz.isAgg329
 z76:=Tryz.sizeOf329
 v76:=Tryz.zeroValue329
 t77:=Tryz.underlying105
 a77:=Tryz.isAgg105
 z77:=Tryz.sizeOf105
 v77:=Tryz.zeroValue105 }
def Tryz.sortI_ren:Go.Shelf.Ren:=⟨fun | 189=>251 | 125=>271 | 257=>270 | 128=>288 | 129=>289 | 294=>280 | 295=>281 | 296=>282 | 297=>283 | 298=>284 | 299=>285 | 216=>253 | 300=>286 | 301=>287 | 328=>291 | 329=>292 | 330=>293 | 331=>294 | 332=>295 | 215=>275 | 343=>304 | n=>n,fun | 28=>66 | 3=>3 | 46=>213 | 0=>0 | 51=>314 | 53=>316 | 4=>4 | 183=>308 | 182=>307 | 131=>193 | 5=>5 | 9=>9 | 218=>318 | 222=>322 | 228=>329 | 229=>105 | n=>n,fun | n=>n⟩
theorem Tryz.sortI:Go.Proofs.Lays.n189 Tryz.prog Tryz.sortI_ren:={
 mixed:=by kernel_rfl
 f125:=Tryz.func271.trans (congrArg some (by kernel_rfl))
 f128:=Tryz.func288.trans (congrArg some (by kernel_rfl))
 f129:=Tryz.func289.trans (congrArg some (by kernel_rfl))
 f189:=Tryz.func251.trans (congrArg some (by kernel_rfl))
 f215:=Tryz.func275.trans (congrArg some (by kernel_rfl))
 f216:=Tryz.func253.trans (congrArg some (by kernel_rfl))
 f257:=Tryz.func270.trans (congrArg some (by kernel_rfl))
 f294:=Tryz.func280.trans (congrArg some (by kernel_rfl))
 f295:=Tryz.func281.trans (congrArg some (by kernel_rfl))
 f296:=Tryz.func282.trans (congrArg some (by kernel_rfl))
 f297:=Tryz.func283.trans (congrArg some (by kernel_rfl))
 f298:=Tryz.func284.trans (congrArg some (by kernel_rfl))
 f299:=Tryz.func285.trans (congrArg some (by kernel_rfl))
 f300:=Tryz.func286.trans (congrArg some (by kernel_rfl))
 f301:=Tryz.func287.trans (congrArg some (by kernel_rfl))
 f328:=Tryz.func291.trans (congrArg some (by kernel_rfl))
 f329:=Tryz.func292.trans (congrArg some (by kernel_rfl))
 f330:=Tryz.func293.trans (congrArg some (by kernel_rfl))
 f331:=Tryz.func294.trans (congrArg some (by kernel_rfl))
 f332:=Tryz.func295.trans (congrArg some (by kernel_rfl))
 f343:=Tryz.func304.trans (congrArg some (by kernel_rfl))
 t0:=Tryz.underlying0
 a0:=Tryz.isAgg0
 z0:=Tryz.sizeOf0
 v0:=Tryz.zeroValue0
 t3:=Tryz.underlying3
 a3:=Tryz.isAgg3
 z3:=Tryz.sizeOf3
 v3:=Tryz.zeroValue3
 t4:=Tryz.underlying4
 a4:=Tryz.isAgg4
 z4:=Tryz.sizeOf4
 v4:=Tryz.zeroValue4
 t5:=Tryz.underlying5
 a5:=Tryz.isAgg5
 z5:=Tryz.sizeOf5
 v5:=Tryz.zeroValue5
 t9:=Tryz.underlying9
 a9:=Tryz.isAgg9
 z9:=Tryz.sizeOf9
 v9:=Tryz.zeroValue9
 t28:=Tryz.underlying66
 a28:=Tryz.isAgg66
 z28:=Tryz.sizeOf66
 v28:=Tryz.zeroValue66
 t46:=Tryz.underlying213
 a46:=Tryz.isAgg213
 z46:=Tryz.sizeOf213
 v46:=Tryz.zeroValue213
 t51:=Tryz.underlying314
 a51:=Tryz.isAgg314
 z51:=Tryz.sizeOf314
 v51:=Tryz.zeroValue314
 t53:=Tryz.underlying316
 a53:=Tryz.isAgg316
 z53:=Tryz.sizeOf316
 v53:=Tryz.zeroValue316
 t131:=Tryz.underlying193
 a131:=Tryz.isAgg193
 z131:=Tryz.sizeOf193
 v131:=Tryz.zeroValue193
 t182:=Tryz.underlying307
 a182:=Tryz.isAgg307
 z182:=Tryz.sizeOf307
 v182:=Tryz.zeroValue307
 t183:=Tryz.underlying308
 a183:=Tryz.isAgg308
 z183:=Tryz.sizeOf308
 v183:=Tryz.zeroValue308
 t218:=Tryz.underlying318
 a218:=Tryz.isAgg318
 z218:=Tryz.sizeOf318
 v218:=Tryz.zeroValue318
 t222:=Tryz.underlying322
 a222:=Tryz.isAgg322
 z222:=Tryz.sizeOf322
 v222:=Tryz.zeroValue322
 t228:=Tryz.underlying329
 a228:=Tryz.isAgg329
 z228:=Tryz.sizeOf329
 v228:=Tryz.zeroValue329
 t229:=Tryz.underlying105
 a229:=Tryz.isAgg105
 z229:=Tryz.sizeOf105
 v229:=Tryz.zeroValue105 }
end Go.Proofs
namespace Go.Proofs.YtmkdkplipbocjaaGreatDoor
open Kw Go.Sort
theorem xM {H:aj}{hb:Nat}{r:RH}{Q:QT}{F:ay} (hbp:ro hb r) (hR:dp H hb F r){a2:Option Addr}{l2 c2:Nat}{ks:List Int} (hk:Rd 1 H a2 l2 (aq ks)) (hd:∀ p,a2=some p->p.block∉F) (hlk:l2<=1099511627776)
  (h:∀ H',dp H' hb F (r.keep ks).2->Fr F H H'->Q (jP (r.keep ks).1) H'):ah PP xN #[.pointer (some ⟨hb,0,none⟩),.slice a2 l2 c2] Q H:=IL hR hbp hk hd hlk h
def fh (r:RH) (k:Int):Int:=match aH r.objs k with
 | some o=>o.place
 | none=>-1
abbrev iu (r:RH):Type:={ k:Int // aH r.objs k≠none∨k=0 }
instance (r:RH):Inhabited (iu r):=⟨⟨0,.inr rfl⟩⟩
theorem th {r:RH} (hw:WFH r){x y:iu r} (h:fh r x.1=fh r y.1):x=y:=by
 have h0:∀ z:iu r,aH r.objs z.1=none->z.1=0:=fun z hz=>z.2.resolve_left fun hn=>hn hz
 have hp:∀ z o,aH r.objs z=some o->o∈r.objs∧o.oop=z∧0<=o.place:=fun z o ho=>⟨(aM ho).1,(aM ho).2,(hw.objs.good o (aM ho).1).pl⟩
 apply Subtype.ext
 unfold fh at h
 cases hx:aH r.objs x.1 with
 | none =>
  cases hy:aH r.objs y.1 with
  | none=>rw [h0 x hx,h0 y hy]
  | some o=>rw [hx,hy] at h;have:=(hp _ o hy).2.2;simp only at h;omega
 | some o =>
  cases hy:aH r.objs y.1 with
  | none=>rw [hx,hy] at h;have:=(hp _ o hx).2.2;simp only at h;omega
  | some o' =>
   rw [hx,hy] at h
   simp only at h
   obtain ⟨k1,k2,k3⟩:=hp _ o hx
   obtain ⟨k4,k5,k6⟩:=hp _ o' hy
   refine Classical.byContradiction fun hne=>?_
   have:=o.len_pos
   have:=o'.len_pos
   rcases apart hw.objs k1 k4 (by rw [k2,k5];exact hne) with h1 | h1 <;> omega
def wO (r:RH) (x y:iu r):Int:=fh r x.1-fh r y.1
theorem lj {r:RH} (x y:iu r):ltOf (wO r) x y=decide (fh r x.1<fh r y.1):=by
 unfold ltOf wO
 by_cases h:fh r x.1<fh r y.1
 ·simp [h];omega
 ·simp [h];omega
theorem tp {r:RH} (hw:WFH r){d:List (iu r)} (hd:d.map (·.1)=r.all):(d.mergeSort fun x y=>!(ltOf (wO r)) y x).map (·.1)=r.objs.map (·.oop):=by
 have hmem:∀ o∈r.objs,aH r.objs o.oop≠none∨o.oop=0:=fun o ho=>.inl (by rw [bW hw.objs ho];simp)
 obtain ⟨t,ht⟩:∃ t:List (iu r),t.map (·.1)=r.objs.map (·.oop):=⟨r.objs.attach.map fun o=>⟨o.1.oop,hmem o.1 o.2⟩,by
  simp only [List.map_map]
  exact List.attach_map_val (f:=fun o:RO=>o.oop) (l:=r.objs)⟩
 have hle:∀ x y:iu r,(!(ltOf (wO r)) y x)=decide (fh r x.1<=fh r y.1):=fun x y=>by
  rw [lj]
  by_cases h:fh r y.1<fh r x.1
  ·simp [h]
  ·simp [h];omega
 rw [←ht]
 congr 1
 have hfun:(fun x y:iu r=>!(ltOf (wO r)) y x)=fun x y=>decide (fh r x.1<=fh r y.1):=by funext x y;exact hle x y
 rw [hfun]
 have hnd:d.Nodup:=by
  have h1:(r.all).Nodup:=by
   unfold RH.all RH.upto
   exact (List.nodup_range.map (fun (i:Nat)=>(i:Int)) fun a b hab h=>hab (by omega)).filter _
  rw [←hd] at h1
  rw [List.nodup_iff_pairwise_ne,List.pairwise_map] at h1
  exact List.nodup_iff_pairwise_ne.2 (h1.imp fun h e=>h (congrArg _ e))
 have hnt:t.Nodup:=by
  have h1:(r.objs.map (·.oop)).Nodup:=by
   rw [List.nodup_iff_pairwise_ne,List.pairwise_map]
   exact hw.objs.pw.imp fun h=>h.1
  rw [←ht] at h1
  rw [List.nodup_iff_pairwise_ne,List.pairwise_map] at h1
  exact List.nodup_iff_pairwise_ne.2 (h1.imp fun h e=>h (congrArg _ e))
 have hperm:d.Perm t:=by
  rw [List.perm_ext_iff_of_nodup hnd hnt]
  intro x
  have e1:x∈d↔x.1∈r.all:=by
   rw [←hd,List.mem_map]
   constructor
   ·exact fun h=>⟨x,h,rfl⟩
   ·rintro ⟨y,hy,he⟩;rw [←Subtype.ext he];exact hy
  have e2:x∈t↔x.1∈r.objs.map (·.oop):=by
   rw [←ht,List.mem_map]
   constructor
   ·exact fun h=>⟨x,h,rfl⟩
   ·rintro ⟨y,hy,he⟩;rw [←Subtype.ext he];exact hy
  rw [e1,e2,RH.mem_all hw,List.mem_map]
  constructor
  ·intro h
   cases ho:aH r.objs x.1 with
   | none=>exact absurd ho h
   | some o=>exact ⟨o,(aM ho).1,(aM ho).2⟩
  ·rintro ⟨o,ho,he⟩
   rw [←he,bW hw.objs ho];simp
 have hs1:=List.pairwise_mergeSort (le:=fun x y:iu r=>decide (fh r x.1<=fh r y.1)) (fun a b c h1 h2=>by simp at *;omega) (fun a b=>by simp;omega) d
 have hs2:t.Pairwise fun x y=>decide (fh r x.1<=fh r y.1)=true:=by
  have h1:(r.objs.map fun o=>fh r o.oop).Pairwise (·<=·):=by
   rw [List.pairwise_map]
   have h2:∀ o∈r.objs,fh r o.oop=o.place:=fun o ho=>by unfold fh;rw [bW hw.objs ho]
   refine List.Pairwise.imp_of_mem ?_ hw.objs.pw
   intro a b ha hb hab
   rw [h2 a ha,h2 b hb]
   have:=hab.2
   have:=a.len_pos
   omega
  have h2:(t.map fun x=>fh r x.1)=r.objs.map fun o=>fh r o.oop:=by
   have:=congrArg (List.map (fh r)) ht
   rw [List.map_map,List.map_map] at this
   exact this
  rw [←h2,List.pairwise_map] at h1
  exact h1.imp fun h=>by simpa using h
 exact List.Perm.eq_of_pairwise (fun a b _ _ h1 h2=>th hw (by simp at h1 h2;omega)) hs1 hs2 ((List.mergeSort_perm d _).trans hperm)
theorem qE (hb:Nat) (r:RH):ro hb r:=by
 intro H wb tb bb W T B low Q hR h
 have hw:=hR.wf
 have ho0:=hw.o0
 have ho1:=hw.o1
 apply Dr
 unfold Qb A0 pV lV cS
 have hgk:aE<H.size:=by
  have h0:=hR.kinds.1
  unfold ac at h0
  rcases Nat.lt_or_ge aE H.size with h1 | h1
  ·exact h1
  ·simp only [Array.getElem?_eq_none h1] at h0;cases h0
 have hfp:Fr [] H (H.push (.cells #[.pointer (some ⟨hb,0,none⟩)] 46)):=Fr.push _ _ _
 obtain ⟨wb',tb',bb',W',T',B',low',e,hR1'⟩:=hR.rep.fr hfp (bi.nil_right _) (by simp)
 have hR1:PHs (H.push (.cells #[.pointer (some ⟨hb,0,none⟩)] 46)) hb wb tb bb W T B low r:={ hR with hd:=hR.hd.push _,mw:=hR.mw.push _,mt:=hR.mt.push _,mb:=hR.mb.push _,kinds:=hR1'.kinds }
 simp only [ae,cond_true,cond_false,Option.isNone_some,Option.isNone_none,aL,aB,aY,aQ,aJ,aR,aU,aC,aW,aV,aK,aX,and_assoc,true_and,and_true,ao,Nat.zero_add,Nat.mul_one,az,ax,aD,Bool.not_true,Bool.not_false,bj,bf,List.setIfInBounds_toArray,List.set_cons_zero,List.set_cons_succ,List.size_toArray,List.length_cons,List.length_nil,List.getElem?_toArray,List.getElem?_cons_succ,List.getElem?_cons_zero]
 refine P8 hR1 fun a l c F H1 ho hf hF hFn=>?_
 simp only [ae,cond_true,cond_false,Option.isNone_some,Option.isNone_none,aL,aB,aY,aQ,aJ,aR,aU,aC,aW,aV,aK,aX,and_assoc,true_and,and_true,ao,Nat.zero_add,Nat.mul_one,az,ax,aD,Bool.not_true,Bool.not_false,bj,bf]
 have hlt:=ho.lt
 have hcap:ac H1 ⟨H.size,0,none⟩=some (.pointer (some ⟨hb,0,none⟩)):=((bA.new H #[.pointer (some ⟨hb,0,none⟩)] 46).fr hf (by simp)).cell 0
 have hlen:=ho.len
 simp only [aq,List.length_map] at hlen
 have hul:=r.upto_len (r.oops+1).toNat
 let d:List (iu r):=r.all.attach.map fun k=>⟨k.1,.inl ((RH.mem_all hw).1 k.2)⟩
 have hd:d.map (·.1)=r.all:=by
  simp only [d,List.map_map]
  exact List.attach_map_val (f:=fun k:Int=>k) (l:=r.all) |>.trans (List.map_id _)
 rcases ho.2.2 with ⟨ha,hc,hF0⟩ | ⟨b,cs,ha,hF0,_⟩
 ·exact absurd hF0 hFn
 ·subst ha;subst hF0
  have hbs:b≠H.size:=by
   have:=hF b (by simp)
   simp only [Array.size_push] at this
   omega
  have hbt:∀ x∈[hb,wb,tb,bb],x∉[b]:=fun x hx hn=>by
   simp only [List.mem_singleton] at hn
   have h1:=hF b (by simp)
   have h2:=hR.rep.lt x hx
   simp only [Array.size_push] at h1
   omega
  have hsz:l<4611686018427387904:=by
   have h1:r.all.length<=(r.oops+1).toNat:=hul
   omega
  refine pd (α:=iu r) Tryz.sortL (fun x=>x.1) (wO r) ?_ ?_ ⟨_,Tryz.func273,rfl⟩ (enters_of Tryz.func274 (by kernel_rfl) rfl) (d:=d) (by rw [hd];exact ho) hsz (fun x y H2 hf2=>?_) fun H2 ho2 hf2=>?_
  ·refine ⟨fun x=>?_,fun x y z h1 h2=>?_,fun x y z h1 h2=>?_⟩
   ·rw [lj];simp
   ·rw [lj] at *;simp at *;omega
   ·rw [lj] at *;simp at *;omega
  ·intro x y h1 h2
   rw [lj] at h1 h2
   simp at h1 h2
   exact th hw (by omega)
  ·have hR2:Raw H2 hb wb tb bb r.words.toNat (r.oops+1).toNat _:=(hR1.raw.keep hf (bi.nil_right _)).keep hf2 hbt
   have hcap2:ac H2 ⟨H.size,0,none⟩=some (.pointer (some ⟨hb,0,none⟩)):=(((bA.new H #[.pointer (some ⟨hb,0,none⟩)] 46).fr hf (by simp)).fr hf2 (by simp;omega)).cell 0
   have hrng:∀ z:iu r,0<=z.1∧z.1<=r.oops∧T z.1=fh r z.1∧-1<=fh r z.1∧fh r z.1<=r.words:=by
    intro z
    have hz:0<=z.1∧z.1<=r.oops:=by
     rcases z.2 with h1 | h1
     ·cases ho:aH r.objs z.1 with
      | none=>exact absurd ho h1
      | some o =>
       have hg:=hw.objs.good o (aM ho).1
       have h2:=hg.oop1
       have h3:=hg.oop2
       rw [(aM ho).2] at h2 h3
       omega
     ·omega
    refine ⟨hz.1,hz.2,hR.sim.tab z.1 hz.1 hz.2,?_⟩
    unfold fh
    have hw0:=hw.w0
    cases ho:aH r.objs z.1 with
    | none=>simp;omega
    | some o =>
     have hg:=hw.objs.good o (aM ho).1
     have h2:=hg.pl
     have h3:=hg.fits
     have h4:=o.len_pos
     simp only;omega
   obtain ⟨x1,x2,x3,x4,x5⟩:=hrng x
   obtain ⟨y1,y2,y3,y4,y5⟩:=hrng y
   have hw1:=hw.w1
   show ah PP Hi #[.int .i64 x.1,.int .i64 y.1,.pointer (some ⟨H.size,0,none⟩)] _ H2
   apply Ce
   unfold Pb iV wW pV lV
   simp only [ae,cond_true,cond_false,Option.isNone_some,Option.isNone_none,aL,aB,aY,aQ,aJ,aR,aU,aC,aW,aV,aK,aX,and_assoc,true_and,and_true,ao,Nat.zero_add,Nat.mul_one,az,ax,aD,Bool.not_true,Bool.not_false,bj,bf,hcap2,hR2.c1,hR2.tabc (i:=x.1) (by omega) (by omega),hR2.tabc (i:=y.1) (by omega) (by omega)]
   refine ⟨by omega,by omega,by omega,by omega,?_⟩
   rw [x3,y3,am (by omega) (by omega)]
   rfl
  ·have hs:=tp hw hd
   rw [hs] at ho2
   refine ⟨rfl,h _ _ _ [b] H2 ho2 ⟨?_,fun x hx _=>?_⟩ (fun x hx=>?_)⟩
   ·exact Nat.le_trans (hfp.trans hf).1 hf2.1
   ·rw [hf2.2 x (Nat.lt_of_lt_of_le hx (hfp.trans hf).1) (fun hn=>by
     simp only [List.mem_singleton] at hn
     have:=hF b (by simp)
     simp only [Array.size_push] at this
     omega),(hfp.trans hf).2 x hx (by simp)]
   ·have:=hF x hx
    simp only [Array.size_push] at this
    omega
end Go.Proofs.YtmkdkplipbocjaaGreatDoor
namespace Go.Proofs.YtmkdkplipbocjaaGreatDoor
open Kw
variable {Q:QT}{H:aj}
abbrev yh:Nat:=20
def QB (p1:Option Addr) (Q:QT) (H:aj):Prop :=
 ah PP 97 #[pV p1] (fun v2 H1=>∃ b3,v2=.bool b3∧cond b3 (Q (pV none) H1) (∃ q4,p1=some q4∧∃ p5,ac H1 q4=some (pV p5)∧Q (pV p5) H1)) H
theorem yx {p1:Option Addr} (h:QB p1 Q H):ah PP 20 #[.pointer p1] Q H :=
 okF Tryz.func20 rfl h
abbrev N5:Nat:=46
def Ro (n1:Int) (n2:Int) (Q:QT) (H:aj):Prop :=
 ah PP 159 #[iV n1,iV n2] (fun v3 H1=>∃ p4 n5,v3=.tuple #[pV p4,iV n5]∧cond (n5 != 0) (Q (.tuple #[pV none,iV n5]) H1) (Q (.tuple #[pV (some (A0 H1.size)),iV 0]) (H1.push (.cells #[pV p4,iV 0,lV none 0 0,.bool false,pV none,iV 0,iV 0,iV 0] 152)))) H
theorem Kc {n1:Int}{n2:Int} (h:Ro n1 n2 Q H):ah PP 46 #[.int .i64 n1,.int .i64 n2] Q H :=
 okF Tryz.func46 rfl h
abbrev Lr:Nat:=51
def RT (p1:Option Addr) (a2:Option Addr) (l2:Nat) (c2:Nat) (Q:QT) (H:aj):Prop :=
 ah PP 97 #[pV p1] (fun v3 H1=>∃ b4,v3=.bool b4∧cond b4 (Q (iV 2) H1) (cS 163 #[lV a2 l2 c2,.func (.func 164) #[] #[]] (fun v5 H2=>∃ b6,v5=.bool b6∧cond b6 (Q (iV 10) H2) (∃ q7,p1=some q7∧∃ a8 l8 c8,ac H2 (q7.add 2)=some (lV a8 l8 c8)∧cond (decide ((wW ((l8:Int)+(l2:Int))) > 65536)) (Q (iV 22) H2) (∃ q9,p1=some q9∧∃ a10 l10 c10,ac H2 (q9.add 2)=some (lV a10 l10 c10)∧bk PP (Builtin.append_ #[108,108] 108 #[lV a10 l10 c10,lV a2 l2 c2]) (fun v11 H3=>∃ a12 l12 c12,v11=lV a12 l12 c12∧∃ q13,p1=some q13∧Wr H3 (q13.add 2)∧Q (iV 0) (au H3 (q13.add 2) (lV a12 l12 c12))) H2))) H1)) H
theorem E7 {p1:Option Addr}{a2:Option Addr}{l2:Nat}{c2:Nat} (h:RT p1 a2 l2 c2 Q H):ah PP 51 #[.pointer p1,.slice a2 l2 c2] Q H :=
 okF Tryz.func51 rfl h
abbrev Lx:Nat:=53
def QY (p1:Option Addr) (n2:Int) (Q:QT) (H:aj):Prop :=
 ah PP 97 #[pV p1] (fun v3 H1=>∃ b4,v3=.bool b4∧cond b4 (Q (iV 2) H1) (∃ q5,p1=some q5∧∃ p6,ac H1 q5=some (pV p6)∧cS 137 #[pV p6,iV n2] (fun v7 H2=>∃ n8 n9,v7=.tuple #[iV n8,iV n9]∧cond (n9 != 0) (Q (iV n9) H2) (∃ q10,p1=some q10∧Wr H2 (q10.add 1)∧Q (iV 0) (au H2 (q10.add 1) (iV n2)))) H1)) H
theorem Fg {p1:Option Addr}{n2:Int} (h:QY p1 n2 Q H):ah PP 53 #[.pointer p1,.int .i64 n2] Q H :=
 okF Tryz.func53 rfl h
abbrev M3:Nat:=54
def Rt (p1:Option Addr) (n2:Int) (Q:QT) (H:aj):Prop :=
 ah PP 97 #[pV p1] (fun v3 H1=>∃ b4,v3=.bool b4∧cond b4 (Q (iV 2) H1) (cond (decide (n2<0)) (Q (iV 28) H1) (∃ q5,p1=some q5∧∃ a6 l6 c6,ac H1 (q5.add 2)=some (lV a6 l6 c6)∧cond (decide (n2 > (l6:Int))) (Q (iV 28) H1) (∃ q7,p1=some q7∧∃ a8 l8 c8,ac H1 (q7.add 2)=some (lV a8 l8 c8)∧∃ q9,p1=some q9∧∃ a10 l10 c10,ac H1 (q9.add 2)=some (lV a10 l10 c10)∧((0:Int)<=(wW ((l10:Int)-n2))∧(wW ((l10:Int)-n2))<=(c8:Int))∧∃ q11,p1=some q11∧Wr H1 (q11.add 2)∧True∧Q (iV 0) (au H1 (q11.add 2) (lV a8 (Int.toNat (wW ((l10:Int)-n2))) c8)))))) H
theorem HK {p1:Option Addr}{n2:Int} (h:Rt p1 n2 Q H):ah PP 54 #[.pointer p1,.int .i64 n2] Q H :=
 okF Tryz.func54 rfl h
abbrev Pv:Nat:=83
def Rx (p1:Option Addr) (Q:QT) (H:aj):Prop :=
 ah PP 97 #[pV p1] (fun v2 H1=>∃ b3,v2=.bool b3∧cond b3 (Q (lV none 0 0) H1) (∃ q4,p1=some q4∧∃ a5 l5 c5,ac H1 (q4.add 2)=some (lV a5 l5 c5)∧cS 187 #[lV a5 l5 c5] (fun v6 H2=>∃ a7 l7 c7,v6=lV a7 l7 c7∧cS 186 #[lV a7 l7 c7] (fun v8 H3=>∃ a9 l9 c9,v8=lV a9 l9 c9∧Q (lV a9 l9 c9) H3) H2) H1)) H
theorem KL {p1:Option Addr} (h:Rx p1 Q H):ah PP 83 #[.pointer p1] Q H :=
 okF Tryz.func83 rfl h
abbrev LW:Nat:=85
def QL (p1:Option Addr) (Q:QT) (H:aj):Prop :=
 ah PP 97 #[pV p1] (fun v2 H1=>∃ b3,v2=.bool b3∧cond b3 (Q (.tuple #[iV 0,iV 0]) H1) (∃ q4,p1=some q4∧∃ p5,ac H1 q4=some (pV p5)∧cS 195 #[pV p1] (fun v6 H2=>∃ a7 l7 c7,v6=lV a7 l7 c7∧((ac H2 q4=some (pV p5)∧True)∧True)∧cS 194 #[pV p5,lV a7 l7 c7] (fun v8 H3=>∃ a9 l9 c9 n10,v8=.tuple #[lV a9 l9 c9,iV n10]∧True∧cond (n10 != 0) (Q (.tuple #[iV 0,iV 0]) H3) (∃ q11,p1=some q11∧∃ p12,ac H3 q11=some (pV p12)∧cS 196 #[pV p12] (fun v13 H4=>shH (H4.push (.cells #[iV 0,iV 0,iV 0,lV none 0 0] 243)) fun C4=>∃ n14:Int,∃ n15:Int,shH (au (au C4 (A0 H4.size) (iV n14)) ((A0 H4.size).add 1) (iV n15)) fun C1=>∃ n16:Int,∃ a17:Option Addr,∃ l17:Nat,∃ c17:Nat,shH (au (au C1 ((A0 H4.size).add 2) (iV n16)) ((A0 H4.size).add 3) (lV a17 l17 c17)) fun C3=>v13=.agg #[iV n14,iV n15,iV n16,lV a17 l17 c17]∧Wr C4 (A0 H4.size)∧Wr (au C4 (A0 H4.size) (iV n14)) ((A0 H4.size).add 1)∧Wr C1 ((A0 H4.size).add 2)∧Wr (au C1 ((A0 H4.size).add 2) (iV n16)) ((A0 H4.size).add 3)∧∃ n18,ac C3 (A0 H4.size)=some (iV n18)∧∃ a19 l19 c19,ac C3 ((A0 H4.size).add 3)=some (lV a19 l19 c19)∧∃(I20:IT) (μ20:MT),I20 [iV n18,iV 0] C3∧∀ w21 H5,shH (H5.push (.cells #[iV 0,iV 0,iV 0,lV none 0 0] 246)) fun C5=>I20 w21 H5->∀ _g:Nat->Value,∃ n22 n23,w21=[iV n22,iV n23]∧cond (decide (n23<(l19:Int))) (((0:Int)<=n23∧n23<(l19:Int))∧∃ q24,a19=some q24∧∃ n25,ac H5 (q24.add (Int.toNat n23*4))=some (iV n25)∧∃ n26:Int,shH (au (au C5 (A0 H5.size) (iV n25)) ((A0 H5.size).add 1) (iV n26)) fun C2=>ac H5 ((q24.add (Int.toNat n23*4)).add 1)=some (iV n26)∧∃ n27,ac H5 ((q24.add (Int.toNat n23*4)).add 2)=some (iV n27)∧∃ a28:Option Addr,∃ l28:Nat,∃ c28:Nat,shH (au (au C2 ((A0 H5.size).add 2) (iV n27)) ((A0 H5.size).add 3) (lV a28 l28 c28)) fun C6=>ac H5 ((q24.add (Int.toNat n23*4)).add 3)=some (lV a28 l28 c28)∧Wr C5 (A0 H5.size)∧Wr (au C5 (A0 H5.size) (iV n25)) ((A0 H5.size).add 1)∧Wr C2 ((A0 H5.size).add 2)∧Wr (au C2 ((A0 H5.size).add 2) (iV n27)) ((A0 H5.size).add 3)∧∃ n29,ac C6 (A0 H5.size)=some (iV n29)∧cS 197 #[lV a9 l9 c9,iV n29] (fun v30 H6=>∃ n31 b32,v30=.tuple #[iV n31,.bool b32]∧cond b32 (∃ a33 l33 c33,ac H6 ((A0 H5.size).add 3)=some (lV a33 l33 c33)∧∃ n34,ac H6 ((A0 H5.size).add 2)=some (iV n34)∧cS 198 #[iV (l33:Int),iV n34] (fun v35 H7=>∃ n36,v35=iV n36∧I20 [iV (wW (n22-n36)),iV (wW (n23+1))] H7∧μ20 [iV (wW (n22-n36)),iV (wW (n23+1))] H7<μ20 w21 H5) H6) (I20 [iV n22,iV (wW (n23+1))] H6∧μ20 [iV n22,iV (wW (n23+1))] H6<μ20 w21 H5)) C6) (∃ n37,ac H5 ((A0 H4.size).add 1)=some (iV n37)∧Q (.tuple #[iV n22,iV (wW (n37-(l9:Int)))]) H5)) H3)) H2) H1)) H
theorem FY {p1:Option Addr} (h:QL p1 Q H):ah PP 85 #[.pointer p1] Q H :=
 aN good Tryz.func85 rfl (Ls:=fun | 9=>some [(7,3),(36,3)] | _=>none) (by kernel_rfl) h
abbrev L8:Nat:=96
def Q7 (p1:Option Addr) (n2:Int) (n3:Int) (Q:QT) (H:aj):Prop :=
 ah PP 97 #[pV p1] (fun v4 H1=>∃ b5,v4=.bool b5∧cond b5 (Q (iV 2) H1) (∃ q6,p1=some q6∧∃ p7,ac H1 q6=some (pV p7)∧∃ q8,p1=some q8∧∃ n9,ac H1 (q8.add 1)=some (iV n9)∧cS 140 #[pV p7,iV n9,iV n2,iV n3] (fun v10 H2=>∃ n11,v10=iV n11∧True∧Q (iV n11) H2) H1)) H
theorem Gk {p1:Option Addr}{n2:Int}{n3:Int} (h:Q7 p1 n2 n3 Q H):ah PP 96 #[.pointer p1,.int .i64 n2,.int .i64 n3] Q H :=
 okF Tryz.func96 rfl h
abbrev Nt:Nat:=97
def RE (p1:Option Addr) (Q:QT) (H:aj):Prop :=
 cond (Option.isNone p1) (Q (.bool true) H) (∃ q2,p1=some q2∧∃ p3,ac H q2=some (pV p3)∧Q (.bool (Option.isNone p3)) H)
theorem Im {p1:Option Addr} (h:RE p1 Q H):ah PP 97 #[.pointer p1] Q H :=
 okF Tryz.func97 rfl h
abbrev KF:Nat:=108
def Pz (p1:Option Addr) (Q:QT) (H:aj):Prop :=
 ah PP 97 #[pV p1] (fun v2 H1=>∃ b3,v2=.bool b3∧cond b3 (Q (.tuple #[iV 0,iV 0,iV 2]) H1) (∃ q4,p1=some q4∧∃ b5,ac H1 (q4.add 3)=some (.bool b5)∧cond b5 (Q (.tuple #[iV 0,iV 0,iV 25]) H1) (∃ q6,p1=some q6∧∃ p7,ac H1 q6=some (pV p7)∧cS 195 #[pV p1] (fun v8 H2=>∃ a9 l9 c9,v8=lV a9 l9 c9∧((ac H2 q6=some (pV p7)∧True)∧True)∧cS 211 #[pV p7,lV a9 l9 c9] (fun v10 H3=>∃ n11 n12 n13,v10=.tuple #[iV n11,iV n12,iV n13]∧True∧Q (.tuple #[iV n11,iV n12,iV n13]) H3) H2) H1))) H
theorem zU {p1:Option Addr} (h:Pz p1 Q H):ah PP 108 #[.pointer p1] Q H :=
 okF Tryz.func108 rfl h
abbrev uI:Nat:=164
def L0 (n1:Int) (Q:QT) (H:aj):Prop :=
 ah PP 165 #[iV n1] (fun v2 H1=>∃ n3,v2=iV n3∧Q (.bool (n3 == 0)) H1) H
theorem Br {n1:Int} (h:L0 n1 Q H):ah PP 164 #[.int .i64 n1] Q H :=
 okF Tryz.func164 rfl h
abbrev Ge:Nat:=194
def Nn (p1:Option Addr) (a2:Option Addr) (l2:Nat) (c2:Nat) (Q:QT) (H:aj):Prop :=
 shH (au ((H.push (.map #[] 0)).push (.cells #[.map none] 285)) (⟨(H.push (.map #[] 0)).size,0,none⟩:Addr) (.map (some H.size))) fun C1=>shH ((C1.push (.cells #[lV none 0 0] 66)).push (.cells #[.nilFunc] 286)) fun C2=>cond (Option.isNone p1) (∀ H1:aj,jc H.size H H1->Q (.tuple #[lV none 0 0,iV 2]) H1) (Wr ((H.push (.map #[] 0)).push (.cells #[.map none] 285)) (⟨(H.push (.map #[] 0)).size,0,none⟩:Addr)∧Wr C2 (⟨(C1.push (.cells #[lV none 0 0] 66)).size,0,none⟩:Addr)∧∃(I3:IT) (μ3:MT),I3 [iV 0] (au C2 (⟨(C1.push (.cells #[lV none 0 0] 66)).size,0,none⟩:Addr) (.func (.func 248) #[] #[pV (some (⟨(H.push (.map #[] 0)).size,0,none⟩:Addr)),pV (some (A0 C1.size))]))∧∀ w4 H2,I3 w4 H2->∀ g_5:Nat->Value,∃ n6,w4=[iV n6]∧cond (decide (n6<(l2:Int))) (((0:Int)<=n6∧n6<(l2:Int))∧∃ q7,a2=some q7∧∃ n8,ac H2 (q7.add (Int.toNat n6*1))=some (iV n8)∧cS 249 #[pV p1,iV n8] (fun v9 H3=>∃ n10 b11,v9=.tuple #[iV n10,.bool b11]∧cond b11 (∃ f12,∃ g12:Array Value,∃ h12:Array Value,ac H3 (⟨(C1.push (.cells #[lV none 0 0] 66)).size,0,none⟩:Addr)=some (.func (.func f12) g12 h12)∧ah PP f12 ((g12++#[iV n10])++h12) (fun v13 H4=>v13=.tuple #[]∧I3 [iV (wW (n6+1))] H4∧μ3 [iV (wW (n6+1))] H4<μ3 w4 H2) H3) (I3 [iV (wW (n6+1))] H3∧μ3 [iV (wW (n6+1))] H3<μ3 w4 H2)) H2) (∃(I14:IT) (μ14:MT),I14 [] H2∧∀ w15 H5,I14 w15 H5->∀ g_16:Nat->Value,w15=[]∧∃ a17 l17 c17,ac H5 (A0 C1.size)=some (lV a17 l17 c17)∧cond (decide ((l17:Int) > 0)) (∃ a18 l18 c18,ac H5 (A0 C1.size)=some (lV a18 l18 c18)∧∃ a19 l19 c19,ac H5 (A0 C1.size)=some (lV a19 l19 c19)∧((0:Int)<=(wW ((l19:Int)-1))∧(wW ((l19:Int)-1))<(l18:Int))∧∃ q20,a18=some q20∧∃ n21,ac H5 (q20.add (Int.toNat (wW ((l19:Int)-1))*1))=some (iV n21)∧∃ a22 l22 c22,ac H5 (A0 C1.size)=some (lV a22 l22 c22)∧∃ a23 l23 c23,ac H5 (A0 C1.size)=some (lV a23 l23 c23)∧((0:Int)<=(wW ((l23:Int)-1))∧(wW ((l23:Int)-1))<=(c22:Int))∧Wr H5 (A0 C1.size)∧cS 250 #[pV p1,iV n21] (fun v24 H6=>∃ f25,∃ g25:Array Value,∃ h25:Array Value,v24=.func (.func f25) g25 h25∧∀ fn26:FuncId,ah PP f25 ((g25++#[.func (.yield (H6.size+1)) #[] #[]])++h25) (fun _ H7=>oo (H6.size+1) (fun H8=>I14 [] H8∧μ14 [] H8<μ14 w15 H5) (fun H9=>∀ H10:aj,jc H.size H9 H10->Q (.tuple #[lV none 0 0,iV 0]) H10) [] H7) ((H6.push (.deferred (some []))).push (.loop (jA fn26 #[pV p1,lV a2 l2 c2,.tuple #[],.tuple #[],lV none 0 0,iV 0,pV (some (⟨(H.push (.map #[] 0)).size,0,none⟩:Addr)),pV (some (A0 C1.size)),pV (some (⟨(C1.push (.cells #[lV none 0 0] 66)).size,0,none⟩:Addr)),.tuple #[],(g_5 10),(g_5 11),(g_5 12),iV n21,.tuple #[],.tuple #[],.tuple #[],pV p1,.bool false,.map (some H.size),.func (.func 248) #[] #[pV (some (⟨(H.push (.map #[] 0)).size,0,none⟩:Addr)),pV (some (A0 C1.size))],lV a2 l2 c2,iV (l2:Int),iV n6,.bool false,(g_5 25),(g_5 26),(g_5 27),(g_5 28),(g_5 29),(g_5 30),(g_5 31),(g_5 32),(g_5 33),(g_5 34),(g_5 35),(g_5 36),(g_5 37),lV a17 l17 c17,iV (l17:Int),.bool true,lV a18 l18 c18,lV a19 l19 c19,iV (l19:Int),iV (wW ((l19:Int)-1)),pV (some (q20.add (Int.toNat (wW ((l19:Int)-1))*1))),iV n21,lV a22 l22 c22,lV a23 l23 c23,iV (l23:Int),iV (wW ((l23:Int)-1)),lV a22 (Int.toNat (wW ((l23:Int)-1))) c22,pV p1,iV n21,.func (.func f25) g25 h25,.tuple #[],.tuple #[],.tuple #[],.tuple #[],.tuple #[],.tuple #[],.tuple #[],.tuple #[],.tuple #[],.tuple #[],.tuple #[],.tuple #[],.tuple #[],.tuple #[],.tuple #[],.tuple #[],.tuple #[],.tuple #[],.tuple #[],.tuple #[]] (jI PP 194 0).1 (jI PP 194 0).2.1 (jI PP 194 0).2.2 H6.size)))) (au H5 (A0 C1.size) (lV a22 (Int.toNat (wW ((l23:Int)-1))) c22))) (∃ r27:Option Nat,ac H5 (⟨(H.push (.map #[] 0)).size,0,none⟩:Addr)=some (.map r27)∧bk PP (Builtin.len_ #[285] 3 #[.map r27]) (fun v28 H11=>∃ n29,v28=iV n29∧bk PP (Instr.makeSlice 66 (iV 0) (iV n29)) (fun v30 H12=>∃ a31 l31 c31,v30=lV a31 l31 c31∧∃ r32:Option Nat,ac H12 (⟨(H.push (.map #[] 0)).size,0,none⟩:Addr)=some (.map r32)∧bk PP (Instr.range 285 (.map r32)) (fun v33 H13=>∃(I34:IT) (μ34:MT),I34 [lV a31 l31 c31] H13∧∀ w35 H14,I34 w35 H14->∀ g_36:Nat->Value,∃ a37 l37 c37,w35=[lV a37 l37 c37]∧bk PP (Instr.next (v33) false 0) (fun v38 H15=>(v38=.tuple #[.bool false]∧cS 251 #[lV a37 l37 c37] (fun v41 H16=>v41=.tuple #[]∧∀ H17:aj,jc H.size H16 H17->Q (.tuple #[lV a37 l37 c37,iV 0]) H17) H15)∨∃ x39 y40:Value,v38=.tuple #[.bool true,x39,y40]∧bk PP (Instr.entry (v33)) (fun v42 H18=>∃ n43,∃ x44:Value,v42=.tuple #[iV n43,x44]∧bk PP (Builtin.append_ #[66,66] 66 #[lV a37 l37 c37,lV (some (A0 H18.size)) 1 1]) (fun v45 H19=>∃ a46 l46 c46,v45=lV a46 l46 c46∧I34 [lV a46 l46 c46] H19∧μ34 [lV a46 l46 c46] H19<μ34 w35 H14) (H18.push (.cells #[iV n43] 3))) H15) H14) H12) H11) H5)))
theorem Bx {p1:Option Addr}{a2:Option Addr}{l2:Nat}{c2:Nat} (h:Nn p1 a2 l2 c2 Q H):ah PP 194 #[.pointer p1,.slice a2 l2 c2] Q H :=
 qi good Tryz.func194 rfl (Ls:=fun | 7=>some [(23,3)] | 13=>some [] | 21=>some [(15,66)] | _=>none) (mk:=true) (by kernel_rfl) h
def ey (l:Nat) (q_8:Addr) (n1:Int) (Q:QT) (H:aj):Prop :=
 ∃ r2:Loop,H[l]?=some (.loop r2)∧r2.state=.ready∧∃ f3,∃ g3:Array Value,∃ h3:Array Value,ac (H.setIfInBounds l (.loop { r2 with state:=.busy })) q_8=some (.func (.func f3) g3 h3)∧ah PP f3 ((g3++#[iV n1])++h3) (fun v4 H1=>v4=.tuple #[]∧∃ r5:Loop,H1[l]?=some (.loop r5)∧Q (.bool true) (H1.setIfInBounds l (.loop { r5 with state:=.ready,pending:=none }))) (H.setIfInBounds l (.loop { r2 with state:=.busy }))
theorem iB {l:Nat}{fn:FuncId}{D:Nat}{Ya:Value}{Yb:Value}{Yc:Value}{Yd:Value}{Ye:Value}{Yf:Value}{Yg:Value}{Yh:Value}{q_8:Addr}{Yj:Value}{Yk:Value}{Yl:Value}{Ym:Value}{Yn:Value}{Yo:Value}{Yp:Value}{Yq:Value}{Yr:Value}{Ys:Value}{Yt:Value}{Yu:Value}{Yv:Value}{Yw:Value}{Yx:Value}{Yy:Value}{Yz:Value}{YA:Value}{YB:Value}{YC:Value}{YD:Value}{YE:Value}{YF:Value}{YG:Value}{YH:Value}{YI:Value}{YJ:Value}{YK:Value}{YL:Value}{YM:Value}{YN:Value}{YO:Value}{YP:Value}{YQ:Value}{YR:Value}{YS:Value}{YT:Value}{YU:Value}{YV:Value}{YW:Value}{YX:Value}{YY:Value}{YZ:Value}{Y0:Value}{Y1:Value}{Y2:Value}{Y3:Value}{Y4:Value}{Y5:Value}{Y6:Value}{Y7:Value}{Y8:Value}{Y9:Value}{Za:Value}{Zb:Value}{Zc:Value}{Zd:Value}{Ze:Value}{Zf:Value}{Zg:Value}{Zh:Value}{Zi:Value}{Zj:Value}{Zk:Value}{Zl:Value}{Zm:Value}{n1:Int} (hl:H[l]?=some (.loop (jA fn #[Ya,Yb,Yc,Yd,Ye,Yf,Yg,Yh,.pointer (some q_8),Yj,Yk,Yl,Ym,Yn,Yo,Yp,Yq,Yr,Ys,Yt,Yu,Yv,Yw,Yx,Yy,Yz,YA,YB,YC,YD,YE,YF,YG,YH,YI,YJ,YK,YL,YM,YN,YO,YP,YQ,YR,YS,YT,YU,YV,YW,YX,YY,YZ,Y0,Y1,Y2,Y3,Y4,Y5,Y6,Y7,Y8,Y9,Za,Zb,Zc,Zd,Ze,Zf,Zg,Zh,Zi,Zj,Zk,Zl,Zm] (jI PP 194 0).1 (jI PP 194 0).2.1 (jI PP 194 0).2.2 D))) (h:ey l q_8 n1 Q H):ij PP l #[.int .i64 n1] Q H :=
 uF good hl (by kernel_rfl) (by kernel_rfl) (Ls:=fun _=>none) (Ls':=fun _=>none) (by kernel_rfl) h
abbrev IZ:Nat:=195
def Lk (p1:Option Addr) (Q:QT) (H:aj):Prop :=
 ∃ q2,p1=some q2∧∃ n3,ac H (q2.add 1)=some (iV n3)∧cS 138 #[iV n3] (fun v4 H1=>∃ n5 n6,v4=.tuple #[iV n5,iV n6]∧cond (n6 != 0) (∃ q7,p1=some q7∧∃ a8 l8 c8,ac H1 (q7.add 2)=some (lV a8 l8 c8)∧Q (lV a8 l8 c8) H1) (∃ q9,p1=some q9∧∃ a10 l10 c10,ac (H1.push (.cells #[iV n5] 36)) (q9.add 2)=some (lV a10 l10 c10)∧bk PP (Builtin.append_ #[108,108] 108 #[lV (some (A0 H1.size)) 1 1,lV a10 l10 c10]) (fun v11 H2=>∃ a12 l12 c12,v11=lV a12 l12 c12∧Q (lV a12 l12 c12) H2) (H1.push (.cells #[iV n5] 36)))) H
theorem DH {p1:Option Addr} (h:Lk p1 Q H):ah PP 195 #[.pointer p1] Q H :=
 okF Tryz.func195 rfl h
abbrev EZ:Nat:=198
def Lt (n1:Int) (n2:Int) (Q:QT) (H:aj):Prop :=
 cond (n2 == 1) (Q (iV (wW (2+(wW (Int.tdiv (wW (n1+3)) 4))))) H) (Q (iV (wW (2+n1))) H)
theorem AZ {n1:Int}{n2:Int} (h:Lt n1 n2 Q H):ah PP 198 #[.int .i64 n1,.int .i64 n2] Q H :=
 okF Tryz.func198 rfl h
abbrev Hm:Nat:=211
def MW (p1:Option Addr) (a2:Option Addr) (l2:Nat) (c2:Nat) (Q:QT) (H:aj):Prop :=
 ah PP 194 #[pV p1,lV a2 l2 c2] (fun v3 H1=>∃ a4 l4 c4 n5,v3=.tuple #[lV a4 l4 c4,iV n5]∧cond (n5 != 0) (Q (.tuple #[iV 0,iV 0,iV n5]) H1) (cS 261 #[pV p1,lV a4 l4 c4] (fun v6 H2=>∃ n7 n8 n9,v6=.tuple #[iV n7,iV n8,iV n9]∧Q (.tuple #[iV n7,iV n8,iV n9]) H2) H1)) H
theorem Co {p1:Option Addr}{a2:Option Addr}{l2:Nat}{c2:Nat} (h:MW p1 a2 l2 c2 Q H):ah PP 211 #[.pointer p1,.slice a2 l2 c2] Q H :=
 okF Tryz.func211 rfl h
abbrev Hz:Nat:=238
def Pn (p1:Option Addr) (n2:Int) (n3:Int) (n4:Int) (Q:QT) (H:aj):Prop :=
 ∃ p5,ac (H.push (.cells #[pV p1] 47)) (A0 H.size)=some (pV p5)∧cS 97 #[pV p5] (fun v6 H1=>∃ b7,v6=.bool b7∧cond b7 (Q (.tuple #[iV 0,iV 2]) H1) (∃ p8,ac H1 (A0 H.size)=some (pV p8)∧∃ q9,p8=some q9∧∃ p10,ac H1 q9=some (pV p10)∧cS 267 #[.func (.func 49) #[pV p10] #[],iV n2,iV n3,iV n4,.func (.func 268) #[] #[pV (some (A0 H.size))]] (fun v11 H2=>∃ n12 n13,v11=.tuple #[iV n12,iV n13]∧cond (n13 != 0) (Q (.tuple #[iV 0,iV n13]) H2) (cS 138 #[iV n12] (fun v14 H3=>∃ n15 n16,v14=.tuple #[iV n15,iV n16]∧Q (.tuple #[iV n15,iV n16]) H3) H2)) H1)) (H.push (.cells #[pV p1] 47))
theorem Cw {p1:Option Addr}{n2:Int}{n3:Int}{n4:Int} (h:Pn p1 n2 n3 n4 Q H):ah PP 238 #[.pointer p1,.int .i64 n2,.int .i64 n3,.int .i64 n4] Q H :=
 okF Tryz.func238 rfl h
abbrev oU:Nat:=248
def LP (n1:Int) (q_0:Addr) (q_1:Addr) (Q:QT) (H:aj):Prop :=
 ∃ r2:Option Nat,ac H q_0=some (.map r2)∧bk PP (Instr.lookup 285 (.map r2) (iV n1) false) (fun v3 H1=>∃ n4,v3=iV n4∧cond (n4 == 0) (∃ r5:Option Nat,ac H1 q_0=some (.map r5)∧bk PP (Instr.mapUpdate 285 (.map r5) (iV n1) (iV 1)) (fun _ H2=>∃ a6 l6 c6,ac H2 q_1=some (lV a6 l6 c6)∧bk PP (Builtin.append_ #[66,66] 66 #[lV a6 l6 c6,lV (some (A0 H2.size)) 1 1]) (fun v7 H3=>∃ a8 l8 c8,v7=lV a8 l8 c8∧Wr H3 q_1∧Q (.tuple #[]) (au H3 q_1 (lV a8 l8 c8))) (H2.push (.cells #[iV n1] 3))) H1) (Q (.tuple #[]) H1)) H
theorem zS {n1:Int}{q_0:Addr}{q_1:Addr} (h:LP n1 q_0 q_1 Q H):ah PP 248 #[.int .i64 n1,.pointer (some q_0),.pointer (some q_1)] Q H :=
 okF Tryz.func248 rfl h
abbrev FM:Nat:=249
def LX (p1:Option Addr) (n2:Int) (Q:QT) (H:aj):Prop :=
 ah PP 183 #[iV n2] (fun v3 H1=>∃ n4 n5,v3=.tuple #[iV n4,iV n5]∧cond (n5 != 0) (Q (.tuple #[iV 0,.bool false]) H1) (cS 137 #[pV p1,iV n4] (fun v6 H2=>∃ n7 n8,v6=.tuple #[iV n7,iV n8]∧Q (.tuple #[iV n4,.bool (n8 == 0)]) H2) H1)) H
theorem Bp {p1:Option Addr}{n2:Int} (h:LX p1 n2 Q H):ah PP 249 #[.pointer p1,.int .i64 n2] Q H :=
 okF Tryz.func249 rfl h
abbrev FZ:Nat:=250
def Nl (p1:Option Addr) (n2:Int) (Q:QT) (H:aj):Prop :=
 Q (.func (.func 269) #[] #[pV (some (A0 H.size)),pV (some (⟨(H.push (.cells #[pV p1] 46)).size,0,none⟩:Addr))]) ((H.push (.cells #[pV p1] 46)).push (.cells #[iV n2] 3))
theorem CN {p1:Option Addr}{n2:Int} (h:Nl p1 n2 Q H):ah PP 250 #[.pointer p1,.int .i64 n2] Q H :=
 okF Tryz.func250 rfl h
def PS (f0:Nat) (g0:Array Value) (h0:Array Value) (n1:Int) (n2:Int) (n3:Int) (f4:Nat) (g4:Array Value) (h4:Array Value) (Q:QT) (H:aj):Prop :=
 ah PP f0 ((g0++#[iV n1,iV n2,iV n3])++h0) (fun v4 H1=>∃ n5 n6,v4=.tuple #[iV n5,iV n6]∧cond (n6 == 23) (ah PP f4 ((g4++#[])++h4) (fun v7 H2=>∃ b8,v7=.bool b8∧cond b8 (ah PP f0 ((g0++#[iV n1,iV n2,iV n3])++h0) (fun v9 H3=>∃ n10 n11,v9=.tuple #[iV n10,iV n11]∧Q (.tuple #[iV n10,iV n11]) H3) H2) (Q (.tuple #[iV n5,iV n6]) H2)) H1) (Q (.tuple #[iV n5,iV n6]) H1)) H
theorem CW {f0:Nat}{g0:Array Value}{h0:Array Value}{n1:Int}{n2:Int}{n3:Int}{f4:Nat}{g4:Array Value}{h4:Array Value} (h:PS f0 g0 h0 n1 n2 n3 f4 g4 h4 Q H):ah PP 267 #[.func (.func f0) g0 h0,.int .i64 n1,.int .i64 n2,.int .i64 n3,.func (.func f4) g4 h4] Q H :=
 okF Tryz.func267 rfl h
abbrev Et:Nat:=268
def Mi (q_0:Addr) (Q:QT) (H:aj):Prop :=
 ∃ p1,ac H q_0=some (pV p1)∧cS 108 #[pV p1] (fun v2 H1=>∃ n3 n4 n5,v2=.tuple #[iV n3,iV n4,iV n5]∧Q (.bool (n5 == 0)) H1) H
theorem Aq {q_0:Addr} (h:Mi q_0 Q H):ah PP 268 #[.pointer (some q_0)] Q H :=
 okF Tryz.func268 rfl h
abbrev qZ:Nat:=269
def Mr (l0:Nat) (q_0:Addr) (q_1:Addr) (Q:QT) (H:aj):Prop :=
 ∃ p1,ac H q_0=some (pV p1)∧∃ n2,ac H q_1=some (iV n2)∧cS 137 #[pV p1,iV n2] (fun v3 H1=>∃ n4 n5,v3=.tuple #[iV n4,iV n5]∧cond (n5 != 0) (Q (.tuple #[]) H1) (∃ J6:IT,(∃ p7,ac H1 q_0=some (pV p7)∧cS 249 #[pV p7,iV n4] (fun v8 H2=>∃ n9 b10,v8=.tuple #[iV n9,.bool b10]∧cond b10 (ij PP l0 #[iV n9] (fun v11 H3=>∃ b12,v11=.bool b12∧cond (!b12) (Q (.tuple #[]) H3) (J6 [] H3)) H2) (J6 [] H2)) H1)∧∀ w13 H4,J6 w13 H4->∀ _g:Nat->Value,w13=[]∧∃ p14,ac H4 q_0=some (pV p14)∧∃ n15,ac H4 q_1=some (iV n15)∧cS 182 #[pV p14,iV n15] (fun v16 H5=>∃ n17 n18 n19,v16=.tuple #[iV n17,iV n18,iV n19]∧cond (n19 != 0) (Q (.tuple #[]) H5) (cond (n18 != 0) (Q (.tuple #[]) H5) (∃(I20:IT) (μ20:MT),I20 [iV 0] H5∧∀ w21 H6,I20 w21 H6->∀ _g:Nat->Value,∃ n22,w21=[iV n22]∧cond (decide (n22<n17)) (∃ p23,ac H6 q_0=some (pV p23)∧∃ n24,ac H6 q_1=some (iV n24)∧cS 233 #[pV p23,iV n24,iV n22] (fun v25 H7=>∃ n26 n27,v25=.tuple #[iV n26,iV n27]∧cond (n27 != 0) (Q (.tuple #[]) H7) (∃ p28,ac H7 q_0=some (pV p28)∧cS 249 #[pV p28,iV n26] (fun v29 H8=>∃ n30 b31,v29=.tuple #[iV n30,.bool b31]∧cond b31 (ij PP l0 #[iV n30] (fun v32 H9=>∃ b33,v32=.bool b33∧cond (!b33) (Q (.tuple #[]) H9) (I20 [iV (wW (n22+1))] H9∧μ20 [iV (wW (n22+1))] H9<μ20 w21 H6)) H8) (I20 [iV (wW (n22+1))] H8∧μ20 [iV (wW (n22+1))] H8<μ20 w21 H6)) H7)) H6) (Q (.tuple #[]) H6)))) H4)) H
theorem BM {l0:Nat}{q_0:Addr}{q_1:Addr} (h:Mr l0 q_0 q_1 Q H):ah PP 269 #[.func (.yield l0) #[] #[],.pointer (some q_0),.pointer (some q_1)] Q H :=
 aN good Tryz.func269 rfl (Ls:=fun | 1004=>some [] | 7=>some [(50,3)] | _=>none) (by kernel_rfl) h
end Go.Proofs.YtmkdkplipbocjaaGreatDoor
namespace Kw
open Go Go.Proofs Go.Shelf Go.Sort Go.RowKit
variable {P:Program}
theorem oO {ρ:Ren} (L:Lays.n189 P ρ) (hfn:∃ fn,P.funcs[ρ.f 189]?=some fn∧fn.body.isSome=true){b l c:Nat}{H:aj}{zs:List Int}{Q:Value->aj->Prop} (ho:bv 1 H (some ⟨b,0,none⟩) l c (aq zs) [b]) (hsz:l<4611686018427387904)
  (h:∀ H',bv 1 H' (some ⟨b,0,none⟩) l c (aq (zs.mergeSort fun x y=>decide (x<=y))) [b]->Fr [b] H H'->Q (.tuple #[]) H'):ah P (ρ.f 189) #[.slice (some ⟨b,0,none⟩) l c] Q H:=by
 refine ⟨hfn,?_⟩
 intro w hw
 subst hw
 rcases ho.2.2 with ⟨h0,_,_⟩ | ⟨b',cs,hb1,_,⟨t,hbk⟩,hcs,htk⟩
 ·cases h0
 cases hb1
 have hl:l=zs.length:=by have:=ho.1;simpa [aq] using this.symm
 subst hl
 have hle:zs.length<=c:=ho.2.1
 have hlt:b<w.heap.size:=(Array.getElem?_eq_some_iff.1 hbk).1
 have hH:Go.Sort.Holds (Value.int .i64) w b 0 zs.toArray:=by
  intro j hj
  have hj:j<zs.length:=by simpa using hj
  refine ⟨?_,?_⟩
  ·rw [Nat.zero_add]
   have h1:(cs.toList.take (zs.length*1))[j]?=(aq zs)[j]?:=by rw [htk]
   rw [List.getElem?_take_of_lt (by omega)] at h1
   unfold World.cell?
   simp only [hbk]
   show cs[j]?=_
   rw [←Array.getElem?_toList,h1]
   simp [aq,hj]
  ·unfold World.frozen?
   simp only [hbk]
   simp
 refine (Any.slices_Sort_int L b 0 c zs w hH hlt hsz).mono ?_
 rintro e w' ⟨rfl,n,os,rfl⟩
 have hp:(putRow (Value.int .i64) (Sort.ahead w n) b 0 (zs.mergeSort fun x y=>decide (x<=y)).toArray).heap[b]?=some (.cells (putCells (Value.int .i64) 0 (zs.mergeSort fun x y=>decide (x<=y)).toArray cs) t (0,0)):=by
  simp only [putRow,mapBlock,Array.getElem?_modify,if_true]
  show Option.map _ w.heap[b]?=_
  rw [hbk]
  rfl
 have hsz':(putRow (Value.int .i64) (Sort.ahead w n) b 0 (zs.mergeSort fun x y=>decide (x<=y)).toArray).heap.size=w.heap.size:=by simp [putRow,mapBlock,Sort.ahead]
 have hother:∀ b',b'≠b->(putRow (Value.int .i64) (Sort.ahead w n) b 0 (zs.mergeSort fun x y=>decide (x<=y)).toArray).heap[b']?=w.heap[b']?:=fun b' hn=>by
  simp only [putRow,mapBlock,Array.getElem?_modify]
  rw [if_neg (Ne.symm hn)]
  rfl
 have hfr:Fr [b] w.heap (grow (putRow (Value.int .i64) (Sort.ahead w n) b 0 (zs.mergeSort fun x y=>decide (x<=y)).toArray) os).heap:=by
  refine ⟨?_,fun b' hb' hn=>?_⟩
  ·simp only [Sort.grow,Array.size_append];rw [hsz'];exact Nat.le_add_right _ _
  ·simp only [Sort.grow]
   rw [Array.getElem?_append_left (by rw [hsz'];exact hb')]
   exact hother b' (by simpa using hn)
 have hblk:(grow (putRow (Value.int .i64) (Sort.ahead w n) b 0 (zs.mergeSort fun x y=>decide (x<=y)).toArray) os).heap[b]?=some (.cells (putCells (Value.int .i64) 0 (zs.mergeSort fun x y=>decide (x<=y)).toArray cs) t (0,0)):=by
  simp only [Sort.grow]
  rw [Array.getElem?_append_left (by rw [hsz'];exact hlt)]
  exact hp
 refine ⟨_,rfl,h _ ⟨by simp [aq,List.length_mergeSort],hle,.inr ⟨b,_,rfl,rfl,⟨t,hblk⟩,by simp [putCells,hcs],?_⟩⟩ hfr,rfl,rfl,rfl,?_,hfr.1,fun b' ds hb'=>?_⟩
 ·apply List.ext_getElem
  ·simp [aq,putCells,List.length_mergeSort];omega
  ·intro j h1 h2
   have hj:j<zs.length:=by simpa [aq,List.length_mergeSort] using h2
   have hj2:j<(zs.mergeSort fun x y=>decide (x<=y)).length:=by rw [List.length_mergeSort];exact hj
   simp only [List.getElem_take,aq,List.getElem_map,Array.getElem_toList,putCells,Array.getElem_mapIdx,Nat.zero_le,true_and,Nat.zero_add,List.size_toArray,List.length_mergeSort,hj,if_true,Nat.sub_zero]
   congr 1
   rw [List.getElem!_toArray,List.getElem!_eq_getElem?_getD,List.getElem?_eq_getElem hj2]
   rfl
 ·show w.drawn<=w.drawn+n
  omega
 ·have hlt':b'<w.heap.size:=(Array.getElem?_eq_some_iff.1 hb').1
  have hne:b'≠b:=fun e=>by subst e;rw [hbk] at hb';cases hb'
  exact (hfr.2 b' hlt' (by simpa using hne)).trans hb'
end Kw
