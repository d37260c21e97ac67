/- Lemmas for RPT: functions of the program as predicate transformers, and their contracts. -/
import Derived.Test.YtgcoppcogllpbaaGreatDoorZT3
import Derived.Shelf.Strings.Builder1
import Derived.ProofKit
import Derived.Test.YtgcoppcogllpbaaGreatDoorCards
import Derived.Test.YtgcoppcogllpbaaGreatDoorTie
import Derived.LaidLaws
import Derived.Handed
import Derived.Lib.LaidU8
import Derived.Lib.LaidTab
set_option linter.all false
set_option maxRecDepth 100000
set_option maxHeartbeats 4000000
namespace Kw
open Go Go.Proofs Go.Shelf Go.RowKit
variable {P:Program}
theorem fz (w:World) (a:Addr) (v:Value):(w.setCell a v).heap=aB w.heap a v:=rfl
def ja (T:TypeId) (H:ae) (b:Nat) (s:Value):Prop:=∃ p,H[b]?=some (.cells #[p,s] T (0,0))∧(p=.pointer none∨p=.pointer (some ⟨b,0,none⟩))
theorem ja.lt {T:TypeId}{H:ae}{b:Nat}{s:Value} (h:ja T H b s):b<H.size:=by
 obtain ⟨p,h,_⟩:=h
 exact (Array.getElem?_eq_some_iff.1 h).1
theorem ja.keep {T:TypeId}{H H':ae}{b:Nat}{s:Value} (h:ja T H b s) (e:H'[b]?=H[b]?):ja T H' b s:=by
 obtain ⟨p,h,h2⟩:=h
 exact ⟨p,e.trans h,h2⟩
theorem jF {ρ:Ren} (L:Lays.n240 P ρ) (X:Builder.X72 P ρ) (hfn:∃ fn,P.funcs[ρ.f 240]?=some fn∧fn.body.isSome=true){H:ae}{b:Nat}{s:Value}{Q:Value->ae->Prop} (hb:ja (ρ.t 72) H b s)
  (h:∀ H',ja (ρ.t 72) H' b s->Fr [b] H H'->H'.size=H.size->Q (.tuple #[]) H'):ac P (ρ.f 240) #[.pointer (some ⟨b,0,none⟩)] Q H:=by
 obtain ⟨p,hb,hp⟩:=hb
 refine ⟨hfn,fun w hw=>?_⟩
 subst hw
 have hsh:w.shape? b=some ((ρ.t 72),2):=by simp [World.shape?,hb]
 have hfz:w.frozen? ⟨b,0,none⟩=false:=by simp [World.frozen?,hb]
 have hc:w.cell? ⟨b,0,none⟩=some p:=by simp [World.cell?,hb]
 rcases hp with rfl | rfl
 ·refine (Any.Builder_copyCheck_fresh L X b w hc hsh hfz).mono ?_
  rintro e w' ⟨rfl,rfl⟩
  have hl:=(Array.getElem?_eq_some_iff.1 hb).1
  have hz:(w.setCell ⟨b,0,none⟩ (.pointer (some ⟨b,0,none⟩))).heap.size=w.heap.size:=by rw [fz,bz]
  have hne:∀ y,y≠b->(w.setCell ⟨b,0,none⟩ (.pointer (some ⟨b,0,none⟩))).heap[y]?=w.heap[y]?:=fun y hy=>by rw [fz,cy hy]
  refine ⟨_,rfl,h _ ⟨_,?_,.inr rfl⟩ ⟨Nat.le_of_eq hz.symm,fun y _ hy=>hne y (by simpa using hy)⟩ hz,rfl,rfl,rfl,Nat.le_refl _,Nat.le_of_eq hz.symm,fun y ds hy=>?_⟩
  ·rw [fz]
   simp [aB,Array.getElem?_modify,hb]
  ·rw [hne y (fun e=>by subst e;rw [hb] at hy;cases hy)];exact hy
 ·refine (Any.Builder_copyCheck_used L X b w hc).mono ?_
  rintro e w' ⟨rfl,rfl⟩
  exact ⟨_,rfl,h _ ⟨_,hb,.inr rfl⟩ (Fr.refl _ _) rfl,rfl,rfl,rfl,Nat.le_refl _,Nat.le_refl _,fun y ds hy=>hy⟩
def sf (e:TypeId) (H:ae) (a:Option Addr) (l c:Nat) (xs:List Value) (G:az):Prop:=bN 1 H a l c xs G∧(∀ b∈G,∃ cs,H[b]?=some (.cells cs e (0,0)))∧c<=maxLen
theorem sf.keep {e:TypeId}{H H':ae}{a:Option Addr}{l c:Nat}{xs:List Value}{G:az} (h:sf e H a l c xs G) (he:∀ b∈G,H'[b]?=H[b]?):sf e H' a l c xs G:=⟨h.1.keep he,fun b hb=>by
 obtain ⟨cs,h2⟩:=h.2.1 b hb
 exact ⟨cs,(he b hb).trans h2⟩,h.2.2⟩
theorem oI {T T' T0:Nat}{H:ae}{a:Option Addr}{l c:Nat}{xs:List Value}{y:Value}{e d:TypeId}{i:TypeInfo}{z:Value}{F:az}{Q:Value->ae->Prop} (hu:P.underlying T=some (.slice e)) (hi:P.info? e=some i) (hk:i.size=1) (hb:i.bytes=1) (hz0:i.zero=some z) (hz:z.cells.size=1) (hT:P.underlying T'=some (.slice d))
  (ho:sf e H a l c xs F) (hone:dB y=true) (hl:l<4611686018427){e2:TypeId}
  (h:∀ a' c' F' H',sf e H' a' (l+1) c' (xs++[y]) F'->Up F H F' H'->Q (.slice a' (l+1) c') H') :
  aI P (Builtin.append_ #[T,T'] T0 #[.slice a l c,.slice (some ⟨H.size,0,none⟩) 1 1]) Q (H.push (.cells #[y] e2)):=by
 have fp:=Fr.push [] H (.cells #[y] e2)
 have hr:Rd 1 (H.push (.cells #[y] e2)) (some ⟨H.size,0,none⟩) 1 [y]:=(show bN 1 _ (some ⟨H.size,0,none⟩) 1 1 [y] [H.size] from ⟨rfl,Nat.le_refl _,.inr ⟨_,_,rfl,rfl,aV.new _ _ _,rfl,rfl⟩⟩).rd
 have ho1:sf e (H.push (.cells #[y] e2)) a l c xs F:=ho.keep fun b hb=>fp.2 b (ho.1.lt b hb) (by simp)
 have sz:(H.push (.cells #[y] e2)).size=H.size+1:=by simp
 have hup:∀ {F' H'},Up F (H.push (.cells #[y] e2)) F' H'->Up F H F' H':=fun {F' H'} u=>⟨⟨Nat.le_trans fp.1 u.1.1,fun b hb hn=>by rw [u.1.2 b (Nat.lt_of_lt_of_le hb fp.1) hn,fp.2 b hb (by simp)]⟩,fun b hb=>(u.2 b hb).imp id fun hg=>Nat.le_trans fp.1 hg⟩
 generalize (H.push (.cells #[y] e2))=H1 at hr ho1 hup ⊢
 obtain ⟨hO,hty,hcm⟩:=ho1
 show aI P (do
  let .slice elem ← underlying T | stuck "append: slice type expected"
  _) Q H1
 refine ag (aG hu ?_)
 refine ag (fL hi ?_)
 rw [hk]
 refine ag (ag (aG hT ?_))
 simp only [pure,List.getElem_toArray,List.getElem_cons_succ,List.getElem_cons_zero]
 refine ag (cg ?_)
 simp only [Bool.false_eq_true,if_false,Bool.not_false,if_true]
 refine ag (show aI P (Builtin.lenOf (.slice (some ⟨H.size,0,none⟩) 1 1)) _ H1 from ?_)
 refine cg ?_
 have hx1:xs.length=l:=by have:=hO.1;omega
 by_cases hfit:l+1<=c
 ·simp only [hfit,if_true]
  refine ag (bJ hr (Nat.le_refl _) ?_)
  rw [show ([y].take (1*1):List Value)=[y] from rfl]
  rcases hO.2.2 with ⟨rfl,hc0,rfl⟩ | ⟨b,cs,rfl,rfl,hB0,hsz,htk⟩
  ·omega
  ·obtain ⟨cs2,hB⟩:=hty b (by simp)
   have hcs:cs2=cs:=by
    obtain ⟨t,hB1⟩:=hB0
    rw [hB] at hB1
    simp only [Option.some.injEq,Obj.cells.injEq] at hB1
    exact hB1.1
   subst hcs
   dsimp only
   rw [ak,Nat.zero_add]
   refine ag ?_
   have hroom:l*1+0+[y].length<=cs2.size:=by simp;omega
   refine cD [y] (l*1) 0 cs2 (by simpa using hone) hB hroom fun H' g1 g2 g3=>?_
   refine h _ _ [b] H' ⟨⟨by simp;omega,hfit,.inr ⟨b,_,rfl,rfl,⟨e,g1⟩,?_,?_⟩⟩,fun b' hb'=>?_,hcm⟩ (hup ⟨⟨by omega,fun b' _ hn=>g3 b' (by simpa using hn)⟩,fun b' hb'=>.inl hb'⟩)
   ·simp only [di,List.size_toArray,List.length_append,List.length_take,List.length_drop,Array.length_toList,List.length_cons,List.length_nil]
    omega
   ·simp only [di,Nat.add_zero]
    rw [htk,List.take_append_of_le_length (by simp;omega)]
    exact List.take_of_length_le (by simp;omega)
   ·simp at hb';subst hb';exact ⟨_,g1⟩
 ·simp only [hfit,if_false]
  have hneed:¬ (((l+1:Nat):Int) > IntKind.i64.max∧(False∨i.bytes=0)):=by
   rintro ⟨_,h | h⟩
   ·exact h
   ·rw [hb] at h;cases h
  refine ag (bH hi ?_)
  simp only [hneed,if_false]
  refine ag (bH hi ?_)
  have hcap:¬ Builtin.nextslicecap (l+1) c*i.bytes > 2 ^ 48:=by
   rw [hb]
   have:=dM (need:=l+1) (c:=c) (by omega)
   omega
  simp only [hcap,if_false]
  refine ag ?_
  simp only [choose,aI,Question.forced,Bool.false_eq_true,if_false]
  intro t
  have hcut:l+1<=Question.cut (.appendCap (l+1) c e) t:=by simp only [Question.cut];omega
  have hcut2:Question.cut (.appendCap (l+1) c e) t<=maxLen:=by
   simp only [Question.cut,maxLen]
   have:=Nat.mod_lt t (show 0<2 ^ 63-(l+1) by omega)
   omega
  generalize Question.cut (.appendCap (l+1) c e) t=cap' at hcut hcut2
  refine ag (bH hi ?_)
  refine ag (fV ?_)
  refine ag (bJ (hO.rd) (Nat.le_refl _) ?_)
  refine ag (bJ hr (Nat.le_refl _) ?_)
  refine ag (cl hi hz0 ?_)
  rw [show ([y].take (1*1):List Value)=[y] from rfl,show xs.take (l*1)=xs from List.take_of_length_le (by omega)]
  simp only [newRow,newObj,bind,Sem.bind,pure,aI]
  refine h _ _ [H1.size] _ ⟨⟨by simp;omega,hcut,.inr ⟨H1.size,_,rfl,rfl,aV.new _ _ _,?_,?_⟩⟩,fun b' hb'=>?_,hcut2⟩ (hup ⟨Fr.push _ _ _,fun b' hb'=>?_⟩)
  ·simp only [Array.size_append,List.size_toArray,Builtin.zeroCells,Array.size_map,Array.size_range,hz,List.length_cons,List.length_nil]
   omega
  ·simp only [Array.toList_append,List.append_assoc]
   rw [←List.append_assoc,List.take_append_of_le_length (by simp;omega)]
   exact List.take_of_length_le (by simp;omega)
  ·simp at hb';subst hb';exact ⟨_,by simp;rfl⟩
  ·simp at hb';exact .inr (by omega)
theorem kZ {ts:Array TypeId}{ty e:TypeId}{H:ae}{a:Option Addr}{l c:Nat}{xs:List Value}{G:az}{Q:Value->ae->Prop} (hty:P.underlying ty=some (.pointer e)) (ho:bN 1 H a l c xs G) (h0:l≠0->Q (.pointer a) H) (h1:l=0->∀ p H',Fr [] H H'->Q (.pointer p) H') :
  aI P (Builtin.unsafeSliceData_ ts ty #[.slice a l c]) Q H:=by
 have hlc:=ho.2.1
 rcases ho.2.2 with ⟨rfl,hc0,rfl⟩ | ⟨b,cs,rfl,rfl,⟨t,hB⟩,_⟩
 ·show Q (.pointer none) H
  by_cases hl:l=0
  ·exact h1 hl _ _ (Fr.refl _ _)
  ·exact h0 hl
 ·show aI P (if c≠0 then pure (.pointer (some ⟨b,0,none⟩)) else _) Q H
  by_cases hc:c=0
  ·rw [if_neg (by simpa using hc)]
   refine ag ?_
   have hs:gd H b=some (t,cs.size):=by simp [gd,hB]
   unfold viewAt
   refine ag ?_
   show aI P (.shape b fun r=>.pure r) _ H
   unfold aI
   rw [hs]
   simp only [Option.isSome_some,if_true]
   show aI P (if false=true then pure _ else _) Q H
   rw [if_neg (by simp)]
   refine ag (ag ?_)
   refine aG hty ?_
   exact h1 (by omega) _ _ (Fr.push _ _ _)
  ·rw [if_pos hc]
   show Q (.pointer (some ⟨b,0,none⟩)) H
   by_cases hl:l=0
   ·exact h1 hl _ _ (Fr.refl _ _)
   ·exact h0 hl
theorem gQ {H:ae}:∀ (l:List UInt8) (a:Addr) (acc:ByteArray){Q:ByteArray->ae->Prop},(∀ j x,l[j]?=some x->aa H (a.add j)=some (.int .u8 x.toNat))->Q ⟨acc.data++l.toArray⟩ H->aI P (loadBytes a acc l.length) Q H
 | [],a,acc,Q,_,h=>by
  show Q acc H
  simpa using h
 | x :: l,a,acc,Q,hc,h=>by
  show aI P (do
   match ← load a with
   | .int .u8 b=>loadBytes (a.add 1) (acc.push b.toNat.toUInt8) l.length
   | _ => stuck "a byte variable that holds no byte") Q H
  have h0:=hc 0 x rfl
  rw [Addr.add_zero'] at h0
  refine ag ?_
  show ∃ v,aa H a=some v∧_
  refine ⟨_,h0,?_⟩
  show aI P (loadBytes (a.add 1) (acc.push ((x.toNat:Int).toNat.toUInt8)) l.length) Q H
  have hx:(x.toNat:Int).toNat.toUInt8=x:=by simp
  rw [hx]
  refine gQ l _ _ (fun j y hy=>?_) ?_
  ·rw [Addr.add_add]
   have:=hc (j+1) y (by simpa using hy)
   rw [Nat.add_comm j 1] at this
   exact this
  ·have e:(acc.push x).data++l.toArray=acc.data++(x :: l).toArray:=by
    show acc.data.push x++l.toArray=_
    rw [Array.push_eq_append,Array.append_assoc]
    simp
   rw [e];exact h
theorem pc {pt it ty e:TypeId} (hp:P.underlying pt=some (.pointer e)) (hc:P.cellsOf e=1){H:ae}{a:Option Addr}{l c:Nat}{y:ByteArray}{G:az}{Q:Value->ae->Prop} (hB:sf e H a l c (y.data.toList.map fun u=>.int .u8 u.toNat) G){p:Option Addr} (hpa:l≠0->p=a)
  (h:∀ H',Fr G H H'->Q (.string y) H'):aI P (Builtin.unsafeString_ #[pt,it] ty #[.pointer p,.int .i64 (l:Int)]) Q H:=by
 have hlen:y.data.toList.length=l:=by have:=hB.1.1;simpa using this
 have hm:=hB.2.2
 have hlc:=hB.1.2.1
 have hn0:¬ ((l:Int)<0):=by omega
 have hn1:¬ ((l:Int) > IntKind.i64.max):=by
  rw [show IntKind.i64.max=9223372036854775807 from rfl]
  unfold maxLen at hm
  omega
 have h0:l=0->y=ByteArray.empty:=fun hl=>by
  have:y.data.toList=[]:=List.eq_nil_of_length_eq_zero (by omega)
  cases y with
  | mk d =>
   have hd:d=#[]:=Array.toList_eq_nil_iff.1 this
   subst hd;rfl
 have hdef:∀ q,Builtin.unsafeString_ #[pt,it] ty #[.pointer q,.int .i64 (l:Int)]=(do
   let n ← asInt (.int .i64 (l:Int))
   if n < 0 then runtimePanic (.error "unsafe.String: len out of range")
   if n > IntKind.i64.max then unsupported (.unsafePointer "String: a length above the largest int")
   match q with
   | none => if n = 0 then pure (.string .empty) else runtimePanic (.error "unsafe.String: ptr is nil and len is not zero")
   | some a =>
    if n=0 then pure (.string .empty)
    else if ← variablesAt a (← elemOf pt) n.toNat then do
     let s ← loadBytes a .empty n.toNat
     freeze a n.toNat
     pure (.string s)
    else unsupported (.unsafePointer "String: not so many bytes at ptr")) := fun _ => rfl
 rw [hdef]
 refine ag ?_
 show aI P (if (l:Int)<0 then _ else _) Q H
 rw [if_neg hn0]
 show aI P (if (l:Int) > IntKind.i64.max then _ else _) Q H
 rw [if_neg hn1]
 by_cases hl:l=0
 ·have e0:=h0 hl
  subst hl
  cases p with
  | none =>
   show aI P (if ((0:Nat):Int)=0 then pure (.string .empty) else _) Q H
   rw [if_pos (show ((0:Nat):Int)=0 from rfl)]
   rw [←e0]
   exact h H (Fr.refl _ _)
  | some q =>
   show aI P (if ((0:Nat):Int)=0 then pure (.string .empty) else _) Q H
   rw [if_pos (show ((0:Nat):Int)=0 from rfl)]
   rw [←e0]
   exact h H (Fr.refl _ _)
 ·have hpa':=hpa hl
  subst hpa'
  rcases hB.1.2.2 with ⟨rfl,hc0,rfl⟩ | ⟨b,cs,rfl,rfl,hB0,hsz,htk⟩
  ·omega
  ·obtain ⟨cs2,hg⟩:=hB.2.1 b (by simp)
   have hcs:cs2=cs:=by
    obtain ⟨t,hB1⟩:=hB0
    rw [hg] at hB1
    simp only [Option.some.injEq,Obj.cells.injEq] at hB1
    exact hB1.1
   subst hcs
   show aI P (if (l:Int)=0 then pure (.string .empty) else _) Q H
   rw [if_neg (by omega)]
   refine ag ?_
   unfold elemOf
   refine ag (aG hp ?_)
   show aI P (pure e) _ H
   refine cg ?_
   refine ag ?_
   have hs:gd H b=some (e,cs2.size):=by simp [gd,hg]
   show aI P (.program fun q=>.shape b fun r=>_) _ H
   show aI P (match gd H b with | some (e',cells)=>pure (liesAt P P.depth e' (cells / P.cellsOf e') 0 e ((l:Int).toNat)) | none=>pure false) _ H
   rw [hs]
   dsimp only
   refine cg ?_
   have hlies:=Lib.liesAt_bytes (P:=P) hc (cs2.size / P.cellsOf e) l (by rw [hc];simp;omega)
   rw [Int.toNat_natCast,hlies,if_pos rfl]
   refine ag ?_
   have hcell:∀ j x,y.data.toList[j]?=some x->aa H ((⟨b,0,none⟩:Addr).add j)=some (.int .u8 x.toNat):=fun j x hx=>by
    have hj:j<l*1:=by
     have:=(List.getElem?_eq_some_iff.1 hx).1;omega
    rw [hB.1.rd.2.2 _ rfl j hj,List.getElem?_map,hx];rfl
   have:=gQ (P:=P) (H:=H) y.data.toList ⟨b,0,none⟩ .empty (Q:=fun s H'=>aI P (do freeze ⟨b,0,none⟩ l;pure (Value.string s)) Q H') hcell (by
    refine ag ?_
    show Q (.string _) (cu H ⟨b,0,none⟩ l)
    have ey:(⟨ByteArray.empty.data++y.data.toList.toArray⟩:ByteArray)=y:=by
     cases y with
     | mk d =>
      show (⟨#[]++d.toList.toArray⟩:ByteArray)=⟨d⟩
      simp
    rw [ey]
    refine h _ ⟨?_,fun x hx hn=>?_⟩
    ·unfold cu;split <;> simp
    ·have hxb:x≠b:=by simpa using hn
     unfold cu
     split
     ·rfl
     ·simp [Array.getElem?_modify,Ne.symm hxb])
   rw [hlen] at this
   exact this
end Kw
namespace Go.Proofs.YtgcoppcogllpbaaGreatDoor
open Kw
abbrev AS (y:ByteArray):List Value:=y.data.toList.map fun u=>.int .u8 (u.toNat:Int)
section
variable {H:ae}{Q:QT}{a:Option Addr}{l c:Nat}
theorem uJ {bb:Nat}{xs:List Value}{G:az}{u:Int} (hb:ja 298 H bb (.slice a l c)) (hB:sf 5 H a l c xs G) (hbg:bb∉G) (hl:l<1000000)
  (h:∀ H' a' c' G',ja 298 H' bb (.slice a' (l+1) c')->sf 5 H' a' (l+1) c' (xs++[.int .u8 u]) G'->bb∉G'->Up (bb :: G) H (bb :: G') H'->Q .nilIface H') :
  ac PP za #[.pointer (some ⟨bb,0,none⟩),.int .u8 u] Q H:=by
 have i5:∃ i,PP.info? 5=some i∧i.size=1∧i.bytes=1∧i.zero=some (.int .u8 0):=⟨_,rfl,by kernel_rfl,by kernel_rfl,by kernel_rfl⟩
 obtain ⟨i,hi,hk,hbs,hz⟩:=i5
 have hlt:=hb.lt
 have hGl:=hB.1.lt
 apply wn
 unfold BH A0 pV lV
 refine jF { Tryz.rep with } Tryz.repX.toX72 ⟨_,Tryz.func384,rfl⟩ hb fun H1 hb1 f1 hs1=>⟨rfl,_,rfl,a,l,c,?_,?_⟩
 ·obtain ⟨p,hb1,_⟩:=hb1
  show aa H1 ⟨bb,0+1,none⟩=_
  simp [aa,hb1]
 have hB1:sf 5 H1 a l c xs G:=hB.keep fun x hx=>f1.2 x (hGl x hx) (fun e=>hbg (by simp at e;subst e;exact hx))
 refine oI (d:=5) (by kernel_rfl) hi hk hbs hz rfl (by kernel_rfl) hB1 rfl (by omega) fun a' c' G' H2 hB2 u2=>⟨_,_,_,rfl,_,rfl,?_,?_⟩
 ·have hbn:bb∉G':=fun hm=>by
   rcases u2.2 bb hm with h1 | h1
   ·exact hbg h1
   ·omega
  obtain ⟨p,hp,_⟩:=hb1.keep (u2.1.2 bb (by omega) hbg)
  exact (show aV H2 bb #[p,.slice a l c] from ⟨_,hp⟩).wr (o:=1) (by simp)
 ·have hbn:bb∉G':=fun hm=>by
   rcases u2.2 bb hm with h1 | h1
   ·exact hbg h1
   ·omega
  obtain ⟨p,hp,hpp⟩:=hb1.keep (u2.1.2 bb (by omega) hbg)
  have hne:∀ y,y≠bb->(aB H2 ((⟨bb,0,none⟩:Addr).add 1) (.slice a' (l+1) c'))[y]?=H2[y]?:=fun y hy=>cy hy
  refine h _ a' c' G' ⟨p,?_,hpp⟩ (hB2.keep fun x hx=>hne x fun e=>hbn (e ▸ hx)) hbn ⟨⟨?_,fun y hy hn=>?_⟩,fun y hy=>?_⟩
  ·rw [show ((⟨bb,0,none⟩:Addr).add 1)=⟨bb,1,none⟩ from rfl]
   simp [aB,Array.getElem?_modify,hp]
   rfl
  ·rw [bz];have:=u2.1.1;omega
  ·simp only [List.mem_cons,not_or] at hn
   rw [hne y hn.1,u2.1.2 y (by omega) hn.2,f1.2 y hy (by simpa using hn.1)]
  ·rcases List.mem_cons.1 hy with rfl | hy
   ·exact .inl (by simp)
   ·rcases u2.2 y hy with h1 | h1
    ·exact .inl (by simp [h1])
    ·exact .inr (by omega)
theorem rA {H0:ae}{bb:Nat}{y:ByteArray}{G:az} (hb:ja 298 H bb (.slice a l c)) (hB:sf 5 H a l c (AS y) G) (hlo:∀ x∈G,H0.size<=x) (hbg:bb∉G) (f0:Fr [] H0 H)
  (h:∀ H',Fr [] H0 H'->Q (.string y) H'):ac PP Ae #[.pointer (some ⟨bb,0,none⟩)] Q H:=by
 have hlt:=hb.lt
 have hc:∀ {Hz:ae},ja 298 Hz bb (.slice a l c)->aa Hz ((⟨bb,0,none⟩:Addr).add 1)=some (.slice a l c):=fun {Hz} hz=>by
  obtain ⟨p,hz,_⟩:=hz
  show aa Hz ⟨bb,0+1,none⟩=_
  simp [aa,hz]
 have hu1:PP.underlying 328=some (.pointer 5):=by kernel_rfl
 have hc1:PP.cellsOf 5=1:=by kernel_rfl
 apply xD
 unfold CG iV pV sV lV
 have fin:∀ p H1,Fr [] H H1->(l≠0->p=a)->∃ p7:Option Addr,(Value.pointer p:Value)=.pointer p7∧((aa H1 ((⟨bb,0,none⟩:Addr).add 1)=some (.slice a l c)∧True)∧True)∧aI PP (Builtin.unsafeString_ #[328,3] 9 #[.pointer p7,.int .i64 (l:Int)]) (fun v8 H2=>∃ s9:ByteArray,v8=.string s9∧True∧Q (.string s9) H2) H1:=fun p H1 f1 hp=>by
  have hb1:=hb.keep (f1.2 bb hlt (by simp))
  have hB1:=hB.keep fun x hx=>f1.2 x (hB.1.lt x hx) (by simp)
  refine ⟨_,rfl,⟨⟨hc hb1,trivial⟩,trivial⟩,pc hu1 hc1 hB1 hp fun H2 f2=>⟨_,rfl,trivial,h H2 ⟨?_,fun x hx _=>?_⟩⟩⟩
  ·have:=f0.1;have:=f1.1;have:=f2.1;omega
  ·have:=f0.1;have:=f1.1
   rw [f2.2 x (by omega) (fun hm=>by have:=hlo x hm;omega),f1.2 x (by omega) (by simp),f0.2 x hx (by simp)]
 exact ⟨_,rfl,_,_,_,hc hb,_,rfl,_,_,_,hc hb,kZ hu1 hB.1 (fun _=>fin a H (Fr.refl _ _) fun _=>rfl) fun hl p H1 f1=>fin p H1 f1 fun hn=>absurd hl hn⟩
end
def dL (r:RH) (w:Int) (n:Nat):List Int:=(List.range n).map fun i:Nat=>ga r w (i:Int)
section
variable {H:ae}{b:Nat}{F:az}{s:SP}{t:TB}{v:KV}{Q:QT}{r x:Int}{a:Option Addr}{l c:Nat}{ws:List Int}
theorem oH (hK:PK H b F s t){w:Int}{n:Nat} (hn:(fA s.h w).1=(n:Int)) (hn2:n<=1000000) (h:∀ q H',bN 1 H' (some ⟨q,0,none⟩) n n (aj (dL s.h w n)) [q]->H.size<=q->Fr [] H H'->Q (.slice (some ⟨q,0,none⟩) n n) H') :
  ac PP zi #[cv b r a l c,.int .i64 w] Q H:=by
 have hs1:aH PP 30=some (1,8,some (.int .i64 0)):=by kernel_rfl
 apply ww
 unfold CF A0 iV wW pV lV cS;dsimp only [shH]
 have f:=Fr.push [] H (.cells (cc b r a l c) 149)
 have hb:=aV.new H (cc b r a l c) 149
 refine ⟨_,hb.cell 0,_,hb.cell 1,_,_,_,hb.cell 2,eC (hK.nil f) fun H1 f1=>⟨_,_,rfl,?_⟩⟩
 rw [hn]
 have f01:=f.trans f1
 have hb1:=hb.fr f1 (by simp)
 refine cn hs1 rfl (by omega) (Int.le_refl _) (by omega) (by decide) fun e=>⟨_,_,_,rfl,?_⟩
 have f2:=f01.trans (Fr.push [] _ (.cells (Array.replicate (n:Int).toNat (.int .i64 0)) e))
 have hb2:=hb1.push (.cells (Array.replicate (n:Int).toNat (.int .i64 0)) e)
 have hq0:H.size<H1.size:=hb1.lt
 have ho2:bN 1 (H1.push (.cells (Array.replicate (n:Int).toNat (.int .i64 0)) e)) (some ⟨H1.size,0,none⟩) (n:Int).toNat (n:Int).toNat (aj (List.replicate n 0)) [H1.size]:=by
  refine ⟨by simp [aj],Nat.le_refl _,.inr ⟨_,_,rfl,rfl,aV.new _ _ _,by simp,?_⟩⟩
  simp [aj]
 simp only [Int.toNat_natCast] at f2 hb2 ho2 ⊢
 generalize (H1.push (.cells (Array.replicate n (.int .i64 0)) e))=H2 at f2 hb2 ho2 ⊢
 generalize H1.size=q at ho2 hq0 ⊢
 refine ⟨fun w' H'=>∃(i:Nat) (rest:List Int),w'=[.int .i64 i]∧i<=n∧bN 1 H' (some ⟨q,0,none⟩) n n (aj (dL s.h w i++rest)) [q]∧Fr [] H H'∧aV H' H.size (cc b r a l c),fun w' _=>match w' with
  | [.int _ i]=>((n:Int)-i).toNat
  | _=>0,⟨0,_,rfl,Nat.zero_le _,ho2,f2,hb2⟩,?_⟩
 rintro w' H3 ⟨i,rest,rfl,hi,ho3,f3,hb3⟩ _
 have hlen:=ho3.len
 simp only [aj,dL,List.length_map,List.length_append,List.length_range,Nat.mul_one] at hlen
 refine ⟨_,rfl,gg (fun hlt=>?_) fun hge=>?_⟩
 ·have hil:i<n:=by omega
  have e1:IntKind.wrap .i64 ((i:Int)+1)=((i+1:Nat):Int):=by rw [ah (by omega) (by omega)];omega
  rw [e1]
  refine ⟨_,hb3.cell 0,_,hb3.cell 1,_,_,_,hb3.cell 2,mB (hK.nil f3) fun H4 f4=>⟨_,rfl,⟨by omega,hlt⟩,_,rfl,?_⟩⟩
  have ho4:=ho3.fr f4 (by simp)
  obtain ⟨bb,hbb,hw,hf,hput⟩:=oT ho4 hil (.int .i64 (ga s.h w (i:Int)))
  cases hbb
  rw [ak,Nat.zero_add,Nat.mul_one,Int.toNat_natCast]
  cases rest with
  | nil=>simp at hlen;omega
  | cons z rest =>
   have hf':Fr [] H (aB H4 ⟨q,i,none⟩ (.int .i64 (ga s.h w (i:Int)))):=Fr.late (f3.trans f4) (by show H.size<=q;omega)
   refine ⟨hw,⟨i+1,rest,rfl,by omega,?_,hf',(hb3.fr f4 (by simp)).fr hf (by simp;omega)⟩,by simp;omega⟩
   have et:(aj (dL s.h w i++z :: rest)).set i (.int .i64 (ga s.h w (i:Int)))=aj (dL s.h w (i+1)++rest):=by
    have h1:(dL s.h w i).length=i:=by simp [dL]
    have h2:dL s.h w (i+1)=dL s.h w i++[ga s.h w (i:Int)]:=by simp [dL,List.range_succ]
    rw [h2]
    simp only [aj,List.map_append,List.map_cons,List.append_assoc,List.singleton_append,List.map_nil]
    rw [List.set_append_right _ _ (by rw [List.length_map,h1];exact Nat.le_refl _),List.length_map,h1,Nat.sub_self]
    rfl
   rw [←et];exact hput
 ·have hi2:i=n:=by omega
  subst hi2
  have:rest=[]:=List.eq_nil_of_length_eq_zero (by omega)
  subst this
  rw [List.append_nil] at ho3
  exact h q H3 ho3 (by omega) f3
theorem lS {r:RH}{k:Int}{xs:List Int} (h:bU r k xs) (h1:1<=k) (h2:k<=65536):dL r (4*k) xs.length=xs:=by
 apply List.ext_getElem?
 intro i
 unfold dL
 by_cases hi:i<xs.length
 ·rw [List.getElem?_map,List.getElem?_range hi]
  simp only [Option.map_some]
  rw [ox h h1 h2 hi]
  simp [hi]
 ·rw [List.getElem?_eq_none (by simp;omega),List.getElem?_eq_none (by omega)]
theorem nl (hK:PK H b F s t){k:Int}{y:ByteArray} (hs:bU s.h k (ax y)) (h1:1<=k) (h2:k<=65536) (hy:y.size<=100000) (h:∀ H',Fr [] H H'->Q (.string y) H') :
  ac PP ux #[cv b r a l c,.int .i64 (4*k)] Q H:=by
 have hbl:=cO y
 apply qm
 unfold AE A0 iV wW pV sV lV cS;dsimp only [shH]
 have f:=Fr.push [] H (.cells (cc b r a l c) 149)
 have hb:=aV.new H (cc b r a l c) 149
 have sz:(H.push (.cells (cc b r a l c) 149)).size=H.size+1:=by simp
 have hK1:=hK.nil f
 generalize (H.push (.cells (cc b r a l c) 149))=H1 at f hb sz hK1 ⊢
 refine nk hK1.kinds ?_
 unfold jE
 rw [if_neg (by rw [kw h1 h2];decide)]
 refine ⟨_,_,rfl,?_⟩
 simp only [show ((10:Int) == 0)=false from rfl,cond_false]
 have f2:=Fr.push [] H1 (.cells #[.pointer none,.slice none 0 0] 298)
 have hBl:ja 298 (H1.push (.cells #[.pointer none,.slice none 0 0] 298)) H1.size (.slice none 0 0):=⟨_,by simp,.inl rfl⟩
 have hb2:=hb.push (.cells #[.pointer none,.slice none 0 0] 298)
 have hK2:=hK1.nil f2
 have f02:=f.trans f2
 have sz2:(H1.push (.cells #[.pointer none,.slice none 0 0] 298)).size=H1.size+1:=by simp
 generalize (H1.push (.cells #[.pointer none,.slice none 0 0] 298))=H2 at f2 hBl hb2 hK2 f02 sz2 ⊢
 refine ⟨_,hb2.cell 0,_,hb2.cell 1,_,_,_,hb2.cell 2,oH hK2 (n:=y.size) (by rw [eJ hs h1 h2];simp only [hbl]) (by omega) fun q H3 ho3 hq3 f3=>⟨_,_,_,rfl,?_⟩⟩
 have hsl:=lS hs h1 h2
 rw [hbl] at hsl
 rw [hsl] at ho3
 have hBl3:=hBl.keep (f3.2 _ hBl.lt (by simp))
 refine ⟨fun w' H'=>∃(i:Nat) (a':Option Addr) (c':Nat) (G:az),w'=[.int .i64 i]∧i<=y.size∧ja 298 H' H1.size (.slice a' i c')∧sf 5 H' a' i c' ((AS y).take i) G∧H1.size∉G∧q∉G∧(∀ x∈G,H.size<=x)∧bN 1 H' (some ⟨q,0,none⟩) y.size y.size (aj (ax y)) [q]∧Fr [] H H',fun w' _=>match w' with
  | [.int _ i]=>((y.size:Int)-i).toNat
  | _=>0,⟨0,none,0,[],rfl,Nat.zero_le _,hBl3,⟨bN.nil _ _,by simp,Nat.zero_le _⟩,by simp,by simp,by simp,ho3,f02.trans f3⟩,?_⟩
 rintro w' H4 ⟨i,a',c',G,rfl,hi,hBl4,hB4,n1,n2,hlo,ho4,f4⟩ _
 refine ⟨_,rfl,gg (fun hlt=>?_) fun hge=>?_⟩
 ·have hil:i<y.size:=by omega
  have e1:IntKind.wrap .i64 ((i:Int)+1)=((i+1:Nat):Int):=by rw [ah (by omega) (by omega)];omega
  obtain ⟨p,hp1,hp2,hp3⟩:=ho4.rd.int (i:=(i:Int)) (by omega) (by omega)
  cases hp1
  simp only [Int.toNat_natCast] at hp2
  have hu:=(y[i]).toNat_lt
  have hbi:(ax y).getD i 0=((y[i]).toNat:Int):=by
   unfold ax
   rw [List.getD_eq_getElem?_getD,List.getElem?_map,Array.getElem?_toList]
   have:y.data[i]?=some y[i]:=by
    have h1:i<y.data.size:=hil
    rw [Array.getElem?_eq_getElem h1];rfl
   rw [this];rfl
  have hui:(AS y)[i]?=some (.int .u8 ((y[i]).toNat:Int)):=by
   unfold AS
   rw [List.getElem?_map,Array.getElem?_toList]
   have:y.data[i]?=some y[i]:=by
    have h1:i<y.data.size:=hil
    rw [Array.getElem?_eq_getElem h1];rfl
   rw [this];rfl
  refine ⟨⟨by omega,hlt⟩,_,rfl,_,by rw [Int.toNat_natCast,Nat.mul_one];exact hp2,?_⟩
  rw [hbi,e1]
  have eu:IntKind.wrap .u8 ((y[i]).toNat:Int)=((y[i]).toNat:Int):=by
   unfold IntKind.wrap
   simp only [IntKind.bits,IntKind.signed]
   first
    | (simp;omega)
    | omega
  rw [eu]
  refine uJ hBl4 hB4 n1 (by omega) fun H5 a5 c5 G5 hBl5 hB5 n5 u5=>⟨_,rfl,?_⟩
  have hq4:q<H4.size:=ho4.lt q (by simp)
  have hqb:q≠H1.size:=by omega
  refine ⟨⟨i+1,a5,c5,G5,rfl,by omega,hBl5,?_,n5,fun hm=>?_,fun x hx=>?_,ho4.fr u5.1 (by simpa using ⟨hqb,n2⟩),?_⟩,by simp;omega⟩
  ·rw [List.take_add_one,hui];exact hB5
  ·rcases u5.2 q (by simp [hm]) with h3 | h3
   ·simp only [List.mem_cons] at h3
    exact h3.elim hqb n2
   ·omega
  ·rcases u5.2 x (by simp [hx]) with h3 | h3
   ·simp only [List.mem_cons] at h3
    rcases h3 with rfl | h3
    ·omega
    ·exact hlo x h3
   ·have:=f4.1;omega
  ·refine ⟨Nat.le_trans f4.1 u5.1.1,fun x hx _=>?_⟩
   rw [u5.1.2 x (Nat.lt_of_lt_of_le hx f4.1) (fun hm=>?_),f4.2 x hx (by simp)]
   rcases List.mem_cons.1 hm with rfl | hm
   ·omega
   ·have:=hlo x hm;omega
 ·have hi2:i=y.size:=by omega
  subst hi2
  have hB5:sf 5 H4 a' y.size c' (AS y) G:=by
   rw [List.take_of_length_le (by simp [AS])] at hB4
   exact hB4
  exact rA (H0:=H) hBl4 hB5 hlo n1 f4 fun H' f'=>⟨_,rfl,h H' f'⟩
theorem jZ (hK:PK H b F s t){n:Int}{y:ByteArray} (hn:0<=n∧n<4096) (hy:t.texts[n.toNat]?=some y) (h:∀ H',Fr [] H H'->Q (.string y) H') :
  ac PP ux #[cv b r a l c,.int .i64 (4*n+2)] Q H:=by
 apply qm
 unfold AE A0 iV wW pV sV lV cS;dsimp only [shH]
 have f:=Fr.push [] H (.cells (cc b r a l c) 149)
 have hb:=aV.new H (cc b r a l c) 149
 have hK1:=hK.nil f
 refine nk hK1.kinds ?_
 unfold jE
 have hkw:bg (4*n+2)=2:=by
  unfold bg
  rw [if_neg (by omega),if_pos (by omega)]
 rw [if_pos hkw]
 refine ⟨_,_,rfl,?_⟩
 simp only [show ((0:Int) == 0)=true from rfl,cond_true]
 refine ⟨_,hb.cell 0,pr hK1 fun tb F1 _ hT=>⟨_,rfl,nU hT ?_⟩⟩
 rw [show (4*n+2) / 4=n by omega]
 have hl:n.toNat<t.texts.length:=(List.getElem?_eq_some_iff.1 hy).1
 unfold qI
 rw [dif_pos ⟨hn.1,by omega⟩]
 refine ⟨_,_,rfl,?_⟩
 rw [(List.getElem?_eq_some_iff.1 hy).2]
 exact h _ f
end
theorem dA (H:ae) (n:Int) (e:TypeId):Rd 1 (H.push (.cells #[.int .i64 n] e)) (some ⟨H.size,0,none⟩) 1 (aj [n]) :=
 (show bN 1 (H.push (.cells #[.int .i64 n] e)) (some ⟨H.size,0,none⟩) 1 1 (aj [n]) [H.size] from ⟨by simp [aj],Nat.le_refl _,.inr ⟨_,_,rfl,rfl,aV.new _ _ _,by simp,by simp [aj]⟩⟩).rd
theorem fU (H:ae):Rd 1 H none 0 (aj []):=(bN.nil 1 H).rd
theorem gE {s:SP}{t:TB}{v:KV} (hv:KAllW s t v) (w:Int) (hl:s.stack.length+1<60000):KAllW (s.keepW [w]).2 t v∧(s.keepW [w]).2.h=s.h∧(s.keepW [w]).2.stack.length<=s.stack.length+1:=by
 unfold SP.keepW
 split
 ·exact ⟨hv,rfl,Nat.le_succ _⟩
 rename_i hw
 split
 ·exact ⟨hv,rfl,Nat.le_succ _⟩
 ·have hw':cW w:=Classical.byContradiction fun e=>hw ⟨w,by simp,e⟩
  refine ⟨⟨⟨{ hv.ks.wf with many:=by simp;omega,words:=fun x hx=>?_ },hv.ks.gc,hv.ks.op,hv.ks.king,hv.ks.view,hv.ks.sep,hv.ks.shape⟩,hv.names,by simp;omega⟩,rfl,by simp⟩
  rcases List.mem_append.1 hx with hx | hx
  ·exact hv.ks.wf.words x hx
  ·rw [List.mem_singleton.1 hx];exact hw'
structure SD (H:ae) (db:Nat) (D:az) (s:SP) (t:TB) (v:KV) (ws:List Int) (N:Nat):Prop where
 dk:DK H db D s t ws
 all:KAllW s t v
 st:s.stack.length<=N
 wl:ws.length<=N
theorem SD.nil {H H':ae}{db:Nat}{D:az}{s:SP}{t:TB}{v:KV}{ws:List Int}{N:Nat} (h:SD H db D s t v ws N) (f:Fr [] H H'):SD H' db D s t v ws N:=⟨h.dk.nil f,h.all,h.st,h.wl⟩
section
variable {H:ae}{db:Nat}{D:az}{s:SP}{t:TB}{v:KV}{ws:List Int}{N:Nat}{Q:QT}{r:Int}
theorem eW {n:Int} (hn:qg n) (h:Q (.int .i64 (2*n+1)) H):ac PP B7 #[.int .i64 n] Q H:=by
 apply zL
 unfold ER iV wW
 obtain ⟨h1,h2⟩:=hn
 rw [ah (n:=2*n) (by omega) (by omega),ah (by omega) (by omega)]
 exact h
theorem gq {x:Bool} (h:Q (.int .i64 (tw x)) H):ac PP Bi #[.bool x] Q H:=by
 apply yK
 unfold EA iV
 cases x <;> exact h
theorem nM (hD:DK H db D s t ws){H':ae} (f:Fr [] H H'):∀ p,(some ⟨H'.size,0,none⟩:Option Addr)=some p->p.block∉D:=fun p hp hm=>by
 cases hp
 have:=hD.lt _ hm
 have:=f.1
 simp only at *
 omega
theorem qh (hD:SD H db D s t v ws N) (hN:N+1<60000){k:Int}{x:ByteArray}{ar:List Int}{w want:Int} (hp:PrimS s t k x r ar (w,0) s t){a:Option Addr}{l c:Nat} (hr:Rd 1 H a l (aj ar)) (ho:∀ p,a=some p->p.block∉D) (hal:l<=1000)
  (h:∀ H' D' s' ws',SD H' db D' s' t v ws' (N+1)->s'.h=s.h->Up D H D' H'->Q (.bool (decide (w=want))) H') :
  ac PP sL #[.pointer (some ⟨db,0,none⟩),.int .i64 k,.string x,.int .i64 r,.slice a l c,.int .i64 want] Q H:=by
 have h1:=hD.st
 have h2:=hD.wl
 obtain ⟨k1,k2,k3⟩:=gE hD.all w (by omega)
 exact x9 hD.dk (by omega) hp hr ho hal fun H' D' hD' u=>h H' D' _ _ ⟨hD',k1,by omega,by simp;omega⟩ k2 u
theorem BA (hD:SD H db D s t v ws N) (hN:N+1<60000){k:Int}{x:ByteArray}{ar:List Int}{w:Int}{s1:SP}{t1:TB} (hp:PrimS s t k x r ar (w,0) s1 t1) (h1:KAllW s1 t1 v) (hst:s1.stack.length<=s.stack.length){a:Option Addr}{l c:Nat} (hr:Rd 1 H a l (aj ar)) (ho:∀ p,a=some p->p.block∉D) (hal:l<=1000)
  (h:∀ H' D' s' ws',SD H' db D' s' t1 v ws' (N+1)->s'.h=s1.h->Up D H D' H'->Q (.tuple #[.int .i64 w,.int .i64 0]) H') :
  ac PP oE #[.pointer (some ⟨db,0,none⟩),.int .i64 k,.string x,.int .i64 r,.slice a l c] Q H:=by
 have g1:=hD.st
 have g2:=hD.wl
 obtain ⟨k1,k2,k3⟩:=gE h1 w (by omega)
 refine sZ hD.dk (by omega) hp hr ho hal fun H' D' hD' u=>?_
 unfold nX at hD'
 simp only [if_true] at hD'
 exact h H' D' _ _ ⟨hD',k1,by omega,by simp;omega⟩ k2 u
theorem sQ (hD:SD H db D s t v ws N) (hN:N+1<60000){k:Int}{x:ByteArray}{ar:List Int}{w e:Int} (he:e≠0) (hp:PrimS s t k x r ar (w,e) s t){a:Option Addr}{l c:Nat} (hr:Rd 1 H a l (aj ar)) (ho:∀ p,a=some p->p.block∉D) (hal:l<=1000)
  (h:∀ H' D',SD H' db D' s t v ws N->Up D H D' H'->Q (.tuple #[.int .i64 w,.int .i64 e]) H') :
  ac PP oE #[.pointer (some ⟨db,0,none⟩),.int .i64 k,.string x,.int .i64 r,.slice a l c] Q H:=by
 have g2:=hD.wl
 refine sZ hD.dk (by omega) hp hr ho hal fun H' D' hD' u=>?_
 unfold nX at hD'
 simp only [if_neg he] at hD'
 exact h H' D' ⟨hD',hD.all,hD.st,hD.wl⟩ u
theorem vM (hD:SD H db D s t v ws N){k:Int}{y:ByteArray} (hs:bU s.h k (ax y)) (hy:y.size<=10000) (hN:N+y.size+10<60000)
  (h:∀ H' D' s' ws',SD H' db D' s' t v ws' (N+y.size+2)->s'.h=s.h->Up D H D' H'->Q (.bool true) H') :
  ac PP x8 #[.pointer (some ⟨db,0,none⟩),.int .i64 (4*k),.string y] Q H:=by
 have hbl:=cO y
 obtain ⟨k1,k2⟩:=bG hD.all hs
 have hsz:=rV hD.all hs (by omega)
 rw [hbl] at hsz
 apply zt
 unfold EM A0 iV wW pV sV lV cS
 refine eW ⟨by omega,by omega⟩ ⟨_,rfl,qh hD (by omega) hsz (fU H) (fun p hp=>by cases hp) (by decide) fun H1 D1 s1 ws1 hD1 e1 u1=>⟨_,rfl,?_⟩⟩
 rw [decide_eq_true rfl,Bool.not_true,cond_false,aU]
 have hs1:bU s1.h k (ax y):=by rw [e1];exact hs
 have hem:=pE hD1.all hs1
 rw [hbl] at hem
 refine gq ⟨_,rfl,qh hD1 (by omega) hem (fU H1) (fun p hp=>by cases hp) (by decide) fun H2 D2 s2 ws2 hD2 e2 u2=>⟨_,rfl,?_⟩⟩
 rw [decide_eq_true rfl,Bool.not_true,cond_false]
 refine ⟨fun w H'=>∃(i:Nat) (D':az) (s':SP) (ws':List Int),w=[.int .i64 i]∧i<=y.size∧SD H' db D' s' t v ws' (N+1+1+i)∧s'.h=s.h∧Up D H D' H',fun w _=>match w with
  | [.int _ i]=>((y.size:Int)-i).toNat
  | _=>0,⟨0,D2,s2,ws2,rfl,Nat.zero_le _,hD2,e2.trans e1,u1.trans u2⟩,?_⟩
 rintro w H3 ⟨i,D3,s3,ws3,rfl,hi,hD3,e3,u3⟩ _
 have hs3:bU s3.h k (ax y):=by rw [e3];exact hs
 refine ⟨_,rfl,gg (fun hlt=>?_) fun hge=>?_⟩
 ·have hil:i<y.size:=by omega
  have w1:IntKind.wrap .i64 ((i:Int)+1)=((i+1:Nat):Int):=by rw [ah (by omega) (by omega)];omega
  have hg:y[i]?=some y[i]:=by simp [hil]
  have hu:=(y[i]).toNat_lt
  have eu:IntKind.wrap .i64 ((y[i]).toNat:Int)=((y[i]).toNat:Int):=ah (by omega) (by omega)
  have hbi:(ax y).getD i 0=((y[i]).toNat:Int):=by
   unfold ax
   rw [List.getD_eq_getElem?_getD,List.getElem?_map,Array.getElem?_toList]
   have:y.data[i]?=some y[i]:=by
    have h1:i<y.data.size:=hil
    rw [Array.getElem?_eq_getElem h1];rfl
   rw [this];rfl
  have hat:=mY hD3.all hs3 (n:=((i+1:Nat):Int)) ⟨by omega,by omega⟩
  have eb:=wH hs3 k1 k2 (i:=i) (by omega) (by omega) (by rw [hbi];omega)
  have ecast:(2*((i:Int)+1)+1)=2*((i+1:Nat):Int)+1:=by omega
  rw [ecast] at eb
  rw [eb,hbi] at hat
  refine ⟨y[i],⟨by omega,by rw [Int.toNat_natCast];exact hg⟩,?_⟩
  rw [w1,eu]
  refine eW ⟨by omega,by omega⟩ ⟨_,rfl,trivial,⟨trivial,eW ⟨by omega,by omega⟩ ⟨_,rfl,trivial,?_⟩⟩,eW ⟨by omega,by omega⟩ ⟨_,rfl,trivial,trivial,?_⟩⟩
  ·have fp:=Fr.push [] H3 (.cells #[.int .i64 (2*((i+1:Nat):Int)+1)] 24)
   refine qh (hD3.nil fp) (by omega) hat (dA _ _ _) (nM hD3.dk (Fr.refl _ _)) (by decide) fun H4 D4 s4 ws4 hD4 e4 u4=>⟨_,rfl,trivial,?_⟩
   rw [decide_eq_true rfl,Bool.not_true,cond_false]
   have u4':Up D3 H3 D4 H4:=⟨⟨Nat.le_trans fp.1 u4.1.1,fun z hz hn=>by rw [u4.1.2 z (Nat.lt_of_lt_of_le hz fp.1) hn,fp.2 z hz (by simp)]⟩,fun z hz=>(u4.2 z hz).imp id fun h=>Nat.le_trans fp.1 h⟩
   exact ⟨⟨i+1,D4,s4,ws4,rfl,by omega,hD4,e4.trans e3,u3.trans u4'⟩,by simp;omega⟩
  ·have fp:=Fr.push [] H3 (.cells #[.int .i64 (2*((i+1:Nat):Int)+1)] 24)
   refine qh (hD3.nil fp) (by omega) hat (dA _ _ _) (nM hD3.dk (Fr.refl _ _)) (by decide) fun H4 D4 s4 ws4 hD4 e4 u4=>⟨_,rfl,trivial,?_⟩
   rw [decide_eq_true rfl,Bool.not_true,cond_false]
   have u4':Up D3 H3 D4 H4:=⟨⟨Nat.le_trans fp.1 u4.1.1,fun z hz hn=>by rw [u4.1.2 z (Nat.lt_of_lt_of_le hz fp.1) hn,fp.2 z hz (by simp)]⟩,fun z hz=>(u4.2 z hz).imp id fun h=>Nat.le_trans fp.1 h⟩
   exact ⟨⟨i+1,D4,s4,ws4,rfl,by omega,hD4,e4.trans e3,u3.trans u4'⟩,by simp;omega⟩
 ·have w1:IntKind.wrap .i64 ((y.size:Int)+1)=(y.size:Int)+1:=ah (by omega) (by omega)
  have eo1:=oL hs3 k1 k2 (n:=(y.size:Int)+1) ⟨by omega,by omega⟩ (.inr (by omega))
  have ha1:=mY hD3.all hs3 (n:=(y.size:Int)+1) ⟨by omega,by omega⟩
  rw [eo1] at ha1
  have eo2:=oL hs3 k1 k2 (n:=0) ⟨by omega,by omega⟩ (.inl (by omega))
  have ha2:=mY hD3.all hs3 (n:=0) ⟨by omega,by omega⟩
  rw [eo2] at ha2
  rw [w1]
  have step:∀ {Ha Hb:ae}{Da Db:az}{o:Obj},Up Da (Ha.push o) Db Hb->Up Da Ha Db Hb:=fun {Ha Hb Da Db o} u=>by
   have fp:=Fr.push [] Ha o
   exact ⟨⟨Nat.le_trans fp.1 u.1.1,fun z hz hn=>by rw [u.1.2 z (Nat.lt_of_lt_of_le hz fp.1) hn,fp.2 z hz (by simp)]⟩,fun z hz=>(u.2 z hz).imp id fun h=>Nat.le_trans fp.1 h⟩
  refine eW ⟨by omega,by omega⟩ ⟨_,rfl,sQ (hD3.nil (Fr.push _ _ _)) (by omega) (by decide) ha1 (dA _ _ _) (nM hD3.dk (Fr.refl _ _)) (by decide) fun H4 D4 hD4 u4=>⟨_,_,rfl,?_⟩⟩
  refine eW ⟨by omega,by omega⟩ ⟨_,rfl,sQ (hD4.nil (Fr.push _ _ _)) (by omega) (by decide) ha2 (dA _ _ _) (nM hD4.dk (Fr.refl _ _)) (by decide) fun H5 D5 hD5 u5=>⟨_,_,rfl,?_⟩⟩
  simp only [beq_self_eq_true,cond_true]
  have hiy:i=y.size:=by omega
  subst hiy
  exact h H5 D5 s3 ws3 ⟨hD5.dk,hD5.all,by have:=hD5.st;omega,by have:=hD5.wl;omega⟩ e3 ((u3.trans (step u4)).trans (step u5))
end
def HB (H:ae) (b sb hb:Nat):Prop:=aa H ⟨b,0,none⟩=some (.pointer (some ⟨sb,0,none⟩))∧aa H ⟨sb,0,none⟩=some (.pointer (some ⟨hb,0,none⟩))
theorem eF {H:ae}{b o:Nat}{v:Value} (h:aa H ⟨b,o,none⟩=some v):b<H.size:=by
 unfold aa at h
 rcases Nat.lt_or_ge b H.size with h1 | h1
 ·exact h1
 ·simp only [Array.getElem?_eq_none h1] at h;cases h
theorem HB.nil {H H':ae}{b sb hb:Nat} (h:HB H b sb hb) (hf:Fr [] H H'):HB H' b sb hb:=by
 obtain ⟨h1,h2⟩:=h
 exact ⟨by rw [cr hf (by simp) (eF h1)];exact h1,by rw [cr hf (by simp) (eF h2)];exact h2⟩
section
variable {H:ae}{b sb hb:Nat}{F:az}{s:SP}{t:TB}{Q:QT}
theorem PK.hp (hK:PK H b F s t) (hB:HB H b sb hb):∃ F1,bQ H hb F1 s.h∧(∀ x∈F1,x∈F)∧∀ H' r',bQ H' hb F1 r'->Fr F1 H H'->PK H' b F { s with h:=r' } t∧HB H' b sb hb:=by
 obtain ⟨sb',F1,hc,hS,hsub,hbF,_,hup⟩:=hK.sp
 obtain ⟨hc1,hc2⟩:=hB
 rw [hc] at hc1
 have e:sb'=sb:=by simpa using hc1
 subst e
 obtain ⟨hb',F2,hR,c0,_,_,hsub2,hnb,hup2⟩:=hS.upd
 rw [c0] at hc2
 have e:hb'=hb:=by simpa using hc2
 subst e
 have hbl:=hK.lt b hK.bmem
 have hsl:=hS.lt _ hS.bmem
 refine ⟨F2,hR,fun x hx=>hsub x (hsub2 x hx),fun H' r' hR' hf=>⟨hup H' _ (hup2 H' r' hR' hf) (hf.mono hsub2),?_,?_⟩⟩
 ·rw [cr hf (fun hm=>hbF (hsub2 b hm)) hbl];exact hc
 ·rw [cr hf hnb hsl];exact c0
theorem PK.tbB (hK:PK H b F s t) (hB:HB H b sb hb):∃ tb F2,aa H ⟨b,1,none⟩=some (.pointer (some ⟨tb,0,none⟩))∧kx H tb F2 t∧∀ H' F2' t',kx H' tb F2' t'->Up F2 H F2' H'->(∃ F',PK H' b F' s t'∧Up F H F' H')∧HB H' b sb hb:=by
 obtain ⟨sb0,tb,F1,F2,rfl,h1,h2,h3,k1,k2,hBl,hS,hT⟩:=hK
 have hK:PK H b (b :: (F1++F2)) s t:=⟨sb0,tb,F1,F2,rfl,h1,h2,h3,k1,k2,hBl,hS,hT⟩
 obtain ⟨tb',F2',hc',hT',hsub',hbF',hup',_⟩:=hK.tb
 obtain ⟨hc1,hc2⟩:=hB
 have e0:aa H ⟨b,0,none⟩=some (.pointer (some ⟨sb0,0,none⟩)):=hBl.cell 0
 rw [e0] at hc1
 have e:sb0=sb:=by simpa using hc1
 subst e
 have hbl:=hK.lt b hK.bmem
 have hsl:=hS.lt _ hS.bmem
 refine ⟨tb,F2,hBl.cell 1,hT,fun H' F2' t' hT2 hu=>⟨?_,?_,?_⟩⟩
 ·have hlt:=hK.lt
  have hgl:=hK.kinds.lt
  have hgS:=hS.gk
  refine ⟨b :: (F1++F2'),⟨_,tb,F1,F2',rfl,h1,Up.out hu h2 hbl,fun x hx hx2=>?_,k1,Up.out hu k2 hgl,hBl.fr hu.1 h2,hS.fr hu.1 h3 k2,hT2⟩,hu.1.mono fun x hx=>by simp [hx],fun x hx=>?_⟩
  ·rcases hu.2 x hx2 with h4 | h4
   ·exact h3 x hx h4
   ·have:=hlt x (by simp [hx]);omega
  ·rcases List.mem_cons.1 hx with rfl | hx
   ·exact .inl (by simp)
   ·rcases List.mem_append.1 hx with hx | hx
    ·exact .inl (by simp [hx])
    ·exact (hu.2 x hx).imp (fun h4=>by simp [h4]) id
 ·rw [cr hu.1 h2 hbl];exact e0
 ·rw [cr hu.1 (h3 _ hS.bmem) hsl];exact hc2
theorem jS {r:RH} (h:∀ k x,al r.objs k=some x->x.fmt=0) (k i w:Int):∀ j x,al (r.put k i w).2.objs j=some x->x.fmt=0:=fun j x hx=>by
 obtain ⟨y,h1,h2⟩:=qs k i w j hx
 rw [h2];exact h j y h1
theorem uQ (o:Int) (l:List Int):∀ (i:Int){r:RH},(∀ k x,al r.objs k=some x->x.fmt=0)->∀ j x,al (r.lay o i l).objs j=some x->x.fmt=0:=by
 induction l with
 | nil=>intro i r h;exact h
 | cons w l ih=>intro i r h;exact ih (i+1) (jS h o i w)
theorem mf {r:RH} (h:∀ k x,al r.objs k=some x->x.fmt=0) (n:Nat):∀ j x,al (gN r n).objs j=some x->x.fmt=0:=by
 induction n with
 | zero=>exact h
 | succ n ih=>exact jS (uQ _ _ _ ih) _ _ _
theorem yH (hK:PK H b F s ⟨4096,[]⟩) (hB:HB H b sb hb) (hfmt:∀ k x,al s.h.objs k=some x->x.fmt=0)
  (h:∀ H' F',PK H' b F' { s with h:=cY s.h } bZ->HB H' b sb hb->Up F H F' H'->Q (.tuple #[]) H'):ac PP Dn #[.pointer (some ⟨b,0,none⟩)] Q H:=by
 have h14:br.length=14:=rfl
 apply yg
 unfold Es A0 iV wW pV sV lV cS
 obtain ⟨sb0,F1,hc,hS,_⟩:=hK.sp
 have e0:sb0=sb:=by
  have:=hB.1
  rw [hc] at this;simpa using this
 subst e0
 refine ⟨_,rfl,_,hc,?_⟩
 have hps:∀ {Q':Value->ae->Prop},Q' (.pointer (some ⟨hb,0,none⟩)) H->ac PP qL #[.pointer (some ⟨sb0,0,none⟩)] Q' H:=by
  intro Q' hq
  obtain ⟨hb',F1',hR,c0,_⟩:=hS.upd
  obtain ⟨hc1,hc2⟩:=hB
  rw [c0] at hc2
  have e:hb'=hb:=by simpa using hc2
  subst e
  apply ur
  unfold DQ pV
  refine dU hS ⟨_,rfl,?_⟩
  simp only [cond_false]
  exact ⟨_,rfl,_,c0,hq⟩
 refine hps ⟨_,rfl,?_⟩
 apply s0
 unfold DM A0 sV lV
 refine ⟨_,_,_,rfl,?_⟩
 have fp:=(Fr.push [] H (.cells (aZ br).toArray 9))
 have hN:Rd 1 (H.push (.cells (aZ br).toArray 9)) (some ⟨H.size,0,none⟩) 14 (aZ br):=by
  refine ⟨rfl,(fun h=>by cases h),fun p hp k hk=>?_⟩
  cases hp
  rw [ak,Nat.zero_add,(aV.new H _ _).cell]
  simp
 have hNo:sE (H.push (.cells (aZ br).toArray 9)) (some ⟨H.size,0,none⟩) F:=fun p hp=>by
  cases hp
  exact ⟨by simp,fun hm=>absurd (hK.lt _ hm) (Nat.lt_irrefl _)⟩
 have hK1:=hK.nil fp
 have hB1:HB (H.push (.cells (aZ br).toArray 9)) b sb0 hb:=HB.nil hB fp
 show ∃(I8:List Value->ae->Prop) (μ8:List Value->ae->Nat),I8 [.int .i64 0] (H.push (.cells (aZ br).toArray 9))∧_
 generalize (H.push (.cells (aZ br).toArray 9))=H0 at fp hN hNo hK1 hB1 ⊢
 refine ⟨fun w H'=>∃(i:Nat) (F':az),w=[.int .i64 i]∧i<=14∧PK H' b F' { s with h:=gN s.h i } ⟨4096,br.take i⟩∧HB H' b sb0 hb∧Up F H0 F' H',fun w _=>match w with
  | [.int _ i]=>(14-i).toNat
  | _=>0,⟨0,F,rfl,by decide,hK1,hB1,Up.refl _ _⟩,?_⟩
 rintro w H3 ⟨i,F3,rfl,hi,hK3,hB3,hu3⟩ _
 refine ⟨_,rfl,?_⟩
 rw [af]
 refine aA (fun hlt=>?_) fun hlt=>?_
 ·have hlt':i<br.length:=by omega
  obtain ⟨p,hlt2,hp,hcell⟩:=(hNo.rd hu3 hN).str (i:=(i:Int)) (by omega) (by omega)
  cases hp
  simp only [Int.toNat_natCast] at hcell hlt2
  have e1:IntKind.wrap .i64 ((i:Int)+1)=((i+1:Nat):Int):=by rw [ah (by omega) (by omega)];omega
  have e1':IntKind.wrap .i64 ((i:Int)+1)=(i:Int)+1:=ah (by omega) (by omega)
  have e4:IntKind.wrap .i64 (4+(i:Int))=4+(i:Int):=ah (by omega) (by omega)
  obtain ⟨tb,F4,hc4,hT4,hup4⟩:=PK.tbB hK3 hB3
  refine ⟨⟨by omega,hlt⟩,_,rfl,_,by rw [Int.toNat_natCast,Nat.mul_one];exact hcell,_,rfl,_,hc4,mQ hT4 fun H4 F4' hT4' hu4=>⟨_,_,rfl,?_⟩⟩
  rw [xo hlt'] at hT4' ⊢
  obtain ⟨⟨F5,hK5,hu5⟩,hB5⟩:=hup4 H4 F4' _ hT4' hu4
  refine tA ⟨by simp only;omega,by simp only;omega⟩ ⟨_,_,rfl,bV (by decide) ⟨_,rfl,?_⟩⟩
  refine ⟨fun w H'=>w=[.int .i64 (if i=0 then 4 else 16)]∧H'=H4,?_,?_⟩
  ·rw [aU,af]
   refine aA (fun h0=>bV (by decide) ⟨_,rfl,?_,rfl⟩) fun h0=>⟨?_,rfl⟩
   ·rw [if_pos (by omega)];rfl
   ·rw [if_neg (by omega)];rfl
  rintro w H4' ⟨rfl,rfl⟩ _
  refine ⟨_,rfl,bV (by decide) ⟨_,rfl,bV (by decide) ⟨_,rfl,bV (by decide) ⟨_,rfl,gD (by decide) ⟨_,rfl,?_⟩⟩⟩⟩⟩
  rw [e1',e4]
  refine gD ⟨by omega,by omega⟩ ⟨_,rfl,?_⟩
  have fq:=(Fr.push [] H4' (.cells (aj (cX i)).toArray 24))
  have hW:Rd 1 (H4'.push (.cells (aj (cX i)).toArray 24)) (some ⟨H4'.size,0,none⟩) 7 (aj (cX i)):=kI (cs:=cX i)
  have hWo:sE (H4'.push (.cells (aj (cX i)).toArray 24)) (some ⟨H4'.size,0,none⟩) F5:=fun p hp=>by
   cases hp
   exact ⟨by simp,fun hm=>absurd (hK5.lt _ hm) (Nat.lt_irrefl _)⟩
  have hK6:=hK5.nil fq
  have hB6:HB (H4'.push (.cells (aj (cX i)).toArray 24)) b sb0 hb:=HB.nil hB5 fq
  show ∃(I38:List Value->ae->Prop) (μ38:List Value->ae->Nat),I38 [.int .i64 0] (H4'.push (.cells (aj (cX i)).toArray 24))∧_
  generalize (H4'.push (.cells (aj (cX i)).toArray 24))=H6 at fq hW hWo hK6 hB6 ⊢
  refine ⟨fun w H'=>∃(k:Nat) (r:RH),w=[.int .i64 k]∧k<=7∧PK H' b F5 { s with h:=r } ⟨4096,br.take (i+1)⟩∧HB H' b sb0 hb∧Fr F5 H6 H'∧r.lay (4+i) k ((cX i).drop k)=(gN s.h i).lay (4+i) 0 (cX i)∧∀ j x,al r.objs j=some x->x.fmt=0,fun w _=>match w with
   | [.int _ k]=>(7-k).toNat
   | _=>0,⟨0,gN s.h i,rfl,by decide,hK6,hB6,Fr.refl _ _,rfl,mf hfmt i⟩,?_⟩
  rintro w H7 ⟨k,r,rfl,hk7,hK7,hB7,hf7,hlay,hr⟩ _
  refine ⟨_,rfl,?_⟩
  rw [af]
  refine aA (fun hkl=>?_) fun hkl=>?_
  ·have hkl':k<(cX i).length:=by show k<7;omega
   obtain ⟨p,hp,hcell,hlt3⟩:=(hW.fr' hf7 fun p hp=>(hWo p hp).2).int (i:=(k:Int)) (by omega) (by omega)
   cases hp
   rw [Int.toNat_natCast] at hcell hlt3
   have hx:(cX i).getD k 0=(cX i)[k]:=by simp [hkl']
   rw [hx] at hcell
   have ed:(cX i).drop k=(cX i)[k] :: (cX i).drop (k+1):=List.drop_eq_getElem_cons hkl'
   have ek:IntKind.wrap .i64 ((k:Int)+1)=((k+1:Nat):Int):=by rw [ah (by omega) (by omega)];omega
   obtain ⟨F8,hR8,hsub8,hup8⟩:=PK.hp hK7 hB7
   refine ⟨⟨by omega,hkl⟩,_,rfl,_,by rw [Int.toNat_natCast,Nat.mul_one];exact hcell,kl hR8 (hr _) fun H9 hR9 hf9=>⟨_,rfl,?_⟩⟩
   obtain ⟨hK9,hB9⟩:=hup8 H9 _ hR9 hf9
   rw [ek]
   refine ⟨⟨k+1,(r.put (4+i) k (cX i)[k]).2,rfl,by omega,hK9,hB9,hf7.trans (hf9.mono hsub8),?_,jS hr _ _ _⟩,by simp;omega⟩
   rw [←hlay,ed]
   rfl
  ·have hk:k=7:=by omega
   subst hk
   have hz:(cX i).drop 7=[]:=rfl
   rw [hz] at hlay
   simp only [RH.lay] at hlay
   subst hlay
   refine bV ⟨by omega,by omega⟩ ⟨_,rfl,?_⟩
   obtain ⟨F8,hR8,hsub8,hup8⟩:=PK.hp hK7 hB7
   refine kl hR8 (hr _) fun H9 hR9 hf9=>⟨_,rfl,?_⟩
   obtain ⟨hK9,hB9⟩:=hup8 H9 _ hR9 hf9
   rw [show (i:Int)+1=((i+1:Nat):Int) by omega]
   refine ⟨⟨i+1,F5,rfl,by omega,hK9,hB9,?_⟩,by simp;omega⟩
   exact (hu3.trans hu5).trans ((Up.of_nil fq).trans ⟨hf7.trans (hf9.mono hsub8),fun _ h=>.inl h⟩)
 ·have hi14:i=14:=by omega
  subst hi14
  have fq:=(Fr.push [] H3 (.cells (aj [20,18,18,18,1,2,3]).toArray 3))
  have hW:Rd 1 (H3.push (.cells (aj [20,18,18,18,1,2,3]).toArray 3)) (some ⟨H3.size,0,none⟩) 7 (aj [20,18,18,18,1,2,3]):=kI (cs:=[20,18,18,18,1,2,3])
  have hWo:sE (H3.push (.cells (aj [20,18,18,18,1,2,3]).toArray 3)) (some ⟨H3.size,0,none⟩) F3:=fun p hp=>by
   cases hp
   exact ⟨by simp,fun hm=>absurd (hK3.lt _ hm) (Nat.lt_irrefl _)⟩
  have hK6:=hK3.nil fq
  have hB6:HB (H3.push (.cells (aj [20,18,18,18,1,2,3]).toArray 3)) b sb0 hb:=HB.nil hB3 fq
  show ∃(I38:List Value->ae->Prop) (μ38:List Value->ae->Nat),I38 [.int .i64 0] (H3.push (.cells (aj [20,18,18,18,1,2,3]).toArray 3))∧_
  generalize (H3.push (.cells (aj [20,18,18,18,1,2,3]).toArray 3))=H6 at fq hW hWo hK6 hB6 ⊢
  refine ⟨fun w H'=>∃(k:Nat) (r:RH),w=[.int .i64 k]∧k<=7∧PK H' b F3 { s with h:=r } bZ∧HB H' b sb0 hb∧Fr F3 H6 H'∧r.lay 19 k (nW.drop k)=cY s.h∧∀ j x,al r.objs j=some x->x.fmt=0,fun w _=>match w with
   | [.int _ k]=>(7-k).toNat
   | _=>0,⟨0,gN s.h 14,rfl,by decide,by rw [show bZ=⟨4096,br.take 14⟩ from rfl];exact hK6,hB6,Fr.refl _ _,by rw [cY];rfl,mf hfmt 14⟩,?_⟩
  rintro w H7 ⟨k,r,rfl,hk7,hK7,hB7,hf7,hlay,hr⟩ _
  refine ⟨_,rfl,?_⟩
  rw [af]
  refine aA (fun hkl=>?_) fun hkl=>?_
  ·have hkl':k<7:=by omega
   obtain ⟨p,hp,hcell,hlt3⟩:=(hW.fr' hf7 fun p hp=>(hWo p hp).2).int (i:=(k:Int)) (by omega) (by omega)
   cases hp
   rw [Int.toNat_natCast] at hcell hlt3
   have ek:IntKind.wrap .i64 ((k:Int)+1)=((k+1:Nat):Int):=by rw [ah (by omega) (by omega)];omega
   have hx:1<=([20,18,18,18,1,2,3]:List Int).getD k 0∧([20,18,18,18,1,2,3]:List Int).getD k 0<=65536∧nW.drop k=4*([20,18,18,18,1,2,3]:List Int).getD k 0 :: nW.drop (k+1):=by
    rcases k with _ | _ | _ | _ | _ | _ | _ | k
    all_goals first | exact ⟨by decide,by decide,by decide⟩ | omega
   obtain ⟨F8,hR8,hsub8,hup8⟩:=PK.hp hK7 hB7
   refine ⟨⟨by omega,hkl⟩,_,rfl,_,by rw [Int.toNat_natCast,Nat.mul_one];exact hcell,bV ⟨hx.1,hx.2.1⟩ ⟨_,rfl,kl hR8 (hr _) fun H9 hR9 hf9=>⟨_,rfl,?_⟩⟩⟩
   obtain ⟨hK9,hB9⟩:=hup8 H9 _ hR9 hf9
   rw [ek]
   refine ⟨⟨k+1,_,rfl,by omega,hK9,hB9,hf7.trans (hf9.mono hsub8),?_,jS hr _ _ _⟩,by simp;omega⟩
   rw [←hlay,hx.2.2]
   rfl
  ·have hk:k=7:=by omega
   subst hk
   have hz:nW.drop 7=[]:=rfl
   rw [hz] at hlay
   have hlay':r=cY s.h:=hlay
   rw [hlay'] at hK7
   have hu7:Up F3 H3 F3 H7:=(Up.of_nil fq).trans ⟨hf7,fun _ h=>.inl h⟩
   have hu9:Up F H F3 H7:=((Up.of_nil fp).trans hu3).trans hu7
   exact h H7 F3 hK7 hB7 hu9
end
def ch:List (Int × Int)->List Value
 | []=>[]
 | (c,n) :: l=>.int .i64 c :: .int .i64 n :: ch l
theorem iL (l m:List (Int × Int)):ch (l++m)=ch l++ch m:=by
 induction l with
 | nil=>rfl
 | cons x l ih=>obtain ⟨c,n⟩:=x;simp [ch,ih]
theorem sm (l:List (Int × Int)):(ch l).length=2*l.length:=by
 induction l with
 | nil=>rfl
 | cons x l ih=>obtain ⟨c,n⟩:=x;simp only [ch,List.length_cons,ih];omega
theorem sC (l:List (Int × Int)):∀ v∈ch l,dB v=true:=by
 induction l with
 | nil=>intro v hv;cases hv
 | cons x l ih =>
  obtain ⟨c,n⟩:=x
  intro v hv
  simp only [ch,List.mem_cons] at hv
  rcases hv with rfl | rfl | hv
  ·rfl
  ·rfl
  ·exact ih v hv
theorem ss {l:List (Int × Int)}{i:Nat} (h:i<l.length):(ch l)[i*2]?=some (.int .i64 l[i].1)∧(ch l)[i*2+1]?=some (.int .i64 l[i].2):=by
 induction l generalizing i with
 | nil=>simp at h
 | cons x l ih =>
  obtain ⟨c,n⟩:=x
  cases i with
  | zero=>simp [ch]
  | succ i =>
   have:=ih (i:=i) (by simpa using h)
   have e:(i+1)*2=i*2+2:=by omega
   rw [e]
   simpa [ch] using this
theorem la (r:RH) (x:Int × Int) (l:List (Int × Int)):r.allocAll (x :: l)=if (r.alloc (4*x.1) x.2 0).1.2≠0 then ((r.alloc (4*x.1) x.2 0).1.2,(r.alloc (4*x.1) x.2 0).2) else RH.allocAll (r.alloc (4*x.1) x.2 0).2 l:=by
 obtain ⟨c,n⟩:=x;rfl
theorem qZ (words oops:Int):cY (((bw words oops).allocAll aq).2)=bo words oops:=rfl
theorem rq {words oops:Int} (hz:((bw words oops).allocAll aq).1=0):((bw words oops).allocAll aq).2.objs=eE:=by
 rw [gT aq (r:=bw words oops) rfl hz];rfl
theorem rN {words oops:Int} (hw:WFH (bo words oops)) (hz:((bw words oops).allocAll aq).1=0):((bo words oops).clsAt 19).2=0:=by
 obtain ⟨x,hx,_⟩:=qr hw hz (p:=(19,[80,72,72,72,4,8,12,4])) (by decide)
 unfold RH.clsAt
 simp only at hx
 rw [hx]
attribute [local irreducible] bo cY eE
section
variable {H:ae}{Q:QT}
theorem pQ:∀ i (hi:i<aq.length),1<=(aq[i]).1∧(aq[i]).1<=65536:=by decide
theorem wJ {words oops:Int} (hk:bY H) (hbad:¬ (0<=words∧words<=1048576∧0<=oops∧oops<=65536)->Q (.tuple #[.pointer none,.int .i64 1]) H)
  (h1:(0<=words∧words<=1048576∧0<=oops∧oops<=65536)->((bw words oops).allocAll aq).1≠0->∀ H',Fr [] H H'->Q (.tuple #[.pointer none,.int .i64 ((bw words oops).allocAll aq).1]) H')
  (h2:(0<=words∧words<=1048576∧0<=oops∧oops<=65536)->((bw words oops).allocAll aq).1=0->∀ b F H',PK H' b F (dm words oops) bZ->Fr [] H H'->(∀ x∈F,H.size<=x)->Q (.tuple #[.pointer (some ⟨b,0,none⟩),.int .i64 0]) H') :
  ac PP Bk #[.int .i64 words,.int .i64 oops] Q H:=by
 have hs1:aH PP 135=some (2,16,some (.agg #[.int .i64 0,.int .i64 0])):=by kernel_rfl
 apply yM
 unfold EB A0 iV wW pV lV cS;dsimp only [shH]
 refine wQ hk (fun hb=>⟨_,_,rfl,hbad hb⟩) fun hg sb F1 H1 hS1 hf1 hF1=>⟨_,_,rfl,?_⟩
 simp only [show ((0:Int) != 0)=false from rfl,cond_false]
 have h1:=h1 hg
 have h2:=h2 hg
 refine uA (fun hb=>absurd ⟨by decide,by decide⟩ hb) fun _ tb F2 H2 hT2 hf2 hF2=>⟨_,_,rfl,?_⟩
 simp only [show ((0:Int) != 0)=false from rfl,cond_false]
 have hf12:=hf1.trans hf2
 have hS2:=hS1.nilfr hf2
 have hgl:=hk.lt
 have hK3:PK (H2.push (.cells #[.pointer (some ⟨sb,0,none⟩),.pointer (some ⟨tb,0,none⟩)] 84)) H2.size (H2.size :: (F1++F2)) ⟨bw words oops,0,[],false,0,0,0⟩ ⟨4096,[]⟩:=by
  have fp:=Fr.push [] H2 (.cells #[.pointer (some ⟨sb,0,none⟩),.pointer (some ⟨tb,0,none⟩)] 84)
  have l1:=hS2.lt
  have l1':=hS1.lt
  have l2:=hT2.lt
  refine ⟨sb,tb,F1,F2,rfl,fun hm=>absurd (l1 _ hm) (Nat.lt_irrefl _),fun hm=>absurd (l2 _ hm) (Nat.lt_irrefl _),fun x hx hx2=>?_,?_,fun hm=>?_,aV.new _ _ _,hS2.nilfr fp,hT2.fr fp (co.nil_right _)⟩
  ·have:=hF2 x hx2;have:=l1' x hx;omega
  ·have:=hf12.1;omega
  ·have:=hF2 _ hm;have:=hf1.1;omega
 have hf3:Fr [] H (H2.push (.cells #[.pointer (some ⟨sb,0,none⟩),.pointer (some ⟨tb,0,none⟩)] 84)):=hf12.more
 have hF3:∀ x∈H2.size :: (F1++F2),H.size<=x:=fun x hx=>by
  rcases List.mem_cons.1 hx with rfl | hx
  ·exact hf12.1
  ·rcases List.mem_append.1 hx with hx | hx
   ·exact hF1 x hx
   ·exact Nat.le_trans hf1.1 (hF2 x hx)
 generalize hH3:(H2.push (.cells #[.pointer (some ⟨sb,0,none⟩),.pointer (some ⟨tb,0,none⟩)] 84))=H3 at hK3 hf3 ⊢
 generalize (H2.size :: (F1++F2))=F3 at hK3 hF3
 apply s0
 unfold DM A0 sV lV
 refine ⟨_,_,_,rfl,?_⟩
 have hlt3:=hK3.lt
 have hO0:bN 2 (H3.push (.cells (ch [(5,0),(6,0),(7,0)]).toArray 134)) (some ⟨H3.size,0,none⟩) 3 3 (ch [(5,0),(6,0),(7,0)]) [H3.size]:=⟨rfl,Nat.le_refl _,.inr ⟨H3.size,_,rfl,rfl,aV.new _ _ _,rfl,rfl⟩⟩
 have fq:Fr [] H3 (H3.push (.cells (ch [(5,0),(6,0),(7,0)]).toArray 134)):=Fr.push _ _ _
 generalize hH4:(H3.push (.cells (ch [(5,0),(6,0),(7,0)]).toArray 134))=H4 at hO0 fq
 have hO1:bN 2 (H4.push (.cells (aZ br).toArray 9)) (some ⟨H3.size,0,none⟩) 3 3 (ch [(5,0),(6,0),(7,0)]) [H3.size]:=hO0.fr (Fr.push [] _ _) (by simp)
 have fr1:Fr [] H3 (H4.push (.cells (aZ br).toArray 9)):=fq.more
 show ∃(I11:List Value->ae->Prop) (μ11:List Value->ae->Nat),I11 [.slice (some ⟨H3.size,0,none⟩) 3 3,.int .i64 0] ((H3.push (.cells (ch [(5,0),(6,0),(7,0)]).toArray 134)).push (.cells (aZ br).toArray 9))∧_
 rw [hH4]
 generalize (H4.push (.cells (aZ br).toArray 9))=H5 at hO1 fr1 ⊢
 refine ⟨fun w H'=>∃(i:Nat) (a:Option Addr) (l c:Nat) (G:az),w=[.slice a l c,.int .i64 i]∧i<=14∧bN 2 H' a l c (ch ([(5,0),(6,0),(7,0)]++List.replicate i (12,7))) G∧Fr [] H3 H'∧(∀ x∈G,H3.size<=x),fun w _=>match w with
  | [_,.int _ i]=>(14-i).toNat
  | _=>0,⟨0,_,_,_,_,rfl,by decide,hO1,fr1,by simp⟩,?_⟩
 rintro w H6 ⟨i,a,l,c,G,rfl,hi,ho,hf6,hG⟩ _
 have hl:l=3+i:=by have:=ho.len;rw [sm] at this;simp at this;omega
 refine ⟨_,_,_,_,rfl,?_⟩
 rw [af]
 refine aA (fun hlt=>?_) fun hlt=>?_
 ·have e1:IntKind.wrap .i64 ((i:Int)+1)=((i+1:Nat):Int):=by rw [ah (by omega) (by omega)];omega
  refine bI hs1 rfl (by kernel_rfl) ho rfl (by simp [dB]) (by omega) (by decide) (by decide) fun a' c' G2 H7 g1 g2 g3=>⟨_,_,_,rfl,?_⟩
  obtain ⟨f7,hG7⟩:=Up.fresh hf6 g2 hG
  rw [e1]
  refine ⟨⟨i+1,a',l+1,c',G2,rfl,by omega,?_,f7,hG7⟩,by simp;omega⟩
  rw [List.replicate_succ',←List.append_assoc,iL]
  exact g1
 have hi14:i=14:=by omega
 subst hi14
 have fl:Fr [] H6 (H6.push (.cells (ch [(11,0),(11,8),(11,14)]).toArray 134)):=Fr.push _ _ _
 refine cR (l2:=3) (ys:=ch [(11,0),(11,8),(11,14)]) hs1 rfl (by kernel_rfl) (ho.fr fl (by simp)) ⟨rfl,(fun h=>by cases h),fun p hp k hk'=>?_⟩ (sC _) (by omega) (by decide) (by decide) fun a' c' G2 H7 g1 g2 g3=>⟨_,_,_,rfl,?_⟩
 ·cases hp
  rw [ak,Nat.zero_add]
  exact ((aV.new H6 (ch [(11,0),(11,8),(11,14)]).toArray 134).cell k).trans (by simp)
 obtain ⟨f7,hG7⟩:=Up.fresh (hf6.trans fl) g2 hG
 rw [←iL] at g1
 have ep:[(5,0),(6,0),(7,0)]++List.replicate 14 (12,7)++[(11,0),(11,8),(11,14)]=aq:=rfl
 rw [ep] at g1
 subst hl
 have hr7:Rd 2 H7 a' 20 (ch aq):=g1.rd
 have ho7:sE H7 a' F3:=fun p hp=>by
  have hlt:=g1.lt
  rcases g1.2.2 with ⟨h3,_⟩ | ⟨b',cs,h3,h4,_⟩
  ·rw [h3] at hp;cases hp
  ·rw [h3] at hp;cases hp
   have hb':b'∈G2:=by rw [h4];simp
   exact ⟨hlt _ hb',fun hm=>by have h5:=hG7 _ hb';have h6:=hlt3 _ hm;simp only at h6;omega⟩
 have hK7:=hK3.nil f7
 have hc3:aa H3 ⟨H2.size,0,none⟩=some (.pointer (some ⟨sb,0,none⟩)):=by rw [←hH3];exact (aV.new H2 _ _).cell 0
 have hc7:aa H7 ⟨H2.size,0,none⟩=some (.pointer (some ⟨sb,0,none⟩)):=by rw [cr f7 (by simp) (eF hc3)];exact hc3
 have hf7:=hf3.trans f7
 have h20:aq.length=20:=rfl
 refine ⟨fun w H'=>∃(k:Nat) (r:RH) (st:List Int) (F':az),w=[.int .i64 k]∧k<=20∧PK H' H2.size F' ⟨r,0,st,false,0,0,0⟩ ⟨4096,[]⟩∧Up F3 H7 F' H'∧st.length=k∧aa H' ⟨H2.size,0,none⟩=some (.pointer (some ⟨sb,0,none⟩))∧r.allocAll (aq.drop k)=(bw words oops).allocAll aq,fun w _=>match w with
  | [.int _ k]=>(20-k).toNat
  | _=>0,⟨0,_,_,_,rfl,by decide,hK7,Up.refl _ _,rfl,hc7,rfl⟩,?_⟩
 rintro w H8 ⟨k,r,st,F8,rfl,hk20,hK8,hu8,hst,hcb,hall⟩ _
 refine ⟨_,rfl,?_⟩
 rw [af]
 refine aA (fun hlt=>?_) fun hlt=>?_
 ·have hkl:k<aq.length:=by omega
  have e1:IntKind.wrap .i64 ((k:Int)+1)=((k+1:Nat):Int):=by rw [ah (by omega) (by omega)];omega
  have hr8:Rd 2 H8 a' 20 (ch aq):=hr7.fr' hu8.1 fun p hp=>(ho7 p hp).2
  have hpb:=pQ k hkl
  obtain ⟨q0,q1⟩:=ss hkl
  have ed:aq.drop k=aq[k] :: aq.drop (k+1):=List.drop_eq_getElem_cons hkl
  rw [ed] at hall
  have hex:∃ q,a'=some q:=by
   cases ha:a' with
   | none=>have:=hr8.2.1 ha;omega
   | some q=>exact ⟨q,rfl⟩
  obtain ⟨q,rfl⟩:=hex
  have c0:=hr8.2.2 q rfl (k*2) (by omega)
  have c1:=hr8.2.2 q rfl (k*2+1) (by omega)
  rw [q0] at c0
  rw [q1] at c1
  have eadd:(q.add (k*2)).add 1=q.add (k*2+1):=Addr.add_add _ _ _
  refine ⟨⟨by omega,by omega⟩,_,rfl,_,by rw [Int.toNat_natCast];exact c0,_,by rw [Int.toNat_natCast,eadd];exact c1,?_⟩
  have fpx:Fr [] H8 (H8.push (.cells #[.int .i64 0,.int .i64 0] 134)):=Fr.push _ _ _
  have hBx:=aV.new H8 #[.int .i64 0,.int .i64 0] 134
  generalize (H8.push (.cells #[.int .i64 0,.int .i64 0] 134))=H9 at fpx hBx ⊢
  have hB9:=(hBx.set 0 (.int .i64 (aq[k]).1)).set 1 (.int .i64 (aq[k]).2)
  have f9:Fr [] H8 (aB (aB H9 ⟨H8.size,0,none⟩ (.int .i64 (aq[k]).1)) ⟨H8.size,1,none⟩ (.int .i64 (aq[k]).2)):=Fr.late (Fr.late fpx (Nat.le_refl _)) (Nat.le_refl _)
  refine ⟨hBx.wr (o:=0) (by simp),(hBx.set 0 _).wr (o:=1) (by simp),?_⟩
  show ∃ n25:Int,aa (aB (aB H9 ⟨H8.size,0,none⟩ (.int .i64 (aq[k]).1)) ⟨H8.size,1,none⟩ (.int .i64 (aq[k]).2)) ⟨H8.size,0,none⟩=some (.int .i64 n25)∧∃ n26:Int,aa (aB (aB H9 ⟨H8.size,0,none⟩ (.int .i64 (aq[k]).1)) ⟨H8.size,1,none⟩ (.int .i64 (aq[k]).2)) ⟨H8.size,1,none⟩=some (.int .i64 n26)∧ac PP qL _ _ (aB (aB H9 ⟨H8.size,0,none⟩ (.int .i64 (aq[k]).1)) ⟨H8.size,1,none⟩ (.int .i64 (aq[k]).2))
  generalize (aB (aB H9 ⟨H8.size,0,none⟩ (.int .i64 (aq[k]).1)) ⟨H8.size,1,none⟩ (.int .i64 (aq[k]).2))=HA at hB9 f9 ⊢
  have hKA:=hK8.nil f9
  obtain ⟨sbA,FA,hcA,hSA,hsubA,hbA,hupA,hupA2⟩:=hKA.sp
  have esb:sbA=sb:=by rw [cr f9 (by simp) (eF hcb),hcb] at hcA;simpa using hcA.symm
  subst esb
  refine ⟨_,hB9.cell 0,_,hB9.cell 1,cB hSA fun hb FB hRB hsubB hupB=>⟨_,rfl,⟨⟨hB9.cell 1,trivial⟩,⟨hB9.cell 0,trivial⟩,trivial⟩,bV hpb ⟨_,rfl,⟨⟨hB9.cell 1,trivial⟩,trivial⟩,nr hRB fun HB' hRB' hfB=>⟨_,_,rfl,trivial,?_⟩⟩⟩⟩
  have hSB:=hupB HB' _ hRB' hfB
  have hKB:=hupA2 HB' _ hSB (hfB.mono hsubB)
  have huB:Up F8 HA F8 HB':=⟨(hfB.mono hsubB).mono hsubA,fun _ h=>.inl h⟩
  have hu8B:Up F3 H7 F8 HB':=hu8.trans ((Up.of_nil f9).trans huB)
  rw [la] at hall
  rw [aX,af]
  refine aA (fun he=>?_) fun he=>?_
  ·rw [if_pos he] at hall
   have e0:((bw words oops).allocAll aq).1=(r.alloc (4*(aq[k]).1) (aq[k]).2 0).1.2:=by rw [←hall]
   have:=h1 (by rw [e0];exact he) HB' ?_
   ·rw [e0] at this;exact this
   ·exact (Up.fresh hf7 hu8B hF3).1
  rw [if_neg he] at hall
  have hz:(r.alloc (4*(aq[k]).1) (aq[k]).2 0).1.2=0:=Classical.byContradiction he
  have hob:=fo hK8.wfs.h hz
  refine bV ⟨hob.2.1,hob.2.2.1⟩ ⟨_,rfl,?_⟩
  have fpy:Fr [] HB' (HB'.push (.cells #[.int .i64 (4*(r.alloc (4*(aq[k]).1) (aq[k]).2 0).1.1)] 24)):=Fr.push _ _ _
  have hKC:=hKB.nil fpy
  obtain ⟨sbC,FC,hcC,hSC,hsubC,hbC,hupC,_⟩:=hKC.sp
  have hcB':aa HB' ⟨H2.size,0,none⟩=some (.pointer (some ⟨sbA,0,none⟩)):=by rw [cr hfB (fun hm=>hbA (hsubB _ hm)) (eF hcA)];exact hcA
  have hcP:=cr fpy (b:=H2.size) (o:=0) (by simp) (eF hcB')
  rw [hcB'] at hcP
  have esb:sbC=sbA:=by rw [hcP] at hcC;simpa using hcC.symm
  subst esb
  have hkw:=lB (s:=⟨(r.alloc (4*(aq[k]).1) (aq[k]).2 0).2,0,st,false,0,0,0⟩) (cq hob.2.1 hob.2.2.1) (by show st.length<65536;omega)
  refine kh hSC (kI (cs:=[4*(r.alloc (4*(aq[k]).1) (aq[k]).2 0).1.1])) (by decide) fun HD FD hSD huD=>⟨_,rfl,?_⟩
  rw [hkw] at hSD ⊢
  simp only [show ((0:Int) != 0)=false from rfl,cond_false]
  obtain ⟨FE,hKE,huE⟩:=hupC HD FD _ hSD huD
  rw [e1]
  exact ⟨⟨k+1,_,_,FE,rfl,by omega,hKE,hu8B.trans ((Up.of_nil fpy).trans huE),by simp [hst],by rw [cr huD.1 hbC (eF hcC)];exact hcC,hall⟩,by simp;omega⟩
 ·have hk20':k=20:=by omega
  subst hk20'
  have ez:aq.drop 20=[]:=rfl
  rw [ez] at hall
  have hall':(0,r)=(bw words oops).allocAll aq:=hall
  have hz:((bw words oops).allocAll aq).1=0:=by rw [←hall']
  have hrr:r=((bw words oops).allocAll aq).2:=by rw [←hall']
  have hbH:cY r=bo words oops:=by rw [hrr];exact qZ _ _
  have hro:r.objs=eE:=by rw [hrr];exact rq hz
  obtain ⟨sb8,F9,hc8,hS8,_⟩:=hK8.sp
  obtain ⟨hb8,_,_,hcx,_⟩:=hS8.upd
  have esb8:sb8=sb:=by rw [hcb] at hc8;simpa using hc8.symm
  subst esb8
  refine yH hK8 ⟨hc8,hcx⟩ (fun j x hx=>?_) fun H9 FA hKA hBA huA=>⟨rfl,?_⟩
  ·rw [hro] at hx
   exact of_decide_eq_true (List.all_eq_true.1 ro x (au hx).1)
  have hKA':PK H9 H2.size FA ⟨bo words oops,0,st,false,0,0,0⟩ bZ:=by rw [←hbH];exact hKA
  obtain ⟨sbA,F10,hcA,hSA,hsubA,hbA,_,hupA⟩:=hKA'.sp
  have esb:sbA=sb8:=by have:=hBA.1;rw [hcA] at this;simpa using this
  subst esb
  have hwf:WFH (bo words oops):=hKA'.wfs.h
  have hcl:((bo words oops).clsAt 19).2=0:=rN hwf hz
  refine rt hSA fun HB hSB hfB=>⟨_,rfl,?_⟩
  have ecr:(SP.crown ⟨bo words oops,0,st,false,0,0,0⟩ 19)=(0,⟨bo words oops,19,st,false,0,0,0⟩):=by
   unfold SP.crown
   rw [if_neg (by simpa using hcl)]
  rw [ecr] at hSB
  have hKB:=hupA HB _ hSB hfB
  obtain ⟨sbB,F11,hcB,hSB',hsubB,_,_,hupB⟩:=hKB.sp
  have esb:sbB=sbA:=by rw [cr hfB hbA (eF hcA),hcA] at hcB;simpa using hcB.symm
  subst esb
  refine oq hSB' ⟨by decide,by decide⟩ fun HC hSC hfC=>⟨_,rfl,?_⟩
  have edr:(SP.drop ⟨bo words oops,19,st,false,0,0,0⟩ ((20:Nat):Int))=(0,dm words oops):=by
   unfold SP.drop
   rw [if_neg (by simp only [hst];decide)]
   simp [hst,dm]
  have e20:((3+14+3:Nat):Int)=((20:Nat):Int):=rfl
  rw [edr] at hSC
  have hKC:=hupB HC _ hSC hfC
  have huC:Up F3 H7 FA HC:=(hu8.trans huA).trans ⟨(hfB.mono hsubA).trans (hfC.mono hsubB),fun _ h=>.inl h⟩
  have:=Up.fresh hf7 huC hF3
  exact h2 hz H2.size FA HC hKC this.1 this.2
end
end Go.Proofs.YtgcoppcogllpbaaGreatDoor
namespace Kw
open Go
def fY (l:List (Int × Int)):Int:=(l.map fun p=>2+p.2).sum
theorem lk:∀ (l:List (Int × Int)){r:RH}{k:Nat}{m:Int},RoomyK r (k+l.length) (m+fY l)->0<=m->(∀ p∈l,1<=p.1∧p.1<=65536∧0<=p.2∧p.2<=8192)->(r.allocAll l).1=0∧RoomyK (r.allocAll l).2 k m:=by
 intro l
 induction l with
 | nil=>intro r k m h _ _;exact ⟨rfl,h.less (by simp) (by simp [fY])⟩
 | cons p l ih =>
  intro r k m h hm hp
  obtain ⟨c,n⟩:=p
  obtain ⟨h1,h2,h3,h4⟩:=hp (c,n) (by simp)
  simp only at h1 h2 h3 h4
  have hi:cW (4*c):=cq h1 h2
  have hpos:0<=fY l:=by
   have:∀ l:List (Int × Int),(∀ p∈l,0<=p.2)->0<=fY l:=by
    intro l
    induction l with
    | nil=>intro _;simp [fY]
    | cons q l ih2 =>
     intro h
     have a1:=h q (by simp)
     have a2:=ih2 fun x hx=>h x (by simp [hx])
     unfold fY at a2 ⊢
     simp only [List.map_cons,List.sum_cons]
     omega
   exact this l fun q hq=>(hp q (by simp [hq])).2.2.1
  have hlen:lenOf n 0=2+n:=by unfold lenOf;rw [if_neg (by decide)]
  have hR:RoomyK r ((k+l.length)+1) ((m+fY l)+lenOf n 0):=by
   rw [hlen]
   refine h.less (by simp only [List.length_cons];omega) ?_
   unfold fY
   simp only [List.map_cons,List.sum_cons]
   omega
  obtain ⟨e1,hr⟩:=fx (cls:=4*c) hR (by omega) hi (.inl rfl) h3 h4
  unfold RH.allocAll
  have e0:(r.alloc (4*c) n 0).1.2=0:=by rw [e1]
  rw [if_neg (by rw [e0];simp)]
  exact ih hr hm fun q hq=>hp q (by simp [hq])
theorem pH {k:Nat}{m:Int}:∀ (n:Nat){r:RH},RoomyK r k m->RoomyK (gN r n) k m:=by
 intro n
 induction n with
 | zero=>intro r h;exact h
 | succ n ih =>
  intro r h
  unfold gN xW
  exact fQ (km (ih h) _ _ _) _ _ _
theorem jf {words oops:Int}{k:Nat}{m:Int} (hw:words=160+m) (ho:oops=20+k) (hm:0<=m):((bw words oops).allocAll aq).1=0∧RoomyK (bo words oops) k m:=by
 have h0:RoomyK (bw words oops) (k+aq.length) (m+fY aq):=by
  refine ⟨rfl,?_,?_⟩
  ·show ((0:Nat):Int)+((k+20:Nat):Int)<=oops
   omega
  ·show (0:Int)+(m+fY aq)<=words
   have:fY aq=160:=by decide
   omega
 obtain ⟨e1,e2⟩:=lk aq h0 hm (by decide)
 refine ⟨e1,?_⟩
 unfold bo cY
 exact km (pH 14 e2) _ _ _
abbrev cM:ByteArray:=⟨#[80,97,105,114]⟩
abbrev jh:ByteArray:=⟨#[79,98,106,101,99,116]⟩
abbrev xB:ByteArray:=⟨#[120]⟩
abbrev yB:ByteArray:=⟨#[121]⟩
theorem i1 {lo hi:Nat}{s:ByteArray} (h1:1<=s.size) (h2:s.size<=32) (h3:lo<=gB s 0) (h4:gB s 0<=hi) (h:(List.range s.size).all (fun i=>decide (cJ (gB s i)))=true):fD lo hi s :=
 ⟨h1,h2,h3,h4,fun i hi=>by simpa using List.all_eq_true.1 h i (List.mem_range.2 hi)⟩
theorem qu {words oops:Int} (hb:KAll (dm words oops) bZ bm):iU bm bZ cM jh [xB,yB]=(4,0):=by
 have hf:bL bm 0=[]:=hb.ks.fields0 (by decide)
 have n1:fD 65 90 cM:=i1 (by decide) (by decide) (by decide) (by decide) (by decide)
 have f1:eI xB:=⟨by decide,i1 (by decide) (by decide) (by decide) (by decide) (by decide)⟩
 have f2:eI yB:=⟨by decide,i1 (by decide) (by decide) (by decide) (by decide) (by decide)⟩
 have e1:dH bm bZ cM=(0,130):=by decide
 have e2:dH bm bZ jh=(4,0):=by decide
 have e3:jD bm 4=some 0:=by decide
 have t1:¬ gz bm bZ cM:=by
  unfold gz
  rw [e1]
  rintro (h | h)
  ·simp at h
  ·simp [dZ,bm] at h
 have o1:jW ([]:List ByteArray) [] [xB,yB]=0:=by
  unfold jW jW jW
  rw [if_neg (fun h=>h f1),if_neg (by simp),if_neg (by simp),if_neg (fun h=>h f2),if_neg (by simp),if_neg (by simp)]
 unfold iU
 rw [if_neg (fun h=>h n1),if_neg t1,e2,if_neg (by simp)]
 simp only [e3]
 rw [if_neg (by omega),hf]
 simp only [List.map_nil,o1]
 rw [if_neg (by simp),if_neg (by simp),if_neg (by decide)]
end Kw
namespace Kw
open Go
attribute [local irreducible] bo cY eE
theorem rX {words oops:Int}{k:Nat}{m:Int} (hw:words=160+(m+30)) (ho:oops=20+((k+3:Nat):Int)) (hm:0<=m) (h1:words<=1048576) (h2:oops<=65536) :
  (bf (dm words oops) bm bZ cM jh [xB,yB]).1.2=0∧RoomyK (bf (dm words oops) bm bZ cM jh [xB,yB]).2.1.h k m∧(bf (dm words oops) bm bZ cM jh [xB,yB]).2.2.texts.length<=17∧(bf (dm words oops) bm bZ cM jh [xB,yB]).2.2.most=4096 ∧
  ∃ n ns l d,KAll (bf (dm words oops) bm bZ cM jh [xB,yB]).2.1 (bf (dm words oops) bm bZ cM jh [xB,yB]).2.2 (bm.addC ⟨(bf (dm words oops) bm bZ cM jh [xB,yB]).1.1,n,4,ns,l,18,18,[],[],0⟩ d):=by
 obtain ⟨e0,hR⟩:=jf (k:=k+3) (m:=m+30) hw ho (by omega)
 have hb:=mU (words:=words) (oops:=oops) (by omega) h1 (by omega) h2 e0
 have hd:=qu hb
 have e:bf (dm words oops) bm bZ cM jh [xB,yB]=bn (dm words oops) bZ bm.clsW cM 4 [xB,yB]:=by
  unfold bf
  rw [if_neg (by rw [hd];simp),hd]
 rw [e]
 have g1:bi cM:=by decide
 have g2:∀ s∈[xB,yB],bi s:=by
  intro s hs
  simp only [List.mem_cons,List.not_mem_nil,or_false] at hs
  rcases hs with rfl | rfl <;> decide
 obtain ⟨a1,a2,a3,a4⟩:=nh (k:=k) (m:=m) hb.ks (by rw [hb.stack];decide) hb.names.wf (up:=4) (by decide) (by decide) g1 g2 (by decide) (by decide) (by
  have:bm.cls.length=14:=rfl
  rw [this]
  have h2l:([xB,yB]:List ByteArray).length=2:=rfl
  rw [h2l]
  exact hR.less (by omega) (by omega)) hm
 have hno:∀ c∈bm.cls,tx bZ c.name≠cM:=by decide
 have hk:=(pq hb (j:=0) (by decide) (by decide) (name:=cM) (own:=[xB,yB]) hno).2
 have e4:(bm.cls[0]'(by decide)).oop=4:=rfl
 rw [e4] at hk
 obtain ⟨n,ns,l,d,hall,_⟩:=hk a1
 exact ⟨a1,a2,a3,a4,n,ns,l,d,hall⟩
end Kw
namespace Kw
open Go
theorem yR (s:SP) (n:Int):(s.drop n).2.h=s.h:=by
 unfold SP.drop
 split <;> rfl
theorem rY {s:SP}{r:RH}{P:Int->Prop} (h:bd r s.h P) (t:TB) (m c k e:Int):bd r (mO s t m c k e).1.h P:=by
 unfold mO
 split
 ·rw [yR];exact h
 ·show bd r (if e=24 then s.h else (s.h.marks m).2) P
  split
  ·exact h
  ·exact h.trans ((ge m).mono fun _ _=>trivial)
attribute [local irreducible] bo
end Kw
namespace Kw
open Go
attribute [local irreducible] bo cY eE
def CO (r:RH):Prop:=∃ x,al r.objs 10=some x∧x.cls=48∧x.fmt=0∧x.slots.length=7
theorem CO.keep {r r':RH}{P:Int->Prop} (h:CO r) (hk:bd r r' P) (hp:P 10):CO r':=by
 obtain ⟨x,h1,h2,h3,h4⟩:=h
 obtain ⟨y,g1,g2,g3,g4⟩:=hk 10 hp x h1
 exact ⟨y,g1,g2.trans h2,g3.trans h3,by rw [g4];exact h4⟩
theorem CO.same1 {r r':RH}{k:Int} (h:CO r) (hs:dR r r' k) (hk:k≠10):CO r':=by
 obtain ⟨x,h1,h2⟩:=h
 exact ⟨x,by rw [hs 10 (Ne.symm hk)];exact h1,h2⟩
theorem CO.str {r:RH}{k:Int}{xs:List Int} (h:CO r) (hs:bU r k xs):k≠10:=by
 rintro rfl
 obtain ⟨x,h1,h2,h3,_⟩:=h
 obtain ⟨o,g1,g2,_⟩:=hs
 rw [h1] at g1
 cases g1
 omega
section
attribute [local semireducible] bo cY eE
theorem tQ (w o m b t:Int):(match al (cY ⟨w,o,m,b,t,eE⟩).objs 10 with | some x=>decide (x.cls=48) && decide (x.fmt=0) && decide (x.slots.length=7) | none=>false)=true:=by kernel_rfl
end
theorem wO {words oops:Int} (h:((bw words oops).allocAll aq).1=0):CO (bo words oops):=by
 have e:=j0 h
 have h1:=tQ words oops 0 20 0
 rw [←e] at h1
 split at h1
 ·rename_i x hx
  simp only [Bool.and_eq_true,decide_eq_true_eq] at h1
  exact ⟨x,hx,h1.1.1,h1.1.2,h1.2⟩
 ·cases h1
theorem xG {words oops:Int}{k:Nat}{m:Int} (hw:words=160+(m+30)) (ho:oops=20+((k+3:Nat):Int)) (hm:0<=m) (h1:words<=1048576) (h2:oops<=65536) :
  CO (bf (dm words oops) bm bZ cM jh [xB,yB]).2.1.h:=by
 obtain ⟨e0,_⟩:=jf (k:=k+3) (m:=m+30) hw ho (by omega)
 have hb:=mU (words:=words) (oops:=oops) (by omega) h1 (by omega) h2 e0
 have hd:=qu hb
 have e:bf (dm words oops) bm bZ cM jh [xB,yB]=bn (dm words oops) bZ bm.clsW cM 4 [xB,yB]:=by
  unfold bf
  rw [if_neg (by rw [hd];simp),hd]
 rw [e]
 have D:=qN hb.ks (by rw [hb.stack];decide) (j:=0) (by decide) (by decide) hb.names.wf cM [xB,yB]
 have e4:(bm.cls[0]'(by decide)).oop=4:=rfl
 rw [e4] at D
 unfold bn
 refine (wO e0).keep (rY D.keep _ _ _ _ _) ⟨?_,by decide⟩
 have hr:=hb.ks.reach
 have hmem:((10,(bm.cls[6]'(by decide)).slots 6):ll)∈bm.roles:=by
  unfold KV.roles
  simp only [List.mem_cons]
  refine .inr (.inr (.inr (.inr (.inr ?_))))
  decide +kernel
 exact hr _ hmem
theorem rl {s:SP}{t:TB}{v:KV} (hv:KAllW s t v){l:Nat} (hl:l<=8192){n:Nat}{m:Int} (hR:RoomyK s.h (n+1) (m+lenOf l 1)) (hm:0<=m) :
  ∃ k s',s.alloc (4*10) l 1=((4*k,0),s')∧KAllW s' t v∧s'.stack=s.stack∧bU s'.h k (List.replicate l 0)∧dR s.h s'.h k∧al s.h.objs k=none∧1<=k∧k<=65536∧RoomyK s'.h n m:=by
 have hi:cW (4*10):=by decide
 obtain ⟨e1,e2,hr⟩:=gb (cls:=4*10) hR hm hi (.inr rfl) (by omega) (by omega)
 have ha:=fo hv.ks.wf.h e2
 obtain ⟨e3,_⟩:=fx (cls:=4*10) hR hm hi (.inr rfl) (by omega) (by omega)
 have k1:=ha.1
 have k2:=ha.2.1
 have k3:=ha.2.2.1
 have hs:bU (s.h.alloc (4*10) (l:Int) 1).2 (s.h.alloc (4*10) (l:Int) 1).1.1 (List.replicate l 0):=by
  rw [e3] at k1 ⊢
  refine ⟨bF s.h (4*10) l 1,?_,rfl,rfl,?_⟩
  ·show al (s.h.objs++[bF s.h (4*10) l 1]) (bk s.h.objs)=_
   rw [bP,k1]
   simp [bF]
  ·simp [bF]
 have hsame:dR s.h (s.h.alloc (4*10) (l:Int) 1).2 (s.h.alloc (4*10) (l:Int) 1).1.1:=by
  intro j hj
  rw [e3] at hj ⊢
  show al (s.h.objs++[bF s.h (4*10) l 1]) j=_
  rw [bP]
  cases al s.h.objs j with
  | some x=>rfl
  | none =>
   have:¬ (bF s.h (4*10) (l:Int) 1).oop=j:=fun e=>hj e.symm
   simp only
   rw [if_neg this]
 exact ⟨_,_,e1,⟨hv.ks.allocS (by decide) _ _,hv.names,hv.top⟩,rfl,hs,hsame,k1,k2,k3,hr⟩
theorem bU.same1 {r r':RH}{k j:Int}{xs:List Int} (h:bU r j xs) (hs:dR r r' k) (hk:j≠k):bU r' j xs:=by
 obtain ⟨o,h1,h2⟩:=h
 exact ⟨o,by rw [hs j hk];exact h1,h2⟩
theorem bU.at {r:RH}{k:Int}{xs:List Int} (h:bU r k xs):al r.objs k≠none:=by
 obtain ⟨o,h1,_⟩:=h
 rw [h1];simp
theorem bU.uniq {r:RH}{k:Int}{xs ys:List Int} (h:bU r k xs) (h':bU r k ys):xs=ys:=by
 obtain ⟨o,h1,_,_,rfl⟩:=h
 obtain ⟨o',h2,_,_,rfl⟩:=h'
 rw [h1] at h2
 cases h2;rfl
theorem tv {s:SP}{t:TB}{v:KV} (hv:KAllW s t v){k:Int}{xs:List Int} (hs:bU s.h k xs) (h1:1<=k) (h2:k<=65536){i:Nat} (hi:i<xs.length){w:Int} (hw:0<=w∧w<=255){n:Nat}{m:Int} (hR:RoomyK s.h n m) :
  ∃ s',s.putW (4*k) i w=(0,s')∧KAllW s' t v∧s'.stack=s.stack∧bU s'.h k (xs.set i w)∧dR s.h s'.h k∧RoomyK s'.h n m:=by
 obtain ⟨e1,e2⟩:=qp hs hi hw.1 hw.2
 refine ⟨{ s with h:=(s.h.put k i w).2 },?_,⟨hv.ks.putS hs _ _,hv.names,hv.top⟩,rfl,e2,jl _ _ _ _,fQ hR _ _ _⟩
 unfold SP.putW
 rw [dC h1 h2,e1]
theorem vw {s:SP}{t:TB}{v:KV} (hv:KAllW s t v){y:ByteArray} (hg:bi y) (hl:(t.texts.length:Int)<t.most) (hm:t.most=4096) :
  ∃ n:Nat,∃ t',t.add y=(((n:Int),0),t')∧KAllW s t' v∧t'.texts[n]?=some y∧n<4096∧t'.add y=(((n:Int),0),t'):=by
 have he:=kW hg hl
 obtain ⟨n,e1,e2,_⟩:=kn y he
 have w1:=fB hv.names.wf y
 have p1:=mP t y
 have hm1:=(jP t y).1
 have hms:=(jP t y).2
 have hn:=(List.getElem?_eq_some_iff.1 e2).1
 refine ⟨n,(t.add y).2,?_,⟨hv.ks,hv.names.grow w1 p1.2,hv.top⟩,e2,by omega,?_⟩
 ·rw [←e1,←he]
 ·have hno:bB (t.add y).2.texts y=some n:=qc hn (List.getElem?_eq_some_iff.1 e2).2 fun j hj hlt e=>by
   have h1:=List.pairwise_iff_getElem.1 w1.nodup j n hj hn hlt
   exact h1 (e.trans (List.getElem?_eq_some_iff.1 e2).2.symm)
  generalize (t.add y).2=t' at hno ⊢
  unfold TB.add
  rw [if_neg (fun e=>e hg),hno]
end Kw
namespace Go.Proofs.YtgcoppcogllpbaaGreatDoor
open Kw
attribute [local irreducible] bo cY eE
def qS (v:KV):Prop:=∃ oop n ns l d,v=bm.addC ⟨oop,n,4,ns,l,18,18,[],[],0⟩ d
section
variable {H:ae}{db:Nat}{D:az}{s:SP}{t:TB}{v:KV}{ws:List Int}{N:Nat}{Q:QT}
theorem sX (hD:SD H db D s t v ws N) (hN:N+1<60000){w:Int} (h:∀ H' D' s' ws',SD H' db D' s' t v ws' (N+1)->s'.h=s.h->Up D H D' H'->Q (.tuple #[]) H'):ac PP xU #[.pointer (some ⟨db,0,none⟩),.int .i64 w] Q H:=by
 have g1:=hD.st
 have g2:=hD.wl
 obtain ⟨k1,k2,k3⟩:=gE hD.all w (by omega)
 exact qk hD.dk (by omega) fun H' D' hD' u=>h H' D' _ _ ⟨hD',k1,by omega,by simp;omega⟩ k2 u
theorem uW {words oops:Int}{k:Nat}{m:Int} (hw:words=160+(m+30)) (ho:oops=20+((k+3:Nat):Int)) (hm:0<=m) (h1:words<=1048576) (h2:oops<=65536) (hk:bY H) (ht:fS H)
  (h:∀ H' db D s t v ws,SD H' db D s t v ws 10->RoomyK s.h k m->t.texts.length<=17->t.most=4096->qS v->CO s.h->Fr [] H H'->(∀ x∈D,H.size<=x)->Q (.pointer (some ⟨db,0,none⟩)) H') :
  ac PP Ep #[.int .i64 words,.int .i64 oops] Q H:=by
 obtain ⟨e0,_⟩:=jf (words:=words) (oops:=oops) (k:=k+3) (m:=m+30) hw ho (by omega)
 have hall:=mU (words:=words) (oops:=oops) (by omega) h1 (by omega) h2 e0
 obtain ⟨p1,p2,p3,p4,n,ns,l,d,hall2⟩:=rX hw ho hm h1 h2
 have p5:=xG hw ho hm h1 h2
 apply Bf
 unfold k8 A0 iV wW pV sV lV cS
 refine wJ hk (fun hb=>absurd ⟨by omega,h1,by omega,h2⟩ hb) (fun _ he=>absurd e0 he) fun _ _ b F H1 hK1 f1 hF1=>⟨_,_,rfl,?_⟩
 simp only [Option.isNone_some,cond_false]
 refine kg ⟨_,rfl,?_⟩
 simp only [show ((0:Int) != 0)=false from rfl,cond_false]
 have fp:=Fr.push [] H1 (.cells #[.string xB,.string yB] 9)
 have hr:Rd 1 (H1.push (.cells #[.string xB,.string yB] 9)) (some ⟨H1.size,0,none⟩) 2 (aZ [xB,yB]):=(show bN 1 (H1.push (.cells #[.string xB,.string yB] 9)) (some ⟨H1.size,0,none⟩) 2 2 (aZ [xB,yB]) [H1.size] from ⟨rfl,Nat.le_refl _,.inr ⟨_,_,rfl,rfl,aV.new _ _ _,rfl,rfl⟩⟩).rd
 have hnF:H1.size∉F:=fun hm=>by have:=hK1.lt _ hm;omega
 refine sr (hK1.nil fp) hall.w hr (.inr fun p hp=>?_) (Nat.le_refl _) (by decide) fun H3 F3 hK3 u3=>⟨_,_,rfl,kg ⟨_,rfl,?_⟩⟩
 ·cases hp
  exact ⟨by simp,hnF⟩
 rw [p1]
 simp only [show ((0:Int) != 0)=false from rfl,cond_false]
 generalize (bf (dm words oops) bm bZ cM jh [xB,yB])=R at p1 p2 p3 p4 p5 hall2 hK3 ⊢
 have f13:Fr [] H H3:=by
  have fq:Fr [] H (H1.push (.cells #[.string xB,.string yB] 9)):=f1.trans fp
  refine ⟨Nat.le_trans fq.1 u3.1.1,fun y hy _=>?_⟩
  rw [u3.1.2 y (Nat.lt_of_lt_of_le hy fq.1) (fun hm=>by have:=hF1 y hm;omega),fq.2 y hy (by simp)]
 have hF3:∀ x∈F3,H.size<=x:=fun x hx=>by
  rcases u3.2 x hx with h4 | h4
  ·exact hF1 x h4
  ·have:=(f1.trans fp).1;omega
 have hgk:=hk.lt
 have hlt3:=hK3.lt
 have fa:=Fr.push [] H3 (.cells #[.pointer (some ⟨b,0,none⟩),.slice none 0 0] 52)
 have hB:=aV.new H3 #[.pointer (some ⟨b,0,none⟩),.slice none 0 0] 52
 have sz:(H3.push (.cells #[.pointer (some ⟨b,0,none⟩),.slice none 0 0] 52)).size=H3.size+1:=by simp
 have hK4:=hK3.nil fa
 generalize (H3.push (.cells #[.pointer (some ⟨b,0,none⟩),.slice none 0 0] 52))=H4 at fa hB sz hK4 ⊢
 have fb:=Fr.push [] H4 (.cells #[.int .i64 4,.int .i64 12,.int .i64 8,.int .i64 7,.int .i64 16,.int .i64 32,.int .i64 40,.int .i64 44,.int .i64 2,.int .i64 (IntKind.wrap .i64 (4*R.1.1))] 24)
 have hA:aV (H4.push (.cells #[.int .i64 4,.int .i64 12,.int .i64 8,.int .i64 7,.int .i64 16,.int .i64 32,.int .i64 40,.int .i64 44,.int .i64 2,.int .i64 (IntKind.wrap .i64 (4*R.1.1))] 24)) H4.size (aj [4,12,8,7,16,32,40,44,2,IntKind.wrap .i64 (4*R.1.1)]).toArray:=aV.new _ _ _
 have hD0:DK (H4.push (.cells #[.int .i64 4,.int .i64 12,.int .i64 8,.int .i64 7,.int .i64 16,.int .i64 32,.int .i64 40,.int .i64 44,.int .i64 2,.int .i64 (IntKind.wrap .i64 (4*R.1.1))] 24)) H3.size (H3.size :: ([]++F3)) R.2.1 R.2.2 []:=by
  refine ⟨b,F3,none,0,0,[],rfl,hB.fr fb (by simp),bN.nil 1 _,hK4.nil fb,fun hm=>by have:=hlt3 _ hm;omega,by simp,co.nil_left _,?_⟩
  simp only [List.nil_append,List.mem_cons,not_or]
  have:=f13.1
  have htl:=ht.lt
  refine ⟨⟨by omega,hK3.gk⟩,⟨by omega,fun hm=>by have:=hF3 _ hm;omega⟩,((ht.fr f13 (by simp)).fr fa (by simp)).fr fb (by simp)⟩
 generalize (H4.push (.cells #[.int .i64 4,.int .i64 12,.int .i64 8,.int .i64 7,.int .i64 16,.int .i64 32,.int .i64 40,.int .i64 44,.int .i64 2,.int .i64 (IntKind.wrap .i64 (4*R.1.1))] 24))=H5 at fb hA hD0 ⊢
 have hS0:SD H5 H3.size (H3.size :: ([]++F3)) R.2.1 R.2.2 (bm.addC ⟨R.1.1,n,4,ns,l,18,18,[],[],0⟩ d) [] 0:=⟨hD0,hall2.w,by rw [hall2.stack];exact Nat.le_refl _,Nat.le_refl _⟩
 have hnA:H4.size∉H3.size :: ([]++F3):=by
  simp only [List.nil_append,List.mem_cons,not_or]
  exact ⟨by omega,fun hm=>by have:=hlt3 _ hm;omega⟩
 have hA5:=hA.lt
 refine ⟨fun w H'=>∃(i:Nat) (D':az) (s':SP) (ws':List Int),w=[.int .i64 i]∧i<=10∧SD H' H3.size D' s' R.2.2 (bm.addC ⟨R.1.1,n,4,ns,l,18,18,[],[],0⟩ d) ws' i∧s'.h=R.2.1.h∧Up (H3.size :: ([]++F3)) H5 D' H',fun w _=>match w with
  | [.int _ i]=>((10:Int)-i).toNat
  | _=>0,⟨0,_,_,_,rfl,Nat.zero_le _,hS0,rfl,Up.refl _ _⟩,?_⟩
 rintro w H6 ⟨i,D6,s6,ws6,rfl,hi,hS6,e6,u6⟩ _
 have hA6:=hA.fr u6.1 hnA
 refine ⟨_,rfl,gg (fun hlt=>?_) fun hge=>?_⟩
 ·have hil:i<10:=by omega
  have e1:IntKind.wrap .i64 ((i:Int)+1)=((i+1:Nat):Int):=by rw [ah (by omega) (by omega)];omega
  have hc:=hA6.cell i
  have hex:∃ x:Int,(aj [4,12,8,7,16,32,40,44,2,IntKind.wrap .i64 (4*R.1.1)]).toArray[i]?=some (.int .i64 x):=by
   rcases i with _ | _ | _ | _ | _ | _ | _ | _ | _ | _ | i
   all_goals first | exact ⟨_,rfl⟩ | omega
  obtain ⟨x,hx⟩:=hex
  rw [hx] at hc
  refine ⟨⟨by omega,hlt⟩,_,rfl,x,by rw [Int.toNat_natCast,Nat.mul_one,ak,Nat.zero_add];exact hc,sX hS6 (by omega) fun H7 D7 s7 ws7 hS7 e7 u7=>⟨rfl,?_⟩⟩
  rw [e1]
  exact ⟨⟨i+1,D7,s7,ws7,rfl,by omega,hS7,e7.trans e6,u6.trans u7⟩,by simp;omega⟩
 ·have hi10:i=10:=by omega
  subst hi10
  refine h H6 H3.size D6 s6 R.2.2 _ ws6 hS6 (by rw [e6];exact p2) p3 p4 ⟨_,_,_,_,_,rfl⟩ (by rw [e6];exact p5) ?_ fun x hx=>?_
  ·have f35:Fr [] H H5:=(f13.trans fa).trans fb
   refine ⟨Nat.le_trans f35.1 u6.1.1,fun y hy _=>?_⟩
   rw [u6.1.2 y (Nat.lt_of_lt_of_le hy f35.1) (fun hm=>?_),f35.2 y hy (by simp)]
   simp only [List.nil_append,List.mem_cons] at hm
   have:=f13.1
   rcases hm with hm | hm
   ·omega
   ·have:=hF3 y hm;omega
  ·have:=f13.1
   rcases u6.2 x hx with h4 | h4
   ·simp only [List.nil_append,List.mem_cons] at h4
    rcases h4 with rfl | h4
    ·omega
    ·exact hF3 x h4
   ·have:=((f13.trans fa).trans fb).1;omega
end
end Go.Proofs.YtgcoppcogllpbaaGreatDoor
namespace Go.Proofs.YtgcoppcogllpbaaGreatDoor
open Kw
theorem Rd.argc {H:ae}{q:Addr}{l:Nat}{ar:List Int} (hr:Rd 1 H (some q) l (aj ar)) (i:Nat) (hi:i<ar.length):aa H (q.add (i*1))=some (.int .i64 (ar.getD i 0)):=by
 have hlen:l=ar.length:=by have:=hr.1;simpa [aj] using this.symm
 obtain ⟨p,hp,hc,_⟩:=hr.int (i:=(i:Int)) (by omega) (by omega)
 cases hp
 simp only [Int.toNat_natCast] at hc
 rw [Nat.mul_one];exact hc
section
variable {H:ae}{b:Nat}{F:az}{s:SP}{t:TB}{v:KV}{Q:QT}{x:Int}{q:Addr}{l c:Nat}{ws:List Int}{k j:Int}{y z:ByteArray}
theorem hY (hK:PK H b F s t) (hv:KAllW s t v) (hs:bU s.h k (ax y)) (hz:bU s.h j (ax z)) (hy:y.size<=100000) (hy2:z.size<=100000) (hr:Rd 1 H (some q) l (aj [4*j])) (h:∀ H',Fr [] H H'->Q (.tuple #[.string y,.string z,.bool true]) H') :
  ac PP Af #[cv b (4*k) (some q) l c] Q H:=by
 obtain ⟨k1,k2⟩:=bG hv hs
 obtain ⟨j1,j2⟩:=bG hv hz
 have hlen:l=1:=by have:=hr.1;simpa [aj] using this.symm
 subst hlen
 apply xE
 unfold DF A0 iV pV sV lV cS;dsimp only [shH]
 have f:=Fr.push [] H (.cells (cc b (4*k) (some q) 1 c) 149)
 have hb:=aV.new H (cc b (4*k) (some q) 1 c) 149
 have a0:=Rd.argc (Rd.nilF hr f) 0 (by simp)
 refine ⟨_,hb.cell 0,_,hb.cell 1,_,_,_,hb.cell 2,_,_,_,hb.cell 2,⟨by decide,by decide⟩,q,rfl,_,a0,qO (hK.nil f) hv fun H1 f1=>⟨_,rfl,trivial,?_⟩⟩
 rw [show ([4*j].getD 0 0)=4*j from rfl,bt hz j1 j2]
 simp only [show ((10:Int) != 10)=false from rfl,cond_false]
 have f01:=f.trans f1
 have hb1:=hb.fr f1 (by simp)
 have a1:=Rd.argc (Rd.nilF hr f01) 0 (by simp)
 refine ⟨_,hb1.cell 0,_,hb1.cell 1,_,_,_,hb1.cell 2,_,hb1.cell 1,_,hb1.cell 0,_,hb1.cell 1,_,_,_,hb1.cell 2,_,_,_,hb1.cell 2,⟨by decide,by decide⟩,q,rfl,_,a1,nl (hK.nil f01) hs k1 k2 hy fun H2 f2=>?_⟩
 have f02:=f01.trans f2
 have hb2:=hb1.fr f2 (by simp)
 have a2:=Rd.argc (Rd.nilF hr f02) 0 (by simp)
 exact ⟨_,rfl,⟨⟨a2,trivial⟩,⟨hb2.cell 2,trivial⟩,⟨hb2.cell 0,hb2.cell 1,hb2.cell 2,trivial⟩,trivial⟩,nl (hK.nil f02) hz j1 j2 hy2 fun H3 f3=>⟨_,rfl,trivial,h _ (f02.trans f3)⟩⟩
theorem rM (hK:PK H b F s t) (hv:KAllW s t v) (hs:bU s.h k (ax y)) (hz:bU s.h j (ax z)) (hy:y.size<=1000) (hy2:z.size<=1000) (hr:Rd 1 H (some q) l (aj [4*j])) (h:∀ H',PK H' b F (s.makeP 10 1 (ax (y++z))).2 t->Fr F H H'->Q (.tuple #[.int .i64 (s.makeP 10 1 (ax (y++z))).1.1,.int .i64 (s.makeP 10 1 (ax (y++z))).1.2]) H') :
  ac PP th #[cv b (4*k) (some q) l c] Q H:=by
 apply vV
 unfold Bs A0 iV wW pV sV lV cS;dsimp only [shH]
 have f:=Fr.push [] H (.cells (cc b (4*k) (some q) l c) 149)
 have hb:=aV.new H (cc b (4*k) (some q) l c) 149
 refine ⟨_,hb.cell 0,_,hb.cell 1,_,_,_,hb.cell 2,hY (hK.nil f) hv hs hz (by omega) (by omega) (Rd.nilF hr f) fun H1 f1=>⟨_,_,_,rfl,?_⟩⟩
 have f01:=f.trans f1
 have hb1:=hb.fr f1 (by simp)
 rw [Bool.not_true,cond_false]
 rw [ah (by omega) (by omega),af,if_neg (by omega)]
 refine ⟨_,hb1.cell 0,_,hb1.cell 1,_,_,_,hb1.cell 2,?_⟩
 rw [af,if_neg (by rw [show IntKind.i64.max=9223372036854775807 from rfl];omega)]
 refine sH (hK.nil f01) (by rw [ByteArray.size_append];omega) fun H' hK' f'=>⟨_,_,rfl,h H' hK' ⟨Nat.le_trans f01.1 f'.1,fun w hw hn=>by rw [f'.2 w (Nat.lt_of_lt_of_le hw f01.1) hn,f01.2 w hw (by simp)]⟩⟩
theorem tl (hK:PK H b F s t) (hv:KAllW s t v) (hs:bU s.h k (ax y)) (hz:bU s.h j (ax z)) (hy:y.size<=1000) (hy2:z.size<=1000) (hr:Rd 1 H (some q) l (aj [4*j])) (h:∀ H',Fr [] H H'->Q (.tuple #[.int .i64 (tw (eq y z)),.int .i64 0]) H') :
  ac PP tk #[cv b (4*k) (some q) l c] Q H:=by
 apply vZ
 unfold Cm A0 iV pV sV lV cS;dsimp only [shH]
 have f:=Fr.push [] H (.cells (cc b (4*k) (some q) l c) 149)
 have hb:=aV.new H (cc b (4*k) (some q) l c) 149
 refine ⟨_,hb.cell 0,_,hb.cell 1,_,_,_,hb.cell 2,hY (hK.nil f) hv hs hz (by omega) (by omega) (Rd.nilF hr f) fun H1 f1=>⟨_,_,_,rfl,?_⟩⟩
 rw [cond_true]
 exact jM ⟨_,_,rfl,h _ (f.trans f1)⟩
theorem wz (hK:PK H b F s t) (hv:KAllW s t v) (hs:bU s.h k (ax y)) (hz:bU s.h j (ax z)) (hy:y.size<=1000) (hy2:z.size<=1000) (hr:Rd 1 H (some q) l (aj [4*j])) (h:∀ H',Fr [] H H'->Q (.tuple #[.int .i64 (tw (Op.bytesLess (ByteArray.toList y) (ByteArray.toList z))),.int .i64 0]) H') :
  ac PP tZ #[cv b (4*k) (some q) l c] Q H:=by
 apply xt
 unfold Du A0 iV pV sV lV cS;dsimp only [shH]
 have f:=Fr.push [] H (.cells (cc b (4*k) (some q) l c) 149)
 have hb:=aV.new H (cc b (4*k) (some q) l c) 149
 refine ⟨_,hb.cell 0,_,hb.cell 1,_,_,_,hb.cell 2,hY (hK.nil f) hv hs hz (by omega) (by omega) (Rd.nilF hr f) fun H1 f1=>⟨_,_,_,rfl,?_⟩⟩
 rw [Bool.not_true,cond_false]
 exact jM ⟨_,_,rfl,h _ (f.trans f1)⟩
variable {a:Option Addr}
theorem t6 (hK:PK H b F s t) (hs:bU s.h k (ax y)) (k1:1<=k) (k2:k<=65536) (hy:y.size<=1000) (hbad:y.size<1∨96<y.size->∀ H',Fr [] H H'->Q (.tuple #[.int .i64 0,.int .i64 170]) H')
  (h:¬ (y.size<1∨96<y.size)->∀ H' F',PK H' b F' s (t.add y).2->Up F H F' H'->(t.add y).1.2=0∧(0<=(t.add y).1.1∧(t.add y).1.1<4096)∧Q (.tuple #[.int .i64 (4*(t.add y).1.1+2),.int .i64 0]) H'):ac PP oY #[cv b (4*k) a l c] Q H:=by
 apply vf
 unfold DB A0 iV pV sV lV cS;dsimp only [shH]
 have f:=Fr.push [] H (.cells (cc b (4*k) a l c) 149)
 have hb:=aV.new H (cc b (4*k) a l c) 149
 refine ⟨_,hb.cell 0,_,hb.cell 1,_,_,_,hb.cell 2,_,hb.cell 1,nl (hK.nil f) hs k1 k2 (by omega) fun H1 f1=>⟨_,rfl,?_⟩⟩
 have f01:=f.trans f1
 have hb1:=hb.fr f1 (by simp)
 rw [af]
 refine aA (fun h1=>hbad (.inl (by omega)) _ f01) fun h1=>?_
 rw [af]
 refine aA (fun h2=>hbad (.inr (by omega)) _ f01) fun h2=>?_
 have hK1:=hK.nil f01
 obtain ⟨tb,F2,hc,hT,hsub,_,hup,_⟩:=hK1.tb
 refine ⟨_,hb1.cell 0,?_⟩
 apply uv
 unfold Eh pV
 refine ⟨_,rfl,_,hc,⟨_,rfl,mQ hT fun H2 F3 hT2 u2=>⟨_,_,rfl,?_⟩⟩⟩
 obtain ⟨F',hK2,u3⟩:=hup H2 F3 _ hT2 u2
 have u:Up F H F' H2:=⟨⟨Nat.le_trans f01.1 u3.1.1,fun w hw hn=>by rw [u3.1.2 w (Nat.lt_of_lt_of_le hw f01.1) hn,f01.2 w hw (by simp)]⟩,fun w hw=>(u3.2 w hw).imp id fun g=>Nat.le_trans f01.1 g⟩
 obtain ⟨e0,e1,hq⟩:=h (by omega) H2 F' hK2 u
 rw [e0]
 simp only [show ((0:Int) != 0)=false from rfl,cond_false]
 exact tA e1 ⟨_,_,rfl,hq⟩
theorem zJ (hK:PK H b F s t){n:Int} (hn:0<=n∧n<4096) (hy:t.texts[n.toNat]?=some y) (hl:y.size<=1000) (h:∀ H',Fr [] H H'->Q (.tuple #[.int .i64 (2*(y.size:Int)+1),.int .i64 0]) H') :
  ac PP sP #[cv b (4*n+2) a l c] Q H:=by
 apply wA
 unfold BO A0 iV pV sV lV cS;dsimp only [shH]
 have f:=Fr.push [] H (.cells (cc b (4*n+2) a l c) 149)
 have hb:=aV.new H (cc b (4*n+2) a l c) 149
 refine ⟨_,hb.cell 0,_,hb.cell 1,_,_,_,hb.cell 2,_,hb.cell 1,jZ (hK.nil f) hn hy fun H1 f1=>⟨_,rfl,mM ⟨_,_,rfl,?_⟩⟩⟩
 rw [mj (by omega)]
 exact h _ (f.trans f1)
theorem uh (hK:PK H b F s t){n:Int} (hn:0<=n∧n<4096) (hy:t.texts[n.toNat]?=some y) (hl:y.size<=1000) (h:∀ H',PK H' b F (s.makeP 10 1 (ax y)).2 t->Fr F H H'->Q (.tuple #[.int .i64 (s.makeP 10 1 (ax y)).1.1,.int .i64 (s.makeP 10 1 (ax y)).1.2]) H') :
  ac PP tI #[cv b (4*n+2) a l c] Q H:=by
 apply wF
 unfold CR A0 iV pV sV lV cS;dsimp only [shH]
 have f:=Fr.push [] H (.cells (cc b (4*n+2) a l c) 149)
 have hb:=aV.new H (cc b (4*n+2) a l c) 149
 refine ⟨_,hb.cell 0,_,hb.cell 1,_,_,_,hb.cell 2,_,hb.cell 0,_,hb.cell 1,_,_,_,hb.cell 2,_,hb.cell 1,jZ (hK.nil f) hn hy fun H1 f1=>?_⟩
 have f01:=f.trans f1
 have hb1:=hb.fr f1 (by simp)
 exact ⟨_,rfl,⟨⟨hb1.cell 0,hb1.cell 1,hb1.cell 2,trivial⟩,trivial⟩,sH (hK.nil f01) (by omega) fun H' hK' f'=>⟨_,_,rfl,trivial,h H' hK' ⟨Nat.le_trans f01.1 f'.1,fun w hw hn=>by rw [f'.2 w (Nat.lt_of_lt_of_le hw f01.1) hn,f01.2 w hw (by simp)]⟩⟩⟩
theorem uK (hK:PK H b F s t) (hv:KAllW s t v) (hs:bU s.h k (ax y)) (hy:y.size<=1000) (h:∀ H',PK H' b F (s.makeP 10 1 (ax y)).2 t->Fr F H H'->Q (.tuple #[.int .i64 (s.makeP 10 1 (ax y)).1.1,.int .i64 (s.makeP 10 1 (ax y)).1.2]) H') :
  ac PP sJ #[cv b (4*k) a l c] Q H:=by
 obtain ⟨k1,k2⟩:=bG hv hs
 have hbl:=cO y
 have hlt:=hK.lt
 apply wi
 unfold BC A0 iV pV lV cS;dsimp only [shH]
 have f:=Fr.push [] H (.cells (cc b (4*k) a l c) 149)
 have hb:=aV.new H (cc b (4*k) a l c) 149
 refine ⟨_,hb.cell 0,_,hb.cell 1,_,_,_,hb.cell 2,_,hb.cell 1,qO (hK.nil f) hv fun H1 f1=>⟨_,rfl,?_⟩⟩
 have f01:=f.trans f1
 have hb1:=hb.fr f1 (by simp)
 rw [bt hs k1 k2]
 refine ⟨_,hb1.cell 0,_,hb1.cell 1,_,_,_,hb1.cell 2,_,hb1.cell 1,eC (hK.nil f01) fun H2 f2=>⟨_,_,rfl,?_⟩⟩
 have f02:=f01.trans f2
 have hb2:=hb1.fr f2 (by simp)
 simp only [show ((10:Int) == 10)=true from rfl,cond_true]
 refine ⟨_,hb2.cell 0,_,hb2.cell 1,_,_,_,hb2.cell 2,_,hb2.cell 0,_,hb2.cell 1,_,_,_,hb2.cell 2,_,hb2.cell 1,oH (hK.nil f02) (n:=y.size) (by rw [eJ hs k1 k2];simp only [hbl]) (by omega) fun q H3 ho3 hq3 f3=>?_⟩
 have hsl:=lS hs k1 k2
 rw [hbl] at hsl
 rw [hsl] at ho3
 have f03:=f02.trans f3
 have hb3:=hb2.fr f3 (by simp)
 rw [eJ hs k1 k2]
 refine ⟨_,_,_,rfl,⟨⟨hb3.cell 0,hb3.cell 1,hb3.cell 2,trivial⟩,trivial⟩,ql (hK.nil f03) (by decide) ho3.rd (fun p hp hm=>?_) (by omega) fun H' hK' f'=>⟨_,_,rfl,trivial,h H' hK' ⟨Nat.le_trans f03.1 f'.1,fun w hw hn=>by rw [f'.2 w (Nat.lt_of_lt_of_le hw f03.1) hn,f03.2 w hw (by simp)]⟩⟩⟩
 cases hp
 have:=hlt _ hm
 have:=f02.1
 simp only at *
 omega
theorem xP (hK:PK H b F s t){n:Int} (hn:0<=n∧n<=8192) (hr:Rd 1 H (some q) l (aj [2*n+1])) (h:∀ H',PK H' b F (s.alloc (4*10) n 1).2 t->Fr F H H'->Q (.tuple #[.int .i64 (if (s.alloc (4*10) n 1).1.2=0 then (s.alloc (4*10) n 1).1.1 else 0),.int .i64 (s.alloc (4*10) n 1).1.2]) H') :
  ac PP ud #[cv b 40 (some q) l c] Q H:=by
 have hin:qg n:=⟨by omega,by omega⟩
 have hlen:l=1:=by have:=hr.1;simpa [aj] using this.symm
 subst hlen
 apply xM
 unfold A3 A0 iV pV lV cS
 have f:=Fr.push [] H (.cells (cc b 40 (some q) 1 c) 149)
 have hb:=aV.new H (cc b 40 (some q) 1 c) 149
 have a0:=Rd.argc (Rd.nilF hr f) 0 (by simp)
 have hK1:=hK.nil f
 refine ⟨_,hb.cell 1,gO hK1.kinds ?_⟩
 show ∃ n6 n7:Int,(Value.tuple #[.int .i64 10,.int .i64 0])=.tuple #[.int .i64 n6,.int .i64 n7]∧_
 refine ⟨_,_,rfl,_,_,_,hb.cell 2,⟨by decide,by decide⟩,q,rfl,_,a0,mh hK1.kinds ?_⟩
 rw [show ([2*n+1].getD 0 0)=2*n+1 from rfl]
 unfold jE
 rw [if_pos (dG hin)]
 dsimp only
 rw [eX]
 refine ⟨_,_,rfl,fun w H'=>w=[.bool false]∧H'=H.push (.cells (cc b 40 (some q) 1 c) 149),?_,?_⟩
 ·simp only [show ((10:Int) != 10)=false from rfl,show ((0:Int) != 0)=false from rfl,cond_false]
  rw [af,if_neg (by omega),decide_eq_false (by omega)]
  exact ⟨rfl,trivial⟩
 rintro w H' ⟨rfl,rfl⟩ _
 refine ⟨_,rfl,?_⟩
 simp only [show ((10:Int) == 10)=true from rfl,cond_false,cond_true]
 refine ⟨_,hb.cell 0,_,hb.cell 1,dD hK1 fun sb F1 _ hS hsub _ hup=>⟨_,rfl,⟨⟨hb.cell 1,trivial⟩,trivial⟩,i7 hS fun H3 hS3 f3=>⟨_,_,rfl,trivial,h H3 (hup H3 _ hS3 f3) ⟨Nat.le_trans f.1 f3.1,fun w hw hn=>by rw [f3.2 w (Nat.lt_of_lt_of_le hw f.1) (fun hm=>hn (hsub w hm)),f.2 w hw (by simp)]⟩⟩⟩⟩
theorem vh (hK:PK H b F s t){xs:List Int} (hs:bU s.h k xs) (k1:1<=k) (k2:k<=65536){i:Nat} (hi:i<xs.length) (hy:xs.length<=1000){w:Int} (hw:0<=w∧w<=255) (hr:Rd 1 H (some q) l (aj [2*((i:Int)+1)+1,2*w+1])) (ho:q.block∉F)
  (h:∀ H',PK H' b F (s.putW (4*k) i w).2 t->Fr F H H'->Q (.tuple #[.int .i64 (2*w+1),.int .i64 (s.putW (4*k) i w).1]) H') :
  ac PP us #[cv b (4*k) (some q) l c] Q H:=by
 have hlt:=hK.lt
 have hlen:l=2:=by have:=hr.1;simpa [aj] using this.symm
 subst hlen
 have hin:qg w:=⟨by omega,by omega⟩
 have hin2:qg ((i:Int)+1):=⟨by omega,by omega⟩
 apply uO
 unfold Dj A0 iV pV lV cS;dsimp only [shH]
 have f:=Fr.push [] H (.cells (cc b (4*k) (some q) 2 c) 149)
 have hb:=aV.new H (cc b (4*k) (some q) 2 c) 149
 have hbF:H.size∉F:=fun hm=>by have:=hlt _ hm;omega
 refine ⟨_,hb.cell 0,_,hb.cell 1,_,_,_,hb.cell 2,_,hb.cell 1,eC (hK.nil f) fun H1 f1=>⟨_,_,rfl,?_⟩⟩
 have f01:=f.trans f1
 have hb1:=hb.fr f1 (by simp)
 refine ⟨_,hb1.cell 0,_,hb1.cell 1,_,_,_,hb1.cell 2,od (hK.nil f01) (Rd.nilF hr f01) fun H2 f2=>?_⟩
 have e:dK (fA s.h (4*k)).1 (2*((i:Int)+1)+1)=((i:Int),0):=by
  unfold dK
  rw [if_neg (fun e=>e (dG hin2)),eX,eJ hs k1 k2,if_neg (by simp only;omega)]
  have:(i:Int)+1-1=i:=by omega
  rw [this]
 rw [e]
 have f02:=f01.trans f2
 have hb2:=hb1.fr f2 (by simp)
 have a2:=Rd.argc (Rd.nilF hr f02) 1 (by simp)
 refine ⟨_,_,rfl,_,_,_,hb2.cell 2,⟨by decide,by decide⟩,q,rfl,_,a2,mh (hK.nil f02).kinds ?_⟩
 rw [show ([2*((i:Int)+1)+1,2*w+1].getD 1 0)=2*w+1 from rfl]
 unfold jE
 rw [if_pos (dG hin)]
 dsimp only
 rw [eX]
 refine ⟨_,_,rfl,?_⟩
 simp only [show ((0:Int) == 170)=false from rfl,show ((0:Int) != 0)=false from rfl,cond_false]
 rw [af,if_neg (by omega),af,if_neg (by omega)]
 refine ⟨_,_,_,hb2.cell 2,⟨by decide,by decide⟩,q,rfl,_,a2,_,hb2.cell 0,_,hb2.cell 1,_,_,_,hb2.cell 2,_,hb2.cell 1,tj (hK.nil f02) fun H4 hK4 f4=>?_⟩
 have f04:Fr F H H4:=⟨Nat.le_trans f02.1 f4.1,fun x hx hn=>by rw [f4.2 x (Nat.lt_of_lt_of_le hx f02.1) hn,f02.2 x hx (by simp)]⟩
 have hb4:=hb2.fr f4 hbF
 have hr4:=hr.fr' f04 fun p hp=>by cases hp;exact ho
 have a4:=Rd.argc hr4 1 (by simp)
 exact ⟨_,rfl,⟨⟨a4,trivial⟩,⟨hb4.cell 2,trivial⟩,trivial⟩,h H4 hK4 f04⟩
end
attribute [local irreducible] DT DP DY Ef Em DU Fc Ed zx gt
structure Beside (H0 H:ae) (db:Nat) (D:az) (s:SP) (t:TB) (v:KV) (ws:List Int) (N:Nat) (X:az):Prop where
 sd:SD H db D s t v ws N
 fr:Fr [] H0 H
 lo:∀ x∈D,H0.size<=x
 off:∀ x∈X,x∉D∧x<H.size∧H0.size<=x
 gk:ap<H0.size
 gp:gP<H0.size
theorem DK.fr {H H':ae}{db:Nat}{D X:az}{s:SP}{t:TB}{ws:List Int} (h:DK H db D s t ws) (hf:Fr X H H') (hd:∀ x∈D,x∉X) (hg:ap∉X) (hp:gP∉X):DK H' db D s t ws:=by
 obtain ⟨b,F,a,l,c,G,rfl,hB,hO,hK,h1,h2,h3,h4,h5,h6⟩:=h
 exact ⟨b,F,a,l,c,G,rfl,hB.fr hf (hd _ (by simp)),hO.fr hf (fun x hx=>hd x (by simp [hx])),hK.fr hf (fun x hx=>hd x (by simp [hx])) hg,h1,h2,h3,h4,h5,h6.fr hf hp⟩
theorem sF {H0 H H':ae}{X:az} (f:Fr [] H0 H) (g:Fr X H H') (hx:∀ x∈X,H0.size<=x):Fr [] H0 H' :=
 ⟨Nat.le_trans f.1 g.1,fun y hy _=>by rw [g.2 y (Nat.lt_of_lt_of_le hy f.1) (fun hm=>by have:=hx y hm;omega),f.2 y hy (by simp)]⟩
section
variable {H0 H H':ae}{db:Nat}{D D' X:az}{s s':SP}{t t':TB}{v:KV}{ws ws':List Int}{N N':Nat}
theorem Beside.step (h:Beside H0 H db D s t v ws N X) (hD:SD H' db D' s' t' v ws' N') (u:Up D H D' H'):Beside H0 H' db D' s' t' v ws' N' X:=by
 refine ⟨hD,sF h.fr u.1 h.lo,fun x hx=>?_,fun x hx=>?_,h.gk,h.gp⟩
 ·rcases u.2 x hx with h1 | h1
  ·exact h.lo x h1
  ·have:=h.fr.1;omega
 ·obtain ⟨h1,h2,h3⟩:=h.off x hx
  refine ⟨fun hm=>?_,Nat.lt_of_lt_of_le h2 u.1.1,h3⟩
  rcases u.2 x hm with h4 | h4
  ·exact h1 h4
  ·omega
theorem Beside.grow {X':az} (h:Beside H0 H db D s t v ws N X) (u:Up X H X' H') (hl:∀ x∈X',x<H'.size):Beside H0 H' db D s t v ws N X':=by
 have hx:∀ x∈X,H0.size<=x:=fun x hx=>(h.off x hx).2.2
 refine ⟨⟨h.sd.dk.fr u.1 (fun x hx hm=>(h.off x hm).1 hx) (fun hm=>by have:=hx _ hm;have:=h.gk;omega) (fun hm=>by have:=hx _ hm;have:=h.gp;omega),h.sd.all,h.sd.st,h.sd.wl⟩,sF h.fr u.1 hx,h.lo,fun x hxm=>?_,h.gk,h.gp⟩
 rcases u.2 x hxm with h1 | h1
 ·obtain ⟨h2,h3,h4⟩:=h.off x h1
  exact ⟨h2,hl x hxm,h4⟩
 ·exact ⟨fun hm=>by have:=h.sd.dk.lt x hm;omega,hl x hxm,Nat.le_trans h.fr.1 h1⟩
theorem Beside.nil (h:Beside H0 H db D s t v ws N X) (f:Fr [] H H'):Beside H0 H' db D s t v ws N X :=
 ⟨h.sd.nil f,h.fr.trans f,h.lo,fun x hx=>by obtain ⟨h1,h2,h3⟩:=h.off x hx;exact ⟨h1,Nat.lt_of_lt_of_le h2 f.1,h3⟩,h.gk,h.gp⟩
end
end Go.Proofs.YtgcoppcogllpbaaGreatDoor
namespace Go.Proofs.YtgcoppcogllpbaaGreatDoor
open Kw
theorem qz {r:RH} (h:CO r):mA r 40=12:=by
 obtain ⟨o,ho,hc,_⟩:=h
 have hk:bg 40=3:=by decide
 have eo:sD r 40=(12,0):=by
  unfold sD
  rw [if_neg (by decide),if_neg (by decide),if_pos hk]
  unfold RH.clsAt
  rw [show (40:Int) / 4=10 from rfl,ho]
  simp only [hc,if_true]
  rfl
 unfold mA
 rw [eo]
 rfl
theorem mZ {r:RH}{n:Int} (hn:0<=n∧n<4096):mA r (4*n+2)=9:=by
 have hkw:bg (4*n+2)=2:=by
  unfold bg
  rw [if_neg (by omega),if_pos (by omega)]
 have eo:sD r (4*n+2)=(9,0):=by
  unfold sD
  rw [if_neg (by omega),if_pos hkw]
 unfold mA
 rw [eo]
 rfl
theorem nA {r:RH} (h:CO r):fC r 12 40=true:=by
 obtain ⟨o,ho,_,_,hl⟩:=h
 unfold fC fA
 rw [if_pos rfl,if_pos (by decide)]
 unfold RH.size
 rw [show (40:Int) / 4=10 from rfl,ho]
 simp [hl]
theorem oS {v:KV} (h:qS v):iz v 4 10=true:=by
 obtain ⟨oop,n,ns,l,d,rfl⟩:=h
 have e:jD (bm.addC ⟨oop,n,4,ns,l,18,18,[],[],0⟩ d) 10=some 6:=by
  unfold jD KV.addC
  rfl
 have e2:dn (bm.addC ⟨oop,n,4,ns,l,18,18,[],[],0⟩ d) 6=4:=by
  rfl
 unfold iz jq
 rw [if_neg (by decide),if_neg (by decide),e]
 simp only
 rw [e2]
 show jq _ 4 ((13+3)+1) 4=true
 unfold jq
 rw [if_neg (by decide),if_pos rfl]
section
variable {s s':SP}{t t':TB}{v:KV}{k j m:Int}{y z:ByteArray}
theorem te (hv:KAllW s t v) (hc:CO s.h){n:Int} (hn:0<=n∧n<=8192) (he:s.alloc (4*10) n 1=((4*k,0),s')):PrimS s t 12 ⟨#[110,101,119,58]⟩ 40 [2*n+1] (4*k,0) s' t:=by
 refine fN hv (n:=1) (f:=ud) rfl rfl (fun w hw=>?_) (by rw [qz hc];exact bv v (by decide)) (nA hc) fun {H b F a l c Q} hK ht hr _ h=>?_
 ·simp only [List.mem_cons,List.not_mem_nil,or_false] at hw
  rcases hw with rfl | rfl
  ·rw [qz hc];decide
  ·rw [ia ⟨by omega,by omega⟩];decide
 ·have hl:l=1:=by have:=hr.1;simpa [aj] using this.symm
  cases a with
  | none=>have:=hr.2.1 rfl;omega
  | some q =>
   refine xP hK hn hr fun H' hK' f=>?_
   rw [he] at hK' ⊢
   exact h H' F hK' ⟨f,fun x hx=>.inl hx⟩
theorem sS (hv:KAllW s t v){xs:List Int} (hs:bU s.h k xs){i:Nat} (hi:i<xs.length) (hl:xs.length<=1000){w:Int} (hw:0<=w∧w<=255) (he:s.putW (4*k) i w=(0,s')):PrimS s t 10 ⟨#[97,116,58,112,117,116,58]⟩ (4*k) [2*((i:Int)+1)+1,2*w+1] (2*w+1,0) s' t:=by
 obtain ⟨h1,h2⟩:=bG hv hs
 refine fN hv (n:=2) (f:=us) rfl rfl (fun x hx=>?_) (by rw [bt hs h1 h2];exact bv v (by decide)) rfl fun {H b F a l c Q} hK ht hr ho h=>?_
 ·simp only [List.mem_cons,List.not_mem_nil,or_false] at hx
  rcases hx with rfl | rfl | rfl
  ·rw [bt hs h1 h2];decide
  ·rw [ia ⟨by omega,by omega⟩];decide
  ·rw [ia ⟨by omega,by omega⟩];decide
 ·have hl:l=2:=by have:=hr.1;simpa [aj] using this.symm
  cases a with
  | none=>have:=hr.2.1 rfl;omega
  | some q =>
   refine vh hK hs h1 h2 hi (by omega) hw hr (ho q rfl) fun H' hK' f=>?_
   rw [he] at hK' ⊢
   exact h H' F hK' ⟨f,fun x hx=>.inl hx⟩
theorem rK (hv:KAllW s t v) (hs:bU s.h k (ax y)) (hz:bU s.h j (ax z)) (hy:y.size<=1000) (hy2:z.size<=1000) (he:s.makeP 10 1 (ax (y++z))=((4*m,0),s')):PrimS s t 10 ⟨#[44]⟩ (4*k) [4*j] (4*m,0) s' t:=by
 obtain ⟨h1,h2⟩:=bG hv hs
 obtain ⟨j1,j2⟩:=bG hv hz
 refine fN hv (n:=1) (f:=th) rfl rfl (fun x hx=>?_) (by rw [bt hs h1 h2];exact bv v (by decide)) rfl fun {H b F a l c Q} hK ht hr ho h=>?_
 ·simp only [List.mem_cons,List.not_mem_nil,or_false] at hx
  rcases hx with rfl | rfl
  ·rw [bt hs h1 h2];decide
  ·rw [bt hz j1 j2];decide
 ·have hl:l=1:=by have:=hr.1;simpa [aj] using this.symm
  cases a with
  | none=>have:=hr.2.1 rfl;omega
  | some q =>
   refine rM hK hv hs hz hy hy2 hr fun H' hK' f=>?_
   rw [he] at hK' ⊢
   exact h H' F hK' ⟨f,fun x hx=>.inl hx⟩
theorem oy (hv:KAllW s t v) (hs:bU s.h k (ax y)) (hz:bU s.h j (ax z)) (hy:y.size<=1000) (hy2:z.size<=1000):PrimS s t 10 ⟨#[61]⟩ (4*k) [4*j] (tw (eq y z),0) s t:=by
 obtain ⟨h1,h2⟩:=bG hv hs
 obtain ⟨j1,j2⟩:=bG hv hz
 refine cV hv (n:=1) (f:=tk) rfl rfl (fun x hx=>?_) (by rw [bt hs h1 h2];exact bv v (by decide)) rfl fun {H b F a l c Q} hK hr h=>?_
 ·simp only [List.mem_cons,List.not_mem_nil,or_false] at hx
  rcases hx with rfl | rfl
  ·rw [bt hs h1 h2];decide
  ·rw [bt hz j1 j2];decide
 ·have hl:l=1:=by have:=hr.1;simpa [aj] using this.symm
  cases a with
  | none=>have:=hr.2.1 rfl;omega
  | some q=>exact tl hK hv hs hz hy hy2 hr h
theorem tS (hv:KAllW s t v) (hs:bU s.h k (ax y)) (hz:bU s.h j (ax z)) (hy:y.size<=1000) (hy2:z.size<=1000):PrimS s t 10 ⟨#[60]⟩ (4*k) [4*j] (tw (Op.bytesLess (ByteArray.toList y) (ByteArray.toList z)),0) s t:=by
 obtain ⟨h1,h2⟩:=bG hv hs
 obtain ⟨j1,j2⟩:=bG hv hz
 refine cV hv (n:=1) (f:=tZ) rfl rfl (fun x hx=>?_) (by rw [bt hs h1 h2];exact bv v (by decide)) rfl fun {H b F a l c Q} hK hr h=>?_
 ·simp only [List.mem_cons,List.not_mem_nil,or_false] at hx
  rcases hx with rfl | rfl
  ·rw [bt hs h1 h2];decide
  ·rw [bt hz j1 j2];decide
 ·have hl:l=1:=by have:=hr.1;simpa [aj] using this.symm
  cases a with
  | none=>have:=hr.2.1 rfl;omega
  | some q=>exact wz hK hv hs hz hy hy2 hr h
theorem xh (hv:KAllW s t v) (hp:qS v) (hs:bU s.h k (ax y)) (hz:bU s.h j (ax z)):PrimS s t 4 ⟨#[61]⟩ (4*k) [4*j] (tw (decide (4*k=4*j)),0) s t:=by
 obtain ⟨h1,h2⟩:=bG hv hs
 obtain ⟨j1,j2⟩:=bG hv hz
 refine cV hv (n:=1) (f:=ub) rfl rfl (fun x hx=>?_) (by rw [bt hs h1 h2];exact oS hp) rfl fun {H b F a l c Q} hK hr h=>xm hr h
 simp only [List.mem_cons,List.not_mem_nil,or_false] at hx
 rcases hx with rfl | rfl
 ·rw [bt hs h1 h2];decide
 ·rw [bt hz j1 j2];decide
theorem sg (hv:KAllW s t v) (hp:qS v) (hs:bU s.h k (ax y)) (hy:y.size<=1000) (he:s.makeP 10 1 (ax y)=((4*m,0),s')):PrimS s t 4 ⟨#[99,111,112,121]⟩ (4*k) [] (4*m,0) s' t:=by
 obtain ⟨h1,h2⟩:=bG hv hs
 refine fN hv (n:=0) (f:=sJ) rfl rfl (fun x hx=>?_) (by rw [bt hs h1 h2];exact oS hp) rfl fun {H b F a l c Q} hK ht hr ho h=>?_
 ·simp only [List.mem_cons,List.not_mem_nil,or_false] at hx
  rw [hx,bt hs h1 h2];decide
 ·refine uK hK hv hs hy fun H' hK' f=>?_
  rw [he] at hK' ⊢
  exact h H' F hK' ⟨f,fun x hx=>.inl hx⟩
theorem oO (hv:KAllW s t v) (hs:bU s.h k (ax y)) (hy:y.size<=1000) (hg:¬ (y.size<1∨96<y.size)){n:Nat} (hn:n<4096) (he:t.add y=(((n:Int),0),t')):PrimS s t 10 ⟨#[97,115,83,121,109,98,111,108]⟩ (4*k) [] (4*(n:Int)+2,0) s t':=by
 obtain ⟨h1,h2⟩:=bG hv hs
 refine fN hv (n:=0) (f:=oY) rfl rfl (fun x hx=>?_) (by rw [bt hs h1 h2];exact bv v (by decide)) rfl fun {H b F a l c Q} hK ht hr ho h=>?_
 ·simp only [List.mem_cons,List.not_mem_nil,or_false] at hx
  rw [hx,bt hs h1 h2];decide
 ·refine t6 hK hs h1 h2 hy (fun hb=>absurd hb hg) fun _ H' F' hK' u=>?_
  rw [he] at hK' ⊢
  exact ⟨rfl,(show 0<=(n:Int)∧(n:Int)<4096 from ⟨by omega,by omega⟩),h H' F' hK' u⟩
theorem o6 (hv:KAllW s t v) (hs:bU s.h k (ax y)) (hy:y.size<=1000) (hg:y.size<1∨96<y.size):PrimS s t 10 ⟨#[97,115,83,121,109,98,111,108]⟩ (4*k) [] (0,170) s t:=by
 obtain ⟨h1,h2⟩:=bG hv hs
 refine cV hv (n:=0) (f:=oY) rfl rfl (fun x hx=>?_) (by rw [bt hs h1 h2];exact bv v (by decide)) rfl fun {H b F a l c Q} hK hr h=>?_
 ·simp only [List.mem_cons,List.not_mem_nil,or_false] at hx
  rw [hx,bt hs h1 h2];decide
 ·exact t6 hK hs h1 h2 hy (fun _ H' f=>h H' f) fun hb=>absurd hg hb
theorem nB (hv:KAllW s t v){n:Nat} (hn:n<4096) (ht:t.texts[n]?=some y) (hy:y.size<=1000) (he:s.makeP 10 1 (ax y)=((4*m,0),s')):PrimS s t 9 ⟨#[97,115,83,116,114,105,110,103]⟩ (4*(n:Int)+2) [] (4*m,0) s' t:=by
 have hr:0<=(n:Int)∧(n:Int)<4096:=⟨by omega,by omega⟩
 refine fN hv (n:=0) (f:=tI) rfl rfl (fun x hx=>?_) (by rw [mZ hr];exact bv v (by decide)) rfl fun {H b F a l c Q} hK _ _ ho h=>?_
 ·simp only [List.mem_cons,List.not_mem_nil,or_false] at hx
  rw [hx,mZ hr];decide
 ·refine uh hK hr (by simpa using ht) hy fun H' hK' f=>?_
  rw [he] at hK' ⊢
  exact h H' F hK' ⟨f,fun x hx=>.inl hx⟩
theorem nT (hv:KAllW s t v){n:Nat} (hn:n<4096) (ht:t.texts[n]?=some y) (hy:y.size<=1000):PrimS s t 9 ⟨#[115,105,122,101]⟩ (4*(n:Int)+2) [] (2*(y.size:Int)+1,0) s t:=by
 have hr:0<=(n:Int)∧(n:Int)<4096:=⟨by omega,by omega⟩
 refine cV hv (n:=0) (f:=sP) rfl rfl (fun x hx=>?_) (by rw [mZ hr];exact bv v (by decide)) rfl fun {H b F a l c Q} hK _ h=>zJ hK hr (by simpa using ht) hy h
 simp only [List.mem_cons,List.not_mem_nil,or_false] at hx
 rw [hx,mZ hr];decide
end
section
variable {H0 H:ae}{db:Nat}{D:az}{s s1:SP}{t t1:TB}{v:KV}{ws:List Int}{N:Nat}{Q:QT}{k r w want:Int}{x:ByteArray}
theorem Beside.push {o:Obj} (hA:Beside H0 H db D s t v ws N []):Beside H0 (H.push o) db D s t v ws N []:=hA.nil (Fr.push _ _ _)
theorem lR {ar:List Int}{a:Option Addr}{l c:Nat} (hA:Beside H0 H db D s t v ws N []) (hN:N+1<60000) (hp:PrimS s t k x r ar (w,0) s1 t1) (h1:KAllW s1 t1 v) (hst:s1.stack.length<=s.stack.length) (hr:Rd 1 H a l (aj ar)) (ho:∀ p,a=some p->p.block∉D) (hl:l<=1000)
  (h:∀ H' D' s' ws',Beside H0 H' db D' s' t1 v ws' (N+1) []->s'.h=s1.h->Q (.tuple #[.int .i64 w,.int .i64 0]) H'):ac PP oE #[.pointer (some ⟨db,0,none⟩),.int .i64 k,.string x,.int .i64 r,.slice a l c] Q H :=
 BA hA.sd hN hp h1 hst hr ho hl fun H' D' s' ws' hD' e u=>h H' D' s' ws' (hA.step hD' u) e
theorem Dp {ar:List Int}{e:Int}{a:Option Addr}{l c:Nat} (hA:Beside H0 H db D s t v ws N []) (hN:N+1<60000) (he:e≠0) (hp:PrimS s t k x r ar (w,e) s t) (hr:Rd 1 H a l (aj ar)) (ho:∀ p,a=some p->p.block∉D) (hl:l<=1000)
  (h:∀ H' D',Beside H0 H' db D' s t v ws N []->Q (.tuple #[.int .i64 w,.int .i64 e]) H'):ac PP oE #[.pointer (some ⟨db,0,none⟩),.int .i64 k,.string x,.int .i64 r,.slice a l c] Q H :=
 sQ hA.sd hN he hp hr ho hl fun H' D' hD' u=>h H' D' (hA.step hD' u)
theorem lX {ar:List Int}{a:Option Addr}{l c:Nat} (hA:Beside H0 H db D s t v ws N []) (hN:N+1<60000) (hp:PrimS s t k x r ar (w,0) s1 t1) (h1:KAllW s1 t1 v) (hst:s1.stack.length<=s.stack.length) (hw:w=want) (hr:Rd 1 H a l (aj ar)) (ho:∀ p,a=some p->p.block∉D) (hl:l<=1000)
  (h:∀ H' D' s' ws',Beside H0 H' db D' s' t1 v ws' (N+1) []->s'.h=s1.h->Q (.bool true) H'):ac PP sL #[.pointer (some ⟨db,0,none⟩),.int .i64 k,.string x,.int .i64 r,.slice a l c,.int .i64 want] Q H:=by
 have g1:=hA.sd.st
 have g2:=hA.sd.wl
 obtain ⟨k1,k2,k3⟩:=gE h1 w (by omega)
 refine x9 hA.sd.dk (by omega) hp hr ho hl fun H' D' hD' u=>?_
 rw [decide_eq_true hw]
 exact h H' D' _ _ (hA.step ⟨hD',k1,by omega,by simp;omega⟩ u) k2
theorem dY (hA:Beside H0 H db D s t v ws N []){y:ByteArray} (hs:bU s.h k (ax y)) (hy:y.size<=10000) (hN:N+y.size+10<60000)
  (h:∀ H' D' s' ws',Beside H0 H' db D' s' t v ws' (N+y.size+2) []->s'.h=s.h->Q (.bool true) H'):ac PP x8 #[.pointer (some ⟨db,0,none⟩),.int .i64 (4*k),.string y] Q H :=
 vM hA.sd hs hy hN fun H' D' s' ws' hD' e u=>h H' D' s' ws' (hA.step hD' u) e
theorem xJ (H:ae) (n m:Int) (e:TypeId):Rd 1 (H.push (.cells #[.int .i64 n,.int .i64 m] e)) (some ⟨H.size,0,none⟩) 2 (aj [n,m]) :=
 (show bN 1 (H.push (.cells #[.int .i64 n,.int .i64 m] e)) (some ⟨H.size,0,none⟩) 2 2 (aj [n,m]) [H.size] from ⟨by simp [aj],Nat.le_refl _,.inr ⟨_,_,rfl,rfl,aV.new _ _ _,by simp,by simp [aj]⟩⟩).rd
theorem Beside.out (hA:Beside H0 H db D s t v ws N []):∀ p,(some ⟨H.size,0,none⟩:Option Addr)=some p->p.block∉D:=nM hA.sd.dk (Fr.refl _ _)
end
attribute [local irreducible] bo cY eE
section
variable {H0 H:ae}{db:Nat}{D:az}{s s1:SP}{t t1:TB}{v:KV}{ws:List Int}{N:Nat}{Q:QT}
theorem qM (hA:Beside H0 H db D s t v ws N []){y:ByteArray} (hy:y.size<=300) (hN:N+y.size+10<60000) (hco:CO s.h){n:Nat}{m:Int} (hR:RoomyK s.h (n+1) (m+lenOf y.size 1)) (hm:0<=m)
  (h:∀ H' D' s' ws' k,Beside H0 H' db D' s' t v ws' (N+1+y.size) []->bU s'.h k (ax y)->dR s.h s'.h k->al s.h.objs k=none->RoomyK s'.h n m->CO s'.h->Q (.tuple #[.int .i64 (4*k),.bool true]) H') :
  ac PP DO #[.pointer (some ⟨db,0,none⟩),.string y] Q H:=by
 have hbl:=cO y
 obtain ⟨k,sa,ea,hall,hst,hs0,hsame,hnone,k1,k2,hRa⟩:=rl hA.sd.all (l:=y.size) (by omega) hR hm
 have hk10:k≠10:=fun e=>by
  obtain ⟨o,ho,_⟩:=hco
  rw [e,ho] at hnone;cases hnone
 apply B4
 unfold k9 A0 iV wW pV sV lV cS
 refine eW ⟨by omega,by omega⟩ ⟨_,rfl,?_⟩
 refine lR hA.push (by omega) (te hA.sd.all hco ⟨by omega,by omega⟩ ea) hall (by rw [hst];exact Nat.le_refl _) (dA _ _ _) hA.out (by decide) fun H2 D2 s2 ws2 hA2 e2=>⟨_,_,rfl,?_⟩
 simp only [show ((0:Int) != 0)=false from rfl,cond_false]
 refine ⟨fun w H'=>∃(i:Nat) (D':az) (s':SP) (ws':List Int),w=[.int .i64 i]∧i<=y.size∧Beside H0 H' db D' s' t v ws' (N+1+i) []∧bU s'.h k ((ax y).take i++List.replicate (y.size-i) 0)∧dR s.h s'.h k∧RoomyK s'.h n m,fun w _=>match w with
  | [.int _ i]=>((y.size:Int)-i).toNat
  | _=>0,⟨0,D2,s2,ws2,rfl,Nat.zero_le _,hA2,by rw [e2];simpa using hs0,by rw [e2];exact hsame,by rw [e2];exact hRa⟩,?_⟩
 rintro w H3 ⟨i,D3,s3,ws3,rfl,hi,hA3,hs3,sm3,hR3⟩ _
 refine ⟨_,rfl,gg (fun hlt=>?_) fun hge=>?_⟩
 ·have hil:i<y.size:=by omega
  have e1:IntKind.wrap .i64 ((i:Int)+1)=((i+1:Nat):Int):=by rw [ah (by omega) (by omega)];omega
  have hg:y[i]?=some y[i]:=by simp [hil]
  have hu:=(y[i]).toNat_lt
  have eu:IntKind.wrap .i64 ((y[i]).toNat:Int)=((y[i]).toNat:Int):=ah (by omega) (by omega)
  have hbi:(ax y)[i]?=some ((y[i]).toNat:Int):=by
   unfold ax
   rw [List.getElem?_map,Array.getElem?_toList]
   have:y.data[i]?=some y[i]:=by
    have h1:i<y.data.size:=hil
    rw [Array.getElem?_eq_getElem h1];rfl
   rw [this];rfl
  have hlen:((ax y).take i++List.replicate (y.size-i) 0).length=y.size:=by rw [List.length_append,List.length_take,List.length_replicate,hbl];omega
  obtain ⟨s4,e4,hall4,hst4,hs4,sm4,hR4⟩:=tv hA3.sd.all hs3 k1 k2 (i:=i) (by omega) (w:=((y[i]).toNat:Int)) ⟨by omega,by omega⟩ hR3
  have hset:((ax y).take i++List.replicate (y.size-i) 0).set i ((y[i]).toNat:Int)=(ax y).take (i+1)++List.replicate (y.size-(i+1)) 0:=by
   have h1:((ax y).take i).length=i:=by rw [List.length_take,hbl];omega
   rw [List.take_add_one,hbi,List.set_append_right _ _ (by rw [h1];exact Nat.le_refl _),h1,Nat.sub_self]
   rw [show y.size-i=(y.size-(i+1))+1 by omega,List.replicate_succ]
   simp
  rw [hset] at hs4
  have hp:=sS hA3.sd.all hs3 (i:=i) (by omega) (by omega) (w:=((y[i]).toNat:Int)) ⟨by omega,by omega⟩ e4
  have ecast:(2*((i:Int)+1)+1)=2*((i+1:Nat):Int)+1:=by omega
  rw [ecast] at hp
  refine ⟨y[i],⟨by omega,by rw [Int.toNat_natCast];exact hg⟩,?_⟩
  rw [e1,eu]
  refine eW ⟨by omega,by omega⟩ ⟨_,rfl,eW ⟨by omega,by omega⟩ ⟨_,rfl,?_⟩⟩
  refine lX hA3.push (by omega) hp hall4 (by rw [hst4];exact Nat.le_refl _) rfl (xJ _ _ _ _) hA3.out (by decide) fun H5 D5 s5 ws5 hA5 e5=>⟨_,rfl,?_⟩
  rw [Bool.not_true,cond_false]
  exact ⟨⟨i+1,D5,s5,ws5,rfl,by omega,hA5,by rw [e5];exact hs4,by rw [e5];exact sm3.trans sm4,by rw [e5];exact hR4⟩,by simp;omega⟩
 ·have hi2:i=y.size:=by omega
  subst hi2
  rw [List.take_of_length_le (by omega),Nat.sub_self,List.replicate_zero,List.append_nil] at hs3
  exact h H3 D3 s3 ws3 k hA3 hs3 sm3 hnone hR3 (hco.same1 sm3 hk10)
end
theorem oU {H:ae}{x y:ByteArray} (hk:bY H) (ht:fS H):ac PP Ea #[.string x,.string y] (fun v H'=>v=.bool true∧Fr [] H H') H:=by
 apply CE
 unfold k3 A0 iV pV sV lV cS
 rw [af]
 refine aA (fun _=>⟨rfl,Fr.refl _ _⟩) fun hx=>?_
 rw [af]
 refine aA (fun _=>⟨rfl,Fr.refl _ _⟩) fun hy=>?_
 have hx3:x.size<=300:=by omega
 have hy3:y.size<=300:=by omega
 clear hx hy
 have lx:0<=lenOf x.size 1∧lenOf x.size 1<=80:=by unfold lenOf;rw [if_pos rfl];omega
 have ly:0<=lenOf y.size 1∧lenOf y.size 1<=80:=by unfold lenOf;rw [if_pos rfl];omega
 have lj:0<=lenOf (x++y).size 1∧lenOf (x++y).size 1<=160:=by unfold lenOf;rw [if_pos rfl,ByteArray.size_append];omega
 refine uW (k:=1977) (m:=19810) rfl rfl (by decide) (by decide) (by decide) hk ht fun H1 db D1 s1 t v ws1 hD hR1 ht1 ht2 hv co1 f1 lo=>⟨_,rfl,?_⟩
 simp only [Option.isNone_some,cond_false]
 have hA1:Beside H H1 db D1 s1 t v ws1 10 []:=⟨hD,f1,lo,by simp,hk.lt,ht.lt⟩
 clear hD f1 lo
 refine qM hA1 hx3 (by omega) co1 (n:=1976) (m:=19810-lenOf x.size 1) (by rw [show (19810-lenOf x.size 1+lenOf x.size 1)=19810 by omega];exact hR1) (by omega) fun H2 D2 s2 ws2 ka hA2 sa2 sm2 na hR2 co2=>⟨_,_,rfl,?_⟩
 refine qM hA2 hy3 (by omega) co2 (n:=1975) (m:=19810-lenOf x.size 1-lenOf y.size 1) (by rw [show (19810-lenOf x.size 1-lenOf y.size 1+lenOf y.size 1)=19810-lenOf x.size 1 by omega];exact hR2) (by omega) fun H3 D3 s3 ws3 kb hA3 sb3 sm3 nb hR3 co3=>⟨_,_,rfl,?_⟩
 have hab:ka≠kb:=fun e=>sa2.at (e ▸ nb)
 have sa3:=sa2.same1 sm3 hab
 clear hA1 hA2 sm2 sm3 na nb sa2 hR1 hR2 co1 co2
 simp only [Bool.not_true,cond_false]
 rw [show ((4*ka:Int) == 4*kb)=false by simp;omega,cond_false]
 refine dY hA3 sa3 (by omega) (by omega) fun H4 D4 s4 ws4 hA4 e4=>⟨_,rfl,?_⟩
 simp only [Bool.not_true,cond_false]
 refine dY hA4 (by rw [e4];exact sb3) (by omega) (by omega) fun H5 D5 s5 ws5 hA5 e5=>⟨_,rfl,?_⟩
 simp only [Bool.not_true,cond_false]
 have q5:=e5.trans e4
 have sa5:bU s5.h ka (ax x):=by rw [q5];exact sa3
 have sb5:bU s5.h kb (ax y):=by rw [q5];exact sb3
 have hR5:RoomyK s5.h 1975 (19810-lenOf x.size 1-lenOf y.size 1):=by rw [q5];exact hR3
 have co5:CO s5.h:=by rw [q5];exact co3
 clear hA3 hA4 e4 e5 q5 sa3 sb3 hR3 co3
 have bj:=cO (x++y)
 obtain ⟨kj,s6,em6,hall6,hst6,_,sj6,sm6,nj,_,_,hR6⟩:=jk hA5.sd.all (gj (x++y)) (by rw [bj,ByteArray.size_append];omega) (n:=1974) (m:=19810-lenOf x.size 1-lenOf y.size 1-lenOf (x++y).size 1) (by rw [bj,show (19810-lenOf x.size 1-lenOf y.size 1-lenOf (x++y).size 1+lenOf (x++y).size 1)=19810-lenOf x.size 1-lenOf y.size 1 by omega];exact hR5) (by omega)
 refine lR hA5.push (by omega) (rK hA5.sd.all sa5 sb5 (by omega) (by omega) em6) hall6 (by rw [hst6];exact Nat.le_refl _) (dA _ _ _) hA5.out (by decide) fun H6 D6 s6' ws6 hA6 e6=>⟨_,_,rfl,?_⟩
 have haj:ka≠kj:=fun e=>sa5.at (e ▸ nj)
 have hbj:kb≠kj:=fun e=>sb5.at (e ▸ nj)
 have sa6:bU s6'.h ka (ax x):=by rw [e6];exact sa5.same1 sm6 haj
 have sb6:bU s6'.h kb (ax y):=by rw [e6];exact sb5.same1 sm6 hbj
 have sj6':bU s6'.h kj (ax (x++y)):=by rw [e6];exact sj6
 have hR6':RoomyK s6'.h 1974 (19810-lenOf x.size 1-lenOf y.size 1-lenOf (x++y).size 1):=by rw [e6];exact hR6
 clear hA5 sa5 sb5 hR5 co5 em6 hall6 hst6 sj6 sm6 nj hR6 e6
 have bx:=cO x
 obtain ⟨kc,s7,em7,hall7,hst7,_,sc7,sm7,nc,_,_,hR7⟩:=jk hA6.sd.all (gj x) (by omega) (n:=1973) (m:=19810-lenOf x.size 1-lenOf y.size 1-lenOf (x++y).size 1-lenOf x.size 1) (by rw [bx,show (19810-lenOf x.size 1-lenOf y.size 1-lenOf (x++y).size 1-lenOf x.size 1+lenOf x.size 1)=19810-lenOf x.size 1-lenOf y.size 1-lenOf (x++y).size 1 by omega];exact hR6') (by omega)
 refine lR hA6 (by omega) (sg hA6.sd.all hv sa6 (by omega) em7) hall7 (by rw [hst7];exact Nat.le_refl _) (fU _) (fun p hp=>by cases hp) (by decide) fun H7 D7 s7' ws7 hA7 e7=>⟨_,_,rfl,?_⟩
 have hac:ka≠kc:=fun e=>sa6.at (e ▸ nc)
 have hbc:kb≠kc:=fun e=>sb6.at (e ▸ nc)
 have hjc:kj≠kc:=fun e=>sj6'.at (e ▸ nc)
 have sa7:bU s7'.h ka (ax x):=by rw [e7];exact sa6.same1 sm7 hac
 have sb7:bU s7'.h kb (ax y):=by rw [e7];exact sb6.same1 sm7 hbc
 have sj7:bU s7'.h kj (ax (x++y)):=by rw [e7];exact sj6'.same1 sm7 hjc
 have sc7':bU s7'.h kc (ax x):=by rw [e7];exact sc7
 have hR7':RoomyK s7'.h 1973 (19810-lenOf x.size 1-lenOf y.size 1-lenOf (x++y).size 1-lenOf x.size 1):=by rw [e7];exact hR7
 clear hA6 sa6 sb6 sj6' hR6' em7 hall7 hst7 sc7 sm7 nc hR7 e7
 simp only [show ((0:Int) != 0)=false from rfl,cond_false]
 rw [show ((4*kj:Int) == 4*ka)=false by simp;omega,show ((4*kj:Int) == 4*kb)=false by simp;omega,show ((4*kc:Int) == 4*ka)=false by simp;omega]
 simp only [cond_false]
 rw [af,if_neg (by rw [show IntKind.i64.max=9223372036854775807 from rfl];omega)]
 have szj:(x++y).size=x.size+y.size:=ByteArray.size_append
 refine dY hA7 sj7 (by omega) (by omega) fun H8 D8 s8 ws8 hA8 e8=>⟨_,rfl,?_⟩
 simp only [Bool.not_true,cond_false]
 refine dY hA8 (by rw [e8];exact sc7') (by omega) (by omega) fun H9 D9 s9 ws9 hA9 e9=>⟨_,rfl,?_⟩
 simp only [Bool.not_true,cond_false]
 refine dY hA9 (by rw [e9,e8];exact sa7) (by omega) (by omega) fun H10 D10 s10 ws10 hA10 e10=>⟨_,rfl,?_⟩
 simp only [Bool.not_true,cond_false]
 refine dY hA10 (by rw [e10,e9,e8];exact sb7) (by omega) (by omega) fun H11 D11 s11 ws11 hA11 e11=>⟨_,rfl,?_⟩
 simp only [Bool.not_true,cond_false]
 have q11:s11.h=s7'.h:=by rw [e11,e10,e9,e8]
 have sa11:bU s11.h ka (ax x):=by rw [q11];exact sa7
 have sb11:bU s11.h kb (ax y):=by rw [q11];exact sb7
 have sc11:bU s11.h kc (ax x):=by rw [q11];exact sc7'
 have hR11:RoomyK s11.h 1973 (19810-lenOf x.size 1-lenOf y.size 1-lenOf (x++y).size 1-lenOf x.size 1):=by rw [q11];exact hR7'
 clear hA7 hA8 hA9 hA10 e8 e9 e10 e11 q11 sa7 sb7 sc7' sj7 hR7'
 refine gq ⟨_,rfl,lX hA11.push (by omega) (oy hA11.sd.all sa11 sb11 (by omega) (by omega)) hA11.sd.all (Nat.le_refl _) rfl (dA _ _ _) hA11.out (by decide) fun H13 D13 s13 ws13 hA13 e13=>⟨_,rfl,?_⟩⟩
 simp only [Bool.not_true,cond_false]
 have sa13:bU s13.h ka (ax x):=by rw [e13];exact sa11
 have sb13:bU s13.h kb (ax y):=by rw [e13];exact sb11
 have sc13:bU s13.h kc (ax x):=by rw [e13];exact sc11
 refine gq ⟨_,rfl,lX hA13.push (by omega) (oy hA13.sd.all sa13 sc13 (by omega) (by omega)) hA13.sd.all (Nat.le_refl _) (by rw [fj,decide_eq_true rfl]) (dA _ _ _) hA13.out (by decide) fun H15 D15 s15 ws15 hA15 e15=>⟨_,rfl,?_⟩⟩
 simp only [Bool.not_true,cond_false]
 have sa15:bU s15.h ka (ax x):=by rw [e15];exact sa13
 have sb15:bU s15.h kb (ax y):=by rw [e15];exact sb13
 have sc15:bU s15.h kc (ax x):=by rw [e15];exact sc13
 refine gq ⟨_,rfl,lX hA15.push (by omega) (xh hA15.sd.all hv sa15 sc15) hA15.sd.all (Nat.le_refl _) (by rw [decide_eq_false (by omega)]) (dA _ _ _) hA15.out (by decide) fun H17 D17 s17 ws17 hA17 e17=>⟨_,rfl,?_⟩⟩
 simp only [Bool.not_true,cond_false]
 have sa17:bU s17.h ka (ax x):=by rw [e17];exact sa15
 have sb17:bU s17.h kb (ax y):=by rw [e17];exact sb15
 refine gq ⟨_,rfl,lX hA17.push (by omega) (tS hA17.sd.all sa17 sb17 (by omega) (by omega)) hA17.sd.all (Nat.le_refl _) rfl (dA _ _ _) hA17.out (by decide) fun H19 D19 s19 ws19 hA19 e19=>⟨_,rfl,?_⟩⟩
 simp only [Bool.not_true,cond_false]
 have q19:s19.h=s11.h:=by rw [e19,e17,e15,e13]
 have sa19:bU s19.h ka (ax x):=by rw [q19];exact sa11
 have hR19:RoomyK s19.h 1973 (19810-lenOf x.size 1-lenOf y.size 1-lenOf (x++y).size 1-lenOf x.size 1):=by rw [q19];exact hR11
 clear hA11 hA13 hA15 hA17 e13 e15 e17 e19 q19 sa11 sb11 sc11 sa13 sb13 sc13 sa15 sb15 sc15 sa17 sb17 hR11
 by_cases hbad:x.size<1∨96<x.size
 ·refine Dp hA19 (by omega) (by decide) (o6 hA19.sd.all sa19 (by omega) hbad) (fU _) (fun p hp=>by cases hp) (by decide) fun H20 D20 hA20=>⟨_,_,rfl,?_⟩
  rw [aU,af]
  refine aA (fun _=>⟨rfl,hA20.fr⟩) fun h0=>?_
  rw [af,if_pos (by omega)]
  exact ⟨rfl,hA20.fr⟩
 have hg:bi x:=⟨by omega,by omega⟩
 obtain ⟨n,t2,et,hall20,htx,hn,et2⟩:=vw hA19.sd.all hg (by omega) ht2
 refine lR hA19 (by omega) (oO hA19.sd.all sa19 (by omega) hbad hn et) hall20 (Nat.le_refl _) (fU _) (fun p hp=>by cases hp) (by decide) fun H20 D20 s20 ws20 hA20 e20=>⟨_,_,rfl,?_⟩
 rw [aU,af,if_neg (by omega),af,if_neg (by omega)]
 have sa20:bU s20.h ka (ax x):=by rw [e20];exact sa19
 have hR20:RoomyK s20.h 1973 (19810-lenOf x.size 1-lenOf y.size 1-lenOf (x++y).size 1-lenOf x.size 1):=by rw [e20];exact hR19
 obtain ⟨ky,s21,em21,hall21,hst21,_,sy21,sm21,ny,_,_,hR21⟩:=jk hA20.sd.all (gj x) (by omega) (n:=1972) (m:=19810-lenOf x.size 1-lenOf y.size 1-lenOf (x++y).size 1-lenOf x.size 1-lenOf x.size 1) (by rw [bx,show (19810-lenOf x.size 1-lenOf y.size 1-lenOf (x++y).size 1-lenOf x.size 1-lenOf x.size 1+lenOf x.size 1)=19810-lenOf x.size 1-lenOf y.size 1-lenOf (x++y).size 1-lenOf x.size 1 by omega];exact hR20) (by omega)
 refine lR hA20 (by omega) (nB hA20.sd.all hn htx (by omega) em21) hall21 (by rw [hst21];exact Nat.le_refl _) (fU _) (fun p hp=>by cases hp) (by decide) fun H21 D21 s21' ws21 hA21 e21=>⟨_,_,rfl,?_⟩
 have hay:ka≠ky:=fun e=>sa20.at (e ▸ ny)
 have sy21':bU s21'.h ky (ax x):=by rw [e21];exact sy21
 refine lR hA21 (by omega) (oO hA21.sd.all sy21' (by omega) hbad hn et2) hA21.sd.all (Nat.le_refl _) (fU _) (fun p hp=>by cases hp) (by decide) fun H22 D22 s22 ws22 hA22 e22=>⟨_,_,rfl,?_⟩
 simp only [beq_self_eq_true,cond_true]
 rw [show ((4*ky:Int) != 4*ka)=true by simp;omega,cond_true]
 refine dY hA22 (by rw [e22];exact sy21') (by omega) (by omega) fun H23 D23 s23 ws23 hA23 e23=>⟨_,rfl,?_⟩
 rw [cond_true]
 refine eW ⟨by omega,by omega⟩ ⟨_,rfl,lX hA23 (by omega) (nT hA23.sd.all hn htx (by omega)) hA23.sd.all (Nat.le_refl _) rfl (fU _) (fun p hp=>by cases hp) (by decide) fun H25 D25 s25 ws25 hA25 e25=>⟨_,rfl,rfl,hA25.fr⟩⟩
end Go.Proofs.YtgcoppcogllpbaaGreatDoor
namespace Kw
open Go
theorem px {W W':World}{may:MemPlace->Prop} (hf:Fr [] W.heap W'.heap) (ho:W'.os=W.os) (hout:W'.output=W.output):W.keptBut W' may:=by
 refine ⟨ho,hout,fun i hi=>?_⟩
 rw [hf.2 i hi (by simp)]
 cases h:W.heap[i]? with
 | none=>trivial
 | some o=>cases o <;> first | exact ⟨rfl,rfl,rfl,fun _ _=>rfl⟩ | exact .inr ⟨rfl,rfl⟩ | rfl
theorem post_law {H:Type}{enc:TypeId × Value->H}{P:Program}{f:Func}{s:ChangeSpec}{apart fresh handsOn:Bool}{W W':World}{args:Array Value}{v:Value}{ds gs:List (DataW H)}{before pa pv:List MemPlace}
  (hW:DataW.Whole enc P f.params.toList s.vars apart W args.toList ds gs before)
  (hres:∀ (b:Nat) (sp:Nat->Bool) (hd:Bool),DataW.TrodAll enc P W' b sp hd f.resultTypes.toList (v.resultList f.resultTypes.size) (s.fn H (ds++gs)).results [])
  (hargs:∀ sp:Nat->Bool,(∀ p∈before,sp p.block=true)->DataW.TrodAll enc P W' 0 sp true f.params.toList args.toList (s.fn H (ds++gs)).args pa)
  (hvars:∀ sp:Nat->Bool,(∀ p∈before,sp p.block=true)->DataW.TrodVars enc P W' sp s.vars (s.fn H (ds++gs)).vars pv)
  (hf:Fr [] W.heap W'.heap) (ho:W'.os=W.os) (hout:W'.output=W.output):s.post enc P f apart fresh handsOn false W args v W' :=
 ⟨ds,gs,before,[],pa,pv,hW,hres _ _ _,hargs _ (fun p hp=>by simpa using hW.lt p hp),hvars _ (fun p hp=>by simpa using hW.lt p hp),px hf ho hout,fun h=>by cases h⟩
end Kw
namespace Go.Proofs.YtgcoppcogllpbaaGreatDoor
open Kw
theorem DZ:ownKnob Tryz.prog.godebug=none:=by kernel_rfl
theorem tc : Tryz.prog.globalNamed "kiln/word.kinds" = some ap := by kernel_rfl
theorem B8 : Tryz.prog.globalNamed "internal/strconv.uint64pow10" = some gP := by kernel_rfl
theorem vO:(Tryz.prog.globals[ap]?).map (·.type)=some 94:=by kernel_rfl
theorem Cx:(Tryz.prog.globals[gP]?).map (·.type)=some 308:=by kernel_rfl
theorem Ar:Tryz.prog.underlying 94=some (.array 4 3):=by kernel_rfl
theorem Eg:Tryz.prog.underlying 308=some (.array 20 279):=by kernel_rfl
theorem Eo:Tryz.prog.underlying 3=some (.int .i64):=by kernel_rfl
theorem Ek:Tryz.prog.underlying 279=some (.int .u64):=by kernel_rfl
theorem DR:Tryz.prog.cellsOf 3=1:=by kernel_rfl
theorem DN:Tryz.prog.cellsOf 279=1:=by kernel_rfl
theorem DX:Tryz.prog.cellsOf 308=20:=by kernel_rfl
theorem tH {W:World}{n:String}{g:Nat}{cs:Array Value}{i:Nat}{v:Value} (hg:PP.globalNamed n=some g) (hv:W.var? PP n=some cs) (h:cs[i]?=some v):aa W.heap ⟨g,i,none⟩=some v:=by
 have:=World.var?_cell hg hv i
 rw [h] at this
 exact this
open Go.Lib in
theorem li {L : List (String × DataW Unit)} (hm : ("kiln/word.kinds", Rows.laid_kiln_word_kinds) ∈ L) {W : World} (h : laidMet PP L W) : bY W.heap := by
 obtain ⟨g, t, cs, fuel, p, hg, ht, hv, hd⟩ := laidMet.reads h (n := "kiln/word.kinds") (d := Rows.laid_kiln_word_kinds) hm
 obtain rfl:=Option.some.inj (tc.symm.trans hg)
 obtain rfl:=Option.some.inj (vO.symm.trans ht)
 have one:∀ i (k:Int),i<4->([3,1,2,1]:List Int)[i]?=some k->aa W.heap ⟨ap,i,none⟩=some (.int .i64 k):=by
  intro i k hi hk
  obtain ⟨fuel',d,q,he,hd'⟩:=array_elem Ar hd i hi
  rw [DR,Nat.mul_one] at hd'
  obtain ⟨n,hcs,hx,_⟩:=DataW.trod_int Eo hd'
  obtain ⟨hdx,_⟩:=Prod.mk.inj hx
  have hc:cs.toList[i]?=some (.int .i64 n):=by
   have:=congrArg (·[0]?) hcs
   simpa [List.getElem?_take,List.getElem?_drop] using this
  have hs:n=k:=by
   have e:some d=some (.lit (.int .i64 k):DataW Unit):=by
    rw [←he]
    rcases i with _ | _ | _ | _ | i
    all_goals first | omega | (cases hk;rfl)
   rw [hdx] at e
   simpa using e
  have hf:=tH tc hv (i:=i) (v:=.int .i64 n) (by rw [←hc];simp)
  rw [hs] at hf
  exact hf
 exact ⟨one 0 3 (by decide) rfl,one 1 1 (by decide) rfl,one 2 2 (by decide) rfl,one 3 1 (by decide) rfl⟩
open Go.Lib in
theorem oD {L : List (String × DataW Unit)} (hm : ("internal/strconv.uint64pow10", Rows.laid_internal_strconv_uint64pow10) ∈ L) {W : World} (h : laidMet PP L W) : fS W.heap := by
 obtain ⟨g, t, cs, fuel, p, hg, ht, hv, hd⟩ := laidMet.reads h (n := "internal/strconv.uint64pow10") (d := Rows.laid_internal_strconv_uint64pow10) hm
 obtain rfl:=Option.some.inj (B8.symm.trans hg)
 obtain rfl:=Option.some.inj (Cx.symm.trans ht)
 have hd':DataW.trod _ PP W _ _ _ fuel 308 cs.toList=some (tabData .u64 Lib.pow10Tab,p):=hd
 have hc:=cells_of_tab Eg Ek DN DX hd'
 unfold World.var? at hv
 rw [B8] at hv
 simp only [Option.bind_some] at hv
 cases hb:W.heap[gP]? with
 | none=>rw [hb] at hv;simp at hv
 | some ob =>
  rw [hb] at hv
  cases ob with
  | cells a b c =>
   simp only [Option.some.injEq] at hv
   subst hv
   refine ⟨(b,c),?_⟩
   rw [hb,←hc]
  | _=>simp at hv
end Go.Proofs.YtgcoppcogllpbaaGreatDoor
