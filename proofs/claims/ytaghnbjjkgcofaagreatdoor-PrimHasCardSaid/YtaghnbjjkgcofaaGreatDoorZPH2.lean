/- Lemmas for RPH: functions of the program as predicate transformers, and their contracts. -/
import Derived.Test.YtaghnbjjkgcofaaGreatDoorZPH1
import Derived.ProofKit
import Derived.JoinedOf
set_option linter.all false
set_option maxRecDepth 100000
set_option maxHeartbeats 4000000
namespace Go.Proofs.YtaghnbjjkgcofaaGreatDoor
open Kw
section
variable {H:aa}{Q:QT}
theorem gl {c n:Int}{x:ByteArray}{a:Option Addr}{l cc:Nat} (h:Q (.tuple #[.int .i64 0,.int .i64 2]) H):af PP iK #[.pointer none,.int .i64 c,.string x,.int .i64 n,.slice a l cc] Q H:=by
 apply hE
 unfold k9 A0 iV wW pV sV lV cS;dsimp only [shH]
 show af PP hJ #[.pointer none] _ H
 apply gv
 unfold jq pV
 exact ⟨_,rfl,h⟩
theorem fF {c n:Int}{x:ByteArray}{a:Option Addr}{l cc k:Nat} (hk:bi H k #[.pointer none,.pointer none]) (h:Q (.tuple #[.int .i64 0,.int .i64 2]) H):af PP iK #[.pointer (some ⟨k,0,none⟩),.int .i64 c,.string x,.int .i64 n,.slice a l cc] Q H:=by
 apply hE
 unfold k9 A0 iV wW pV sV lV cS;dsimp only [shH]
 show af PP hJ #[.pointer (some ⟨k,0,none⟩)] _ H
 apply gv
 unfold jq pV
 exact ⟨_,rfl,_,hk.cell 0,_,rfl,h⟩
theorem fB {n:Int} (h:Q (.int .i64 n) H):af PP iZ #[.int .i64 n] Q H:=by
 apply iC
 exact h
abbrev fi:ByteArray:=⟨#[115,112,111,105,108,116]⟩
abbrev iP:ByteArray:=⟨#[109,111,114,101]⟩
theorem gh (c:Int):(bX c).length<=31:=by
 rw [←(co c).length_eq];exact eq c
theorem fV {c:Int}{x:ByteArray}{a:Option Addr}{l cc:Nat}:af PP ju #[.int .i64 c,.string x,.slice a l cc] (fun v H'=>v=.bool true∧Fr [] H H') H:=by
 have hs1:aK PP 23=some (1,16,some (.string ⟨#[]⟩)):=by kernel_rfl
 have hsl:=gh c
 apply i5
 unfold k3 A0 iV wW pV sV lV cS;dsimp only [shH]
 refine bT fun a1 l1 c1 G1 H1 o1 f1 g1=>⟨_,_,_,rfl,?_⟩
 have e1:l1=(bX c).length:=by have:=o1.len;simpa [ay] using this.symm
 refine bT fun a2 l2 c2 G2 H2 o2 f2 g2=>⟨_,_,_,rfl,?_⟩
 have e2:l2=(bX c).length:=by have:=o2.len;simpa [ay] using this.symm
 have d12:∀ b∈G2,b∉G1:=fun b hb hm=>by have:=g2 b hb;have:=o1.lt b hm;omega
 have o1:=o1.fr f2 (by simp)
 have g2:∀ b∈G2,H.size<=b:=fun b hb=>Nat.le_trans f1.1 (g2 b hb)
 have f2:=f1.trans f2
 refine iY fun H3 f3=>⟨_,rfl,ib fun H4 f4=>⟨_,rfl,?_⟩⟩
 rw [beq_self_eq_true,Bool.not_true,cond_false]
 have f34:=f3.trans f4
 have o1:=o1.fr f34 (by simp)
 have o2:=o2.fr f34 (by simp)
 have f2:=f2.trans f34
 clear f3 f4 f34
 refine bh fun a5 l5 c5 G5 H5 o5 f5 _=>⟨_,_,_,rfl,?_⟩
 have o1:=o1.fr f5 (by simp)
 have o2:=o2.fr f5 (by simp)
 have f2:=f2.trans f5
 refine bq o1.rd o5.rd (by omega) ⟨_,rfl,?_⟩
 rw [decide_eq_true rfl,Bool.not_true,cond_false]
 refine bh fun a7 l7 c7 G7 H7 o7 f7 _=>⟨_,_,_,rfl,?_⟩
 have o1:=o1.fr f7 (by simp)
 have o2:=o2.fr f7 (by simp)
 have f2:=f2.trans f7
 refine bq o2.rd o7.rd (by omega) ⟨_,rfl,?_⟩
 rw [decide_eq_true rfl,Bool.not_true,cond_false]
 clear o5 o7 f5 f7
 refine ⟨fun w H'=>∃(i:Nat) (rest:List Value),w=[.int .i64 i]∧i<=l1∧bp 1 H' a1 l1 c1 (List.replicate i (.string fi)++rest) G1∧Fr G1 H7 H',fun w _=>match w with
  | [.int _ i]=>((l1:Int)-i).toNat
  | _=>0,⟨0,_,rfl,Nat.zero_le _,o1,Fr.refl _ _⟩,?_⟩
 rintro w H8 ⟨i,rest,rfl,hi,o8,f8⟩ _
 have hlen:=o8.len
 simp only [List.length_append,List.length_replicate,Nat.mul_one] at hlen
 refine ⟨_,rfl,fo (fun hlt=>?_) fun hge=>?_⟩
 ·have e4:IntKind.wrap .i64 ((i:Int)+1)=((i+1:Nat):Int):=by rw [aE (by omega) (by omega)];omega
  have hil:i<l1:=by omega
  obtain ⟨b,hb,hw,hf,hput⟩:=gE o8 hil (.string fi)
  rw [e4,Int.toNat_natCast]
  refine ⟨⟨by omega,hlt⟩,_,hb,?_⟩
  rw [bf,Nat.zero_add,Nat.mul_one]
  cases rest with
  | nil=>simp at hlen;omega
  | cons r rest =>
   rw [gn] at hput
   exact ⟨hw,⟨i+1,rest,rfl,by omega,hput,f8.trans hf⟩,by simp;omega⟩
 have ei:i=l1:=by omega
 have er:rest=[]:=List.eq_nil_of_length_eq_zero (by omega)
 subst ei er
 rw [List.append_nil] at o8
 have o2:=o2.fr f8 d12
 have f2:Fr [] H H8:=⟨Nat.le_trans f2.1 f8.1,fun b hb _=>by
  rw [f8.2 b (Nat.lt_of_lt_of_le hb f2.1) (fun hm=>by have:=g1 b hm;omega),f2.2 b hb (by simp)]⟩
 clear f8 o1 hge hlen hi f1
 refine ⟨fun w H'=>∃(j:Nat) (a:Option Addr) (n:Nat) (G:aA),w=[.slice a (i+j) n,.int .i64 j]∧j<=64∧GrownG H8 H' (a1,i,c1) G1 (List.replicate i (.string fi)) (List.replicate j (.string iP)) a n G,fun w _=>match w with
  | [_,.int _ j]=>((64:Int)-j).toNat
  | _=>0,⟨0,_,_,_,rfl,Nat.zero_le _,GrownG.start o8⟩,?_⟩
 rintro w H9 ⟨j,a9,n9,G9,rfl,hj,gr⟩ _
 refine ⟨_,_,_,_,rfl,fo (fun hlt=>?_) fun hge=>?_⟩
 ·have e4:IntKind.wrap .i64 ((j:Int)+1)=((j+1:Nat):Int):=by rw [aE (by omega) (by omega)];omega
  rw [e4]
  refine gr.app (by simp) hs1 rfl (by kernel_rfl) rfl (by omega) (by decide) (by decide) fun a' c' G' H' gr'=>⟨_,_,_,rfl,⟨j+1,a',c',G',rfl,by omega,?_⟩,by simp;omega⟩
  rw [fO] at gr'
  exact gr'
 have ej:j=64:=by omega
 subst ej
 have e64:IntKind.wrap .i64 ((i:Int)+64)=((i+64:Nat):Int):=by rw [aE (by omega) (by omega)];omega
 rw [e64,iU,ap,if_neg (fun h=>h rfl)]
 have o9:=gr.old
 have u9:=gr.up
 clear gr
 have o2:=o2.fr u9.1 d12
 have f2:Fr [] H H9:=⟨Nat.le_trans f2.1 u9.1.1,fun b hb _=>by
  rw [u9.1.2 b (Nat.lt_of_lt_of_le hb f2.1) (fun hm=>by have:=g1 b hm;omega),f2.2 b hb (by simp)]⟩
 refine bh fun a5 l5 c5 G5 H10 o5 f5 _=>⟨_,_,_,rfl,?_⟩
 have o9:=o9.fr f5 (by simp)
 have o2:=o2.fr f5 (by simp)
 have f2:=f2.trans f5
 refine bq o2.rd o5.rd (by omega) ⟨_,rfl,?_⟩
 rw [decide_eq_true rfl,Bool.not_true,cond_false]
 refine bT fun a6 l6 c6 G6 H11 o6 f6 _=>⟨_,_,_,rfl,?_⟩
 have e6:l6=(bX c).length:=by have:=o6.len;simpa [ay] using this.symm
 refine bh fun a7 l7 c7 G7 H12 o7 f7 _=>⟨_,_,_,rfl,?_⟩
 have f67:=f6.trans f7
 have o9:=o9.fr f67 (by simp)
 have f2:=f2.trans f67
 have o6:=o6.fr f7 (by simp)
 refine bq o6.rd o7.rd (by omega) ⟨_,rfl,?_⟩
 rw [decide_eq_true rfl,Bool.not_true,cond_false]
 refine ⟨fun w H'=>∃ j:Nat,w=[.int .i64 j]∧j<=i∧H'=H12,fun w _=>match w with
  | [.int _ j]=>((i:Int)-j).toNat
  | _=>0,⟨0,rfl,Nat.zero_le _,rfl⟩,?_⟩
 rintro w H13 ⟨j,rfl,hj,rfl⟩ _
 refine ⟨_,rfl,fo (fun hlt=>?_) fun hge=>?_⟩
 ·have e4:IntKind.wrap .i64 ((j:Int)+1)=((j+1:Nat):Int):=by rw [aE (by omega) (by omega)];omega
  have hji:j<i:=by omega
  rcases o9.2.2 with ⟨_,h2,_⟩ | ⟨b,cs,hb,_,_⟩
  ·have:=o9.2.1;simp only at h2 this;omega
  ·have hc:=o9.rd.2.2 _ hb j (by simp only;omega)
   rw [List.getElem?_replicate_of_lt hji] at hc
   rw [e4,Int.toNat_natCast]
   refine ⟨⟨by omega,hlt⟩,_,hb,_,by rw [Nat.mul_one];exact hc,?_⟩
   rw [bF,decide_eq_true rfl,Bool.not_true,cond_false]
   exact ⟨⟨j+1,rfl,by omega,rfl⟩,by simp;omega⟩
 refine gl ⟨_,_,rfl,?_⟩
 refine fF (bi.new _ _ _) ⟨_,_,rfl,?_⟩
 simp only [beq_self_eq_true,cond_true]
 refine fB ⟨_,rfl,?_⟩
 simp only [beq_self_eq_true,cond_true]
 exact fB ⟨_,rfl,rfl,f2.trans (Fr.push _ _ _)⟩
end
end Go.Proofs.YtaghnbjjkgcofaaGreatDoor
namespace Kw
open Go
theorem fk {W W':World}{may:MemPlace->Prop} (hf:Fr [] W.heap W'.heap) (ho:W'.os=W.os) (hout:W'.output=W.output):W.keptBut W' may:=by
 refine ⟨ho,hout,fun i hi=>?_⟩
 rw [hf.2 i hi (by simp)]
 cases h:W.heap[i]? with
 | none=>trivial
 | some o=>cases o <;> first | exact ⟨rfl,rfl,rfl,fun _ _=>rfl⟩ | exact .inr ⟨rfl,rfl⟩ | rfl
theorem post_law {H:Type}{enc:TypeId × Value->H}{P:Program}{f:Func}{s:ChangeSpec}{apart fresh handsOn:Bool}{W W':World}{args:Array Value}{v:Value}{ds gs:List (DataW H)}{before pa pv:List MemPlace}
  (hW:DataW.Whole enc P f.params.toList s.vars apart W args.toList ds gs before)
  (hres:∀ (b:Nat) (sp:Nat->Bool) (hd:Bool),DataW.TrodAll enc P W' b sp hd f.resultTypes.toList (v.resultList f.resultTypes.size) (s.fn H (ds++gs)).results [])
  (hargs:∀ sp:Nat->Bool,(∀ p∈before,sp p.block=true)->DataW.TrodAll enc P W' 0 sp true f.params.toList args.toList (s.fn H (ds++gs)).args pa)
  (hvars:∀ sp:Nat->Bool,(∀ p∈before,sp p.block=true)->DataW.TrodVars enc P W' sp s.vars (s.fn H (ds++gs)).vars pv)
  (hf:Fr [] W.heap W'.heap) (ho:W'.os=W.os) (hout:W'.output=W.output):s.post enc P f apart fresh handsOn false W args v W' :=
 ⟨ds,gs,before,[],pa,pv,hW,hres _ _ _,hargs _ (fun p hp=>by simpa using hW.lt p hp),hvars _ (fun p hp=>by simpa using hW.lt p hp),fk hf ho hout,fun h=>by cases h⟩
end Kw
namespace Kw
open Go
theorem joined_of {P:Program}{f:FuncId}{fn:Func}{s:ChangeSpec}{c:OpenClaim} (h1:c.wf (OpenSpec.ofChange s)=true) (h2:laidOutB P=true) (h3:mapsRowed P=true) (h4:fn.params.all (P.readableRec ·)=true) (h5:namedTie P c.named s.vars=true)
  (h6:(c.stops == [])=true) (h7:(P.stops == [])=true) (h8:(c.knobs == [])=true) (h9:(P.stopKnobs == [])=true) (h10:(c.inPlace == P.inPlace f)=true) (h11:(c.unfollowed == P.unfollowed f)=true) (h12:(c.recurses == P.recurses f)=true) (h13:(c.named == P.varsNamed f)=true)
  (h14:(c.maps == (fn.params.toList++s.plain.varTypes P).any (P.mapsRec ·))=true) (h15:(c.ifaces == (fn.params.toList++s.plain.varTypes P).any (P.ifacesRec ·))=true) (h16:(c.mapsOut == P.mapsAmong fn.resultTypes.toList)=true)
  (h17:(c.loops == (fn.params.toList++s.plain.varTypes P).any (P.loopsFrom ·))=true) (h18:(c.wideKeys == (fn.params.toList++s.plain.varTypes P++fn.resultTypes.toList).any (P.wideKeysFrom ·))=true)
  (h19:s.vars.all (P.varReadable ·)=true) (h20:fn.resultTypes.all (fun t=>P.readableRec t && decide (t<P.types.size))=true) (h21:(c.ifacesOut == fn.resultTypes.toList.any (P.ifacesRec ·))=true) (h22:(c.loopsOut == fn.resultTypes.toList.any (P.loopsFrom ·))=true) (h23:(c.plainKeys == P.plainKeys)=true) (h24:c.shortTexts.isNone=true) (h25:P.stopsHeard=true)
  (h28:P.mayEnter=true) (h29:(c.lifted == P.liftsFinal)=true) (h30:(P.make == some c.make)=true) (h31:c.domain=[]) (h33:c.kinds=[]) (h32:(c.pinned == c.pinnedBy)=true)
  (h26:(c.veiled == (fn.params.toList++s.plain.varTypes P++fn.resultTypes.toList).any (P.veiledRec ·))=true) (h27:c.veiledFits P fn.params.toList (fn.params.toList++s.plain.varTypes P++fn.resultTypes.toList)=true):joinedFacts P f fn s c=true:=by
 unfold joinedFacts
 simp only [h1,h2,h3,h4,h5,h6,h7,h8,h9,h10,h11,h12,h13,h14,h15,h16,h17,h18,h19,h20,h21,h22,h23,h24,h25,h26,h27,h28,h29,h30,h32,Bool.and_self,h31,h33,List.isEmpty_nil,if_true,beq_self_eq_true]
end Kw
