/- Lemmas for RPQ: functions of the program as predicate transformers, and their contracts. -/
import Derived.Test.YtgjfejoohojokaaGreatDoorZQ4
import Derived.ProofKit
import Derived.Test.YtgjfejoohojokaaGreatDoorCards
import Derived.Test.YtgjfejoohojokaaGreatDoorTie
import Derived.LaidLaws
import Derived.Handed
import Derived.Lib.LaidU8
import Derived.Lib.LaidTab
import Derived.Deep.Strs
import Derived.WideKeyArgs
import Derived.SizedLaws
set_option linter.all false
set_option maxRecDepth 100000
set_option maxHeartbeats 4000000
namespace Go.Proofs.YtgjfejoohojokaaGreatDoor
open Kw
attribute [local irreducible] bf bR cn
def StepP.ok (H:ae) (x:StepP) (a:Option Addr) (l c:Nat):Prop:=Rd 1 H a l (ag x.args)∧l<=18000000000000
def ow (H:ae) (p:Addr) (x:StepP):Prop:=∃ a l c,(∀ j v,(x.vals a l c)[j]?=some v->aa H (p.add j)=some v)∧x.ok H a l c
def fQ (H:ae) (a:Option Addr) (n:Nat) (xs:List StepP):Prop:=xs.length=n∧∀ i x,xs[i]?=some x->∃ p,a=some p∧ow H (p.add (i*6)) x
theorem fQ.fr {H H':ae} (hf:Fr [] H H'){a:Option Addr}{n:Nat}{xs:List StepP} (h:fQ H a n xs):fQ H' a n xs :=
 ⟨h.1,fun i x hx=>by
  obtain ⟨p,hp,a',l,c,h1,h2,h3⟩:=h.2 i x hx
  exact ⟨p,hp,a',l,c,fun j v hv=>pS hf (h1 j v hv),Rd.nilF h2 hf,h3⟩⟩
theorem jD {s:SP}{v:KV}{G:Int->Prop} (hb:BO s.h (bO v)){o:Int}{i:Nat} (h:dw v o=some i) (ho:1<=o∧o<=65536):jB s v G (4*o):=by
 obtain ⟨hi,e⟩:=dm h
 have hm:v.cls[i]∈v.cls:=List.getElem_mem hi
 obtain ⟨f,l,hx⟩:=hb ((v.cls[i]).oop,48) (by
  unfold bO
  simp only [List.mem_cons,List.mem_map]
  exact .inr (.inr (.inr (.inr ⟨v.cls[i],hm,rfl⟩))))
 have e4:(4*o) / 4=o:=by omega
 simp only [e] at hx
 refine ⟨bB ho.1 ho.2,fun _=>?_⟩
 rw [e4]
 exact ⟨by rw [hx];simp,.inr (.inr (.inr (.inr (.inl ⟨_,hm,e⟩))))⟩
theorem wM {s:SP}{v:KV}{w10:Int} (hk:KS s v) (hp:PairV v) (hst:s.stack=[4,12,8,7,16,32,40,44,2,w10]) (hb:BO s.h (bO v)) (hw:∃ c∈v.cls,w10=4*c.oop):UI s v fun _=>False:=by
 obtain ⟨p4,p5,p6,p7,p8,p9,p10,p11,p12,_⟩:=hZ hp
 refine ⟨by rw [hst];simp,fun w hmem=>?_,hb,fun k h=>h.elim⟩
 rw [hst] at hmem
 have bw:∀ k:Int,(k=1∨k=2∨k=3)->(∃ c,(k,c)∈bO v)->jB s v (fun _=>False) (4*k):=fun k hk3 ⟨c,hc⟩=>by
  obtain ⟨f,l,hx⟩:=hb (k,c) hc
  have e4:(4*k) / 4=k:=by omega
  refine ⟨bB (by omega) (by omega),fun _=>?_⟩
  rw [e4]
  refine ⟨by rw [hx];simp,?_⟩
  rcases hk3 with h | h | h
  ·exact .inl h
  ·exact .inr (.inl h)
  ·exact .inr (.inr (.inl h))
 simp only [List.mem_cons,List.not_mem_nil,or_false] at hmem
 rcases hmem with rfl | rfl | rfl | rfl | rfl | rfl | rfl | rfl | rfl | rfl
 ·exact bw 1 (by decide) ⟨20,by simp [bO]⟩
 ·exact bw 3 (by decide) ⟨28,by simp [bO]⟩
 ·exact bw 2 (by decide) ⟨24,by simp [bO]⟩
 ·exact ⟨by decide,fun h=>absurd h (by decide)⟩
 ·exact jD hb p4 (by decide)
 ·exact jD hb p8 (by decide)
 ·exact jD hb p10 (by decide)
 ·exact jD hb p11 (by decide)
 ·exact ⟨by decide,fun h=>absurd h (by decide)⟩
 ·obtain ⟨c,hc,rfl⟩:=hw
  obtain ⟨i,hi,rfl⟩:=List.mem_iff_getElem.1 hc
  obtain ⟨f,l,hx⟩:=hb ((v.cls[i]).oop,48) (by
   unfold bO
   simp only [List.mem_cons,List.mem_map]
   exact .inr (.inr (.inr (.inr ⟨v.cls[i],hc,rfl⟩))))
  obtain ⟨o,ho',_⟩:=bA.1 hx
  have hmo:=au ho'
  have hg:=hk.wf.h.objs.good o hmo.1
  have g1:=hg.oop1
  have g2:=hg.oop2
  have g3:=hk.wf.h.o1
  have g4:o.oop=(v.cls[i]).oop:=hmo.2
  exact jD hb (hk.idx hi) ⟨by omega,by omega⟩
section
variable {H H1 H4:ae}{Q:QT}{db:Nat}{D:az}{s:SP}{t:TB}{v:KV}
theorem B3 (hQ:QD H db D s t v) (hl:10<s.stack.length) (hF:4∈s.stack.take 10∧8∈s.stack.take 10∧12∈s.stack.take 10){R:ae->Prop} (h:∀ H' D',QD H' db D' { s with stack:=s.stack.take 10 } t v->Up D H D' H'->R H') :
  ∃ q23,(some ⟨db,0,none⟩:Option Addr)=some q23∧∃ p24:Option Addr,aa H q23=some (.pointer p24)∧∃ q25,(some ⟨db,0,none⟩:Option Addr)=some q25∧∃ a26:Option Addr,∃ l26:Nat,∃ c26:Nat,aa H (q25.add 1)=some (.slice a26 l26 c26) ∧
   ac PP Dt #[.pointer p24] (fun v27 H5=>∃ p28:Option Addr,v27=.pointer p28∧((aa H5 (q25.add 1)=some (.slice a26 l26 c26)∧True)∧True) ∧
    ac PP Kv #[.pointer p28,.int .i64 (IntKind.wrap .i64 ((l26:Int)-10))] (fun v29 H6=>∃ n30:Int,v29=.int .i64 n30∧True∧∃ q31,(some ⟨db,0,none⟩:Option Addr)=some q31∧∃ a32:Option Addr,∃ l32:Nat,∃ c32:Nat,aa H6 (q31.add 1)=some (.slice a32 l32 c32)∧((0:Int)<=10∧10<=(c32:Int))∧∃ q33,(some ⟨db,0,none⟩:Option Addr)=some q33∧Wr H6 (q33.add 1)∧R (av H6 (q33.add 1) (.slice a32 (Int.toNat 10) c32))) H5) H:=by
 have hD:=hQ.dk
 have hln:=hQ.len
 have hlt:=hD.lt
 obtain ⟨b,F,a,l,c,G,rfl,hB,hO,hK,d1,d2,d3,d4,d5,d6⟩:=hD
 have hlw:s.stack.length=l:=by have:=hO.len;simpa [ag] using this
 subst hlw
 have hpl:=d6.lt
 have hgl:=hK.kinds.lt
 simp only [List.mem_cons,List.mem_append,not_or] at d4 d5
 obtain ⟨G',hU⟩:=hQ.ui
 refine ⟨_,rfl,_,hB.cell 0,_,rfl,_,_,_,hB.cell 1,cG hK fun sb F1 _ hS hsub _ hup=>⟨_,rfl,⟨⟨hB.cell 1,trivial⟩,trivial⟩,?_⟩⟩
 have e1:IntKind.wrap .i64 ((s.stack.length:Int)-10)=(s.stack.length:Int)-10:=ah (by omega) (by omega)
 rw [e1]
 refine me hS ⟨by omega,by omega⟩ fun H6 hS6 f6=>⟨_,rfl,trivial,?_⟩
 have edrop:(s.drop ((s.stack.length:Int)-10)).2={ s with stack:=s.stack.take 10 }:=by
  unfold SP.drop
  rw [if_neg (by omega)]
  simp only
  rw [show s.stack.length-((s.stack.length:Int)-10).toNat=10 by omega]
 have hK6:=hup H6 _ hS6 f6
 rw [edrop] at hK6
 have f6F:Fr F H H6:=f6.mono hsub
 have hB6:=hB.fr f6F d1
 have hO6:=hO.fr f6F d3
 have hcap:=hO.2.1
 refine ⟨_,rfl,_,_,_,hB6.cell 1,⟨by decide,by omega⟩,_,rfl,hB6.wr (o:=1) (by simp),?_⟩
 have fs:Fr [db] H6 (av H6 ((⟨db,0,none⟩:Addr).add 1) (.slice a (Int.toNat 10) c)):=Fr.set (by show db∈[db];simp)
 have hB7:aV (av H6 ((⟨db,0,none⟩:Addr).add 1) (.slice a (Int.toNat 10) c)) db #[.pointer (some ⟨b,0,none⟩),.slice a 10 c]:=hB6.set 1 _
 have hO7:bK 1 H6 a 10 c (ag (s.stack.take 10)) G:=by
  refine vg (m:=s.stack.length-10) (ys:=ag (s.stack.drop 10)) ?_ (by simp [ag];omega)
  rw [show 10+(s.stack.length-10)=s.stack.length by omega]
  have:ag (s.stack.take 10)++ag (s.stack.drop 10)=ag s.stack:=by
   unfold ag
   rw [←List.map_append,List.take_append_drop]
  rw [this];exact hO6
 have hst:∀ w∈s.stack.take 10,w∈s.stack:=fun w hw=>List.mem_of_mem_take hw
 have hks:=hQ.all.ks
 refine h _ (db :: (G++F)) ⟨⟨b,F,a,10,c,G,rfl,hB7,hO7.fr fs (fun x hx hm=>d2 (by rw [←List.mem_singleton.1 hm];exact hx)),hK6.fr fs (fun x hx hm=>d1 (by rw [←List.mem_singleton.1 hm];exact hx)) (by simpa using d4.1),d1,d2,d3,?_,?_,(d6.fr f6F d5.2.2).fr fs (by simpa using d5.1)⟩,⟨⟨{ hks.wf with many:=by simp only [List.length_take];omega,words:=fun w hw=>hks.wf.words w (hst w hw) },hks.gc,hks.op,hks.king,hks.view,hks.sep,hks.shape⟩,hQ.all.names,by simp only [List.length_take];omega⟩,hQ.pair,⟨G',hF,fun w hw=>hU.st w (hst w hw),hU.base,hU.gob⟩,by simp only [List.length_take];omega⟩ ?_
 ·simp only [List.mem_cons,List.mem_append,not_or];exact d4
 ·simp only [List.mem_cons,List.mem_append,not_or];exact d5
 ·refine ⟨⟨Nat.le_trans f6F.1 fs.1,fun y hy hn=>?_⟩,fun y hy=>.inl hy⟩
  simp only [List.mem_cons,List.mem_append,not_or] at hn
  rw [fs.2 y (Nat.lt_of_lt_of_le hy f6F.1) (by simpa using hn.1),f6F.2 y hy hn.2.2]
theorem sA {A:Nat} (hQ:QD H db D s t v) (h0:0<s.stack.length) (hl:s.stack.length<=4999){x:StepP}{a6:Option Addr}{l6 c6:Nat} (hB:aV H A #[.int .i64 x.kind,.int .i64 x.cls,.string x.sel,.int .i64 x.r,.slice a6 l6 c6,.int .i64 x.word]) (hr:Rd 1 H a6 l6 (ag x.args)) (hl6:l6<=18000000000000){R:ae->Prop}
  (h:∀ H' D' s' t' m,QD H' db D' s' t' v->s'.stack=s.stack++m->m.length<=1->Up D H D' H'->R H') :
  ∃ n34:Int,aa H (⟨A,0,none⟩:Addr)=some (.int .i64 n34)∧cond (n34 == 1) (∃ n35:Int,aa H (⟨A,0,none⟩:Addr)=some (.int .i64 n35)∧∃ n36:Int,aa H ((⟨A,0,none⟩:Addr).add 1)=some (.int .i64 n36)∧∃ s37:ByteArray,aa H ((⟨A,0,none⟩:Addr).add 2)=some (.string s37)∧∃ n38:Int,aa H ((⟨A,0,none⟩:Addr).add 3)=some (.int .i64 n38)∧∃ a39:Option Addr,∃ l39:Nat,∃ c39:Nat,aa H ((⟨A,0,none⟩:Addr).add 4)=some (.slice a39 l39 c39)∧∃ n40:Int,aa H ((⟨A,0,none⟩:Addr).add 5)=some (.int .i64 n40) ∧
   ac PP AV #[.pointer (some ⟨db,0,none⟩),.agg #[.int .i64 n35,.int .i64 n36,.string s37,.int .i64 n38,.slice a39 l39 c39,.int .i64 n40]] (fun v41 H7=>∃ b42:Bool,v41=.bool b42∧cond (!b42) (Q (.bool false) H7) (R H7)) H) (R H):=by
 refine ⟨_,hB.cell 0,?_⟩
 rw [aX,af]
 refine ap (fun _=>⟨_,hB.cell 0,_,hB.cell 1,_,hB.cell 2,_,hB.cell 3,_,_,_,hB.cell 4,_,hB.cell 5,xG hQ h0 hl hr hl6 fun H' D' s' t' m hQ' hst hm u=>⟨_,rfl,?_⟩⟩) fun _=>h H D s t [] hQ (by simp) (by simp) (Up.refl _ _)
 rw [Bool.not_true,cond_false]
 exact h H' D' s' t' m hQ' hst hm u
end
theorem pO {H:ae}{words oops:Int}{a:Option Addr}{l c:Nat}{xs:List StepP} (hk:cq H) (ht:d7 H) (hs:fQ H a l xs) (hl:l<=10000000000000):ac PP Ll #[.int .i64 words,.int .i64 oops,.slice a l c] (fun v H'=>v=.bool true∧Fr [] H H') H:=by
 apply II
 unfold k4 A0 iV wW pV sV lV cS;dsimp only [shH]
 refine wN (by decide) (by decide) (by decide) fun W hW=>⟨_,rfl,wN (by decide) (by decide) (by decide) fun O hO=>⟨_,rfl,?_⟩⟩
 refine vC (k:=(O-23).toNat) (m:=W-190) (by omega) (by omega) (by omega) (by omega) (by omega) hk ht fun H3 db D s t v w10 hD hv hst _ _ _ hp0 _ hbo hw10 f3 lo=>⟨_,rfl,?_⟩
 simp only [Option.isNone_some,cond_false]
 have hp:=hp0.v
 have hQ0:QD H3 db D s t v:=⟨by rw [hst];exact hD,hv,hp,⟨_,wM hv.ks hp hst hbo hw10⟩,by rw [hst];simp⟩
 have hl0:xs.length=l:=hs.1
 refine ⟨fun w H'=>∃(i:Nat) (D':az) (s':SP) (t':TB),w=[.int .i64 i]∧i<=l∧QD H' db D' s' t' v∧s'.stack.take 10=[4,12,8,7,16,32,40,44,2,w10]∧s'.stack.length<=4001∧Fr [] H H'∧∀ x∈D',H.size<=x,fun w _=>match w with
  | [.int _ i]=>((l:Int)-i).toNat
  | _=>0,⟨0,D,s,t,rfl,Nat.zero_le _,hQ0,by rw [hst];rfl,by rw [hst];simp,f3,lo⟩,?_⟩
 clear hQ0 hD hv hst hbo hw10 f3 lo
 rintro w H4 ⟨i,D4,s4,t4,rfl,hi,hQ,hF,hlen,f4,lo4⟩ _
 have h10:10<=s4.stack.length:=by
  have:=congrArg List.length hF
  simp only [List.length_take,List.length_cons,List.length_nil] at this
  omega
 refine ⟨_,rfl,cY (fun hlt=>?_) fun hge=>?_⟩
 ·have hil:i<xs.length:=by omega
  have e1:IntKind.wrap .i64 ((i:Int)+1)=((i+1:Nat):Int):=by rw [ah (by omega) (by omega)];omega
  obtain ⟨p,hpa,a6,l6,c6,hcells,hrd,hl6⟩:=hs.2 i xs[i] (List.getElem?_eq_getElem hil)
  generalize xs[i]=x at hcells hrd
  have cel:∀ j v,(x.vals a6 l6 c6)[j]?=some v->aa H4 ((p.add (i*6)).add j)=some v:=fun j v hv=>pS f4 (hcells j v hv)
  have cel0:aa H4 (p.add (i*6))=some (.int .i64 x.kind):=by
   have:=cel 0 _ rfl
   rw [Addr.add_zero'] at this
   exact this
  refine ⟨⟨by omega,hlt⟩,p,hpa,_,by rw [Int.toNat_natCast];exact cel0,_,by rw [Int.toNat_natCast];exact cel 1 _ rfl,_,by rw [Int.toNat_natCast];exact cel 2 _ rfl,_,by rw [Int.toNat_natCast];exact cel 3 _ rfl,_,_,_,by rw [Int.toNat_natCast];exact cel 4 _ rfl,_,by rw [Int.toNat_natCast];exact cel 5 _ rfl,?_⟩
  have hB0:=aV.new H4 #[.int .i64 0,.int .i64 0,.string (⟨#[]⟩:ByteArray),.int .i64 0,.slice none 0 0,.int .i64 0] 28
  refine MB hB0 rfl ?_
  simp only [tQ]
  have hB:=tj (v0:=.int .i64 x.kind) (v1:=.int .i64 x.cls) (v2:=.string x.sel) (v3:=.int .i64 x.r) (v4:=.slice a6 l6 c6) (v5:=.int .i64 x.word) hB0 rfl
  have f45:Fr [] H4 (pJ (H4.push (.cells #[.int .i64 0,.int .i64 0,.string (⟨#[]⟩:ByteArray),.int .i64 0,.slice none 0 0,.int .i64 0] 28)) H4.size (.int .i64 x.kind) (.int .i64 x.cls) (.string x.sel) (.int .i64 x.r) (.slice a6 l6 c6) (.int .i64 x.word)):=by
   have fp:=Fr.push [] H4 (.cells #[.int .i64 0,.int .i64 0,.string (⟨#[]⟩:ByteArray),.int .i64 0,.slice none 0 0,.int .i64 0] 28)
   have ff:=wF (H:=(H4.push (.cells #[.int .i64 0,.int .i64 0,.string (⟨#[]⟩:ByteArray),.int .i64 0,.slice none 0 0,.int .i64 0] 28))) (b:=H4.size) (v0:=.int .i64 x.kind) (v1:=.int .i64 x.cls) (v2:=.string x.sel) (v3:=.int .i64 x.r) (v4:=.slice a6 l6 c6) (v5:=.int .i64 x.word)
   exact ⟨Nat.le_trans fp.1 ff.1,fun y hy _=>by rw [ff.2 y (Nat.lt_of_lt_of_le hy fp.1) (by simp;omega),fp.2 y hy (by simp)]⟩
  generalize (pJ (H4.push (.cells #[.int .i64 0,.int .i64 0,.string (⟨#[]⟩:ByteArray),.int .i64 0,.slice none 0 0,.int .i64 0] 28)) H4.size (.int .i64 x.kind) (.int .i64 x.cls) (.string x.sel) (.int .i64 x.r) (.slice a6 l6 c6) (.int .i64 x.word))=HS at hB f45 ⊢
  have hA:H4.size<HS.size:=hB.lt
  have hD5:=hQ.dk.nil f45
  have hQ5:QD HS db D4 s4 t4 v:=⟨hD5,hQ.all,hQ.pair,hQ.ui,hQ.len⟩
  have f05:=f4.trans f45
  have hr5:=Rd.nilF hrd f05
  have hAD:H4.size∉D4:=fun hm=>by have:=hQ.dk.lt _ hm;omega
  have hten:4∈s4.stack.take 10∧8∈s4.stack.take 10∧12∈s4.stack.take 10:=by rw [hF];simp
  rw [e1]
  have nx:∀ {H0 H':ae}{D0 D':az}{s0 s':SP}{t':TB}{m:List Int},Up D4 HS D0 H0->QD H' db D' s' t' v->s'.stack=s0.stack++m->m.length<=1->s0.stack.length<=4000->s0.stack.take 10=[4,12,8,7,16,32,40,44,2,w10]->Up D0 H0 D' H' ->
    (∃(i':Nat) (D':az) (s':SP) (t':TB),([Value.int .i64 ((i+1:Nat):Int)]:List Value)=[.int .i64 i']∧i'<=l∧QD H' db D' s' t' v∧s'.stack.take 10=[4,12,8,7,16,32,40,44,2,w10]∧s'.stack.length<=4001∧Fr [] H H'∧∀ x∈D',H.size<=x)∧(((l:Int)-((i+1:Nat):Int)).toNat<((l:Int)-(i:Int)).toNat):=by
   intro H0 H' D0 D' s0 s' t' m u0 hQ' hst' hm hl0' hF0 u
   have u':=u0.trans u
   have hs0:10<=s0.stack.length:=by
    have:=congrArg List.length hF0
    simp only [List.length_take,List.length_cons,List.length_nil] at this
    omega
   refine ⟨⟨i+1,D',s',t',rfl,by omega,hQ',by rw [hst',List.take_append_of_le_length hs0];exact hF0,by rw [hst',List.length_append];omega,rH f05 u'.1 lo4,fun y hy=>?_⟩,by omega⟩
   rcases u'.2 y hy with h1 | h1
   ·exact lo4 y h1
   ·have:=f05.1;omega
  have behind:∀ {R:ae->Prop},10<s4.stack.length->(∀ H' D' s' t' m H0 D0,Up D4 HS D0 H0->QD H' db D' s' t' v->s'.stack=s4.stack.take 10++m->m.length<=1->Up D0 H0 D' H'->R H')->_:=fun {R} hl10 hR =>
   B3 hQ5 hl10 hten fun H6 D6 hQ6 u6=>sA (Q:=fun v H'=>v=.bool true∧Fr [] H H') (R:=R) hQ6 (by simp only [List.length_take];omega) (by simp only [List.length_take];omega) (hB.fr u6.1 hAD) (Rd.nilF hrd (rH f05 u6.1 lo4)) hl6 fun H' D' s' t' m hQ' hst' hm u=>hR H' D' s' t' m H6 D6 u6 hQ' hst' hm u
  have nxd:=fun (H':ae) (D':az) (s':SP) (t':TB) (m:List Int) (H0:ae) (D0:az) (u0:Up D4 HS D0 H0) (hQ':QD H' db D' s' t' v) (hst':s'.stack=s4.stack.take 10++m) (hm:m.length<=1) (u:Up D0 H0 D' H') =>
   nx (s0:={ s4 with stack:=s4.stack.take 10 }) u0 hQ' hst' hm (by simp only [List.length_take];omega) (by simp only [List.take_take];exact hF) u
  have here:∀ {R:ae->Prop},s4.stack.length<=4000->(∀ H' D' s' t' m,QD H' db D' s' t' v->s'.stack=s4.stack++m->m.length<=1->Up D4 HS D' H'->R H')->_:=fun {R} hl4 hR=>sA (Q:=fun v H'=>v=.bool true∧Fr [] H H') (R:=R) hQ5 (by omega) (by omega) hB hr5 hl6 hR
  have nxh:=fun (hl4:s4.stack.length<=4000) (H':ae) (D':az) (s':SP) (t':TB) (m:List Int) (hQ':QD H' db D' s' t' v) (hst':s'.stack=s4.stack++m) (hm:m.length<=1) (u:Up D4 HS D' H')=>nx (Up.refl _ _) hQ' hst' hm hl4 hF u
  obtain ⟨aw,cw,Gw,hcw,_,_⟩:=hD5.list
  refine ⟨_,hB.cell 0,?_⟩
  rw [aX,af]
  refine ap (fun _=>⟨_,rfl,_,_,_,hcw,cY (fun hgt=>?_) fun hle=>?_⟩) fun _=>⟨_,rfl,_,_,_,hcw,cY (fun hgt=>⟨_,rfl,_,_,_,hcw,cY (fun hgt2=>?_) fun hle2=>?_⟩) fun hle=>?_⟩
  ·exact behind (by omega) nxd
  ·exact here (by omega) (nxh (by omega))
  ·exact behind (by omega) nxd
  ·omega
  ·exact here (by omega) (nxh (by omega))
 ·have i3:mn 3:=⟨by decide,by decide⟩
  have i4:mn 4:=⟨by decide,by decide⟩
  have i7:mn 7:=⟨by decide,by decide⟩
  refine rE i3 ⟨_,rfl,rE i4 ⟨_,rfl,rE i7 ⟨_,rfl,?_⟩⟩⟩
  have hpr:=vc hQ.all (x:=⟨#[43]⟩) (by rfl) wK i3 i4
  have hres:(if (o7 3 4).2≠0 then (0,(o7 3 4).2) else fZ (o7 3 4).1)=(15,0):=by decide
  rw [hres] at hpr
  refine Id (hQ.dk.nil (Fr.push _ _ _)) (by omega) hpr (xy _ _ _) (Il hQ.dk (Fr.refl _ _)) (by decide) fun H' D' _ u=>⟨_,rfl,?_⟩
  have u':=z1 u
  exact ⟨rfl,rH f4 u'.1 lo4⟩
end Go.Proofs.YtgjfejoohojokaaGreatDoor
namespace Kw
open Go
theorem rk {W W':World}{may:MemPlace->Prop} (hf:Fr [] W.heap W'.heap) (ho:W'.os=W.os) (hout:W'.output=W.output):W.keptBut W' may:=by
 refine ⟨ho,hout,fun i hi=>?_⟩
 rw [hf.2 i hi (by simp)]
 cases h:W.heap[i]? with
 | none=>trivial
 | some o=>cases o <;> first | exact ⟨rfl,rfl,rfl,fun _ _=>rfl⟩ | exact .inr ⟨rfl,rfl⟩ | rfl
theorem post_law {H:Type}{enc:TypeId × Value->H}{P:Program}{f:Func}{s:ChangeSpec}{apart fresh handsOn:Bool}{W W':World}{args:Array Value}{v:Value}{ds gs:List (DataW H)}{before pa pv:List MemPlace}
  (hW:DataW.Whole enc P f.params.toList s.vars apart W args.toList ds gs before)
  (hres:∀ (b:Nat) (sp:Nat->Bool) (hd:Bool),DataW.TrodAll enc P W' b sp hd f.resultTypes.toList (v.resultList f.resultTypes.size) (s.fn H (ds++gs)).results [])
  (hargs:∀ sp:Nat->Bool,(∀ p∈before,sp p.block=true)->DataW.TrodAll enc P W' 0 sp true f.params.toList args.toList (s.fn H (ds++gs)).args pa)
  (hvars:∀ sp:Nat->Bool,(∀ p∈before,sp p.block=true)->DataW.TrodVars enc P W' sp s.vars (s.fn H (ds++gs)).vars pv)
  (hf:Fr [] W.heap W'.heap) (ho:W'.os=W.os) (hout:W'.output=W.output):s.post enc P f apart fresh handsOn false W args v W' :=
 ⟨ds,gs,before,[],pa,pv,hW,hres _ _ _,hargs _ (fun p hp=>by simpa using hW.lt p hp),hvars _ (fun p hp=>by simpa using hW.lt p hp),rk hf ho hout,fun h=>by cases h⟩
end Kw
namespace Go.Proofs.YtgjfejoohojokaaGreatDoor
open Kw
theorem K8:ownKnob Tryz.prog.godebug=none:=by kernel_rfl
theorem vG : Tryz.prog.globalNamed "kiln/word.kinds" = some ax := by kernel_rfl
theorem Gy : Tryz.prog.globalNamed "internal/strconv.uint64pow10" = some gP := by kernel_rfl
theorem zj:(Tryz.prog.globals[ax]?).map (·.type)=some 77:=by kernel_rfl
theorem Hk:(Tryz.prog.globals[gP]?).map (·.type)=some 343:=by kernel_rfl
theorem DS:Tryz.prog.underlying 77=some (.array 4 3):=by kernel_rfl
theorem Ly:Tryz.prog.underlying 343=some (.array 20 288):=by kernel_rfl
theorem wI:Tryz.prog.underlying 3=some (.int .i64):=by kernel_rfl
theorem K0:Tryz.prog.underlying 288=some (.int .u64):=by kernel_rfl
theorem wX:Tryz.prog.cellsOf 3=1:=by kernel_rfl
theorem K6:Tryz.prog.cellsOf 288=1:=by kernel_rfl
theorem K3:Tryz.prog.cellsOf 343=20:=by kernel_rfl
theorem vw {W:World}{n:String}{g:Nat}{cs:Array Value}{i:Nat}{v:Value} (hg:PP.globalNamed n=some g) (hv:W.var? PP n=some cs) (h:cs[i]?=some v):aa W.heap ⟨g,i,none⟩=some v:=by
 have:=World.var?_cell hg hv i
 rw [h] at this
 exact this
open Go.Lib in
theorem mD {L : List (String × DataW Unit)} (hm : ("kiln/word.kinds", Rows.laid_kiln_word_kinds) ∈ L) {W : World} (h : laidMet PP L W) : cq W.heap := by
 obtain ⟨g, t, cs, fuel, p, hg, ht, hv, hd⟩ := laidMet.reads h (n := "kiln/word.kinds") (d := Rows.laid_kiln_word_kinds) hm
 obtain rfl:=Option.some.inj (vG.symm.trans hg)
 obtain rfl:=Option.some.inj (zj.symm.trans ht)
 have one:∀ i (k:Int),i<4->([3,1,2,1]:List Int)[i]?=some k->aa W.heap ⟨ax,i,none⟩=some (.int .i64 k):=by
  intro i k hi hk
  obtain ⟨fuel',d,q,he,hd'⟩:=array_elem DS hd i hi
  rw [wX,Nat.mul_one] at hd'
  obtain ⟨n,hcs,hx,_⟩:=DataW.trod_int wI hd'
  obtain ⟨hdx,_⟩:=Prod.mk.inj hx
  have hc:cs.toList[i]?=some (.int .i64 n):=by
   have:=congrArg (·[0]?) hcs
   simpa [List.getElem?_take,List.getElem?_drop] using this
  have hs:n=k:=by
   have e:some d=some (.lit (.int .i64 k):DataW Unit):=by
    rw [←he]
    rcases i with _ | _ | _ | _ | i
    all_goals first | omega | (cases hk;rfl)
   rw [hdx] at e
   simpa using e
  have hf:=vw vG hv (i:=i) (v:=.int .i64 n) (by rw [←hc];simp)
  rw [hs] at hf
  exact hf
 exact ⟨one 0 3 (by decide) rfl,one 1 1 (by decide) rfl,one 2 2 (by decide) rfl,one 3 1 (by decide) rfl⟩
open Go.Lib in
theorem pN {L : List (String × DataW Unit)} (hm : ("internal/strconv.uint64pow10", Rows.laid_internal_strconv_uint64pow10) ∈ L) {W : World} (h : laidMet PP L W) : d7 W.heap := by
 obtain ⟨g, t, cs, fuel, p, hg, ht, hv, hd⟩ := laidMet.reads h (n := "internal/strconv.uint64pow10") (d := Rows.laid_internal_strconv_uint64pow10) hm
 obtain rfl:=Option.some.inj (Gy.symm.trans hg)
 obtain rfl:=Option.some.inj (Hk.symm.trans ht)
 have hd':DataW.trod _ PP W _ _ _ fuel 343 cs.toList=some (tabData .u64 Lib.pow10Tab,p):=hd
 have hc:=cells_of_tab Ly K0 K6 K3 hd'
 unfold World.var? at hv
 rw [Gy] at hv
 simp only [Option.bind_some] at hv
 cases hb:W.heap[gP]? with
 | none=>rw [hb] at hv;simp at hv
 | some ob =>
  rw [hb] at hv
  cases ob with
  | cells a b c =>
   simp only [Option.some.injEq] at hv
   subst hv
   refine ⟨(b,c),?_⟩
   rw [hb,←hc]
  | _=>simp at hv
end Go.Proofs.YtgjfejoohojokaaGreatDoor
namespace Go.Proofs.YtgjfejoohojokaaGreatDoor
open Kw Go.Deep
noncomputable def gv:Array Field:=match PP.underlying 28 with
 | some (.struct fs)=>fs
 | _=>#[]
theorem AX:PP.underlying 28=some (.struct gv):=by kernel_rfl
theorem qO:PP.underlying 22=some (.slice 28):=by kernel_rfl
theorem A6:PP.underlying 25=some (.slice 3):=by kernel_rfl
theorem Lb:PP.underlying 9=some .string:=by kernel_rfl
theorem HO:PP.underlying 26=some (.int .i64):=by kernel_rfl
theorem G9:PP.cellsOf 26=1:=by kernel_rfl
theorem Lp:PP.cellsOf 9=1:=by kernel_rfl
theorem Kz:PP.cellsOf 25=1:=by kernel_rfl
theorem Bi:PP.cellsOf 28=6:=by kernel_rfl
theorem KZ:PP.bytesOf 3=8:=by kernel_rfl
theorem KD:PP.bytesOf 28=72:=by kernel_rfl
theorem BL:(gv[0]?).map (fun f=>(f.type,f.offset))=some (3,0):=by kernel_rfl
theorem Bs:(gv[1]?).map (fun f=>(f.type,f.offset))=some (3,1):=by kernel_rfl
theorem Cg:(gv[2]?).map (fun f=>(f.type,f.offset))=some (9,2):=by kernel_rfl
theorem Dd:(gv[3]?).map (fun f=>(f.type,f.offset))=some (3,3):=by kernel_rfl
theorem vD:(gv[4]?).map (fun f=>(f.type,f.offset))=some (25,4):=by kernel_rfl
theorem DG:(gv[5]?).map (fun f=>(f.type,f.offset))=some (26,5):=by kernel_rfl
theorem dV {Hh:Type}{enc:TypeId × Value->Hh}{W:World}{n:Nat}{fs:Array Field}{cs:List Value}{xs:List (DataW Hh × List MemPlace)} (hlen:xs.length=fs.size)
  (h:∀ (i:Nat) (f:Field),fs[i]?=some f->DataW.trod enc PP W 0 (fun _=>true) true n f.type ((cs.drop f.offset).take (PP.cellsOf f.type))=xs[i]?){j:Nat}{t:TypeId}{off:Nat}
  (hf:(fs[j]?).map (fun f=>(f.type,f.offset))=some (t,off)) (hc:PP.cellsOf t=1):∃ y,xs[j]?=some y∧DataW.trod enc PP W 0 (fun _=>true) true n t ((cs.drop off).take 1)=some y:=by
 obtain ⟨f,hf1,hf2⟩:=Option.map_eq_some_iff.1 hf
 obtain ⟨rfl,rfl⟩:=Prod.mk.inj hf2
 have hj:j<fs.size:=by
  rcases Nat.lt_or_ge j fs.size with h1 | h1
  ·exact h1
  ·rw [Array.getElem?_eq_none h1] at hf1;cases hf1
 have hx:xs[j]?=some (xs[j]'(by omega)):=List.getElem?_eq_getElem (by omega)
 refine ⟨_,hx,?_⟩
 have:=h j f hf1
 rw [hc,hx] at this
 exact this
theorem ul {Hh:Type}{enc:TypeId × Value->Hh}{W:World}{n:Nat}{cs:List Value}{x:DataW Hh × List MemPlace} (h:DataW.trod enc PP W 0 (fun _=>true) true n 28 cs=some x) :
  ∃ y a l c,cs=StepP.vals y a l c∧Rd 1 W.heap a l (ag y.args)∧(l=0∨∃ m,(l+m)*8∈x.1.weights PP 28):=by
 obtain ⟨xs,n',_,rfl,hl,hxl,hx⟩:=DataW.trod_struct AX h
 rw [Bi] at hl
 obtain ⟨y0,e0,t0⟩:=dV hxl hx BL wX
 obtain ⟨y1,e1,t1⟩:=dV hxl hx Bs wX
 obtain ⟨y2,e2,t2⟩:=dV hxl hx Cg Lp
 obtain ⟨y3,e3,t3⟩:=dV hxl hx Dd wX
 obtain ⟨y4,e4,t4⟩:=dV hxl hx vD Kz
 obtain ⟨y5,e5,t5⟩:=dV hxl hx DG G9
 obtain ⟨k0,v0,_,_⟩:=DataW.trod_int wI t0
 obtain ⟨k1,v1,_,_⟩:=DataW.trod_int wI t1
 obtain ⟨s2,v2,_⟩:=DataW.trod_string Lb t2
 obtain ⟨k3,v3,_,_⟩:=DataW.trod_int wI t3
 obtain ⟨k5,v5,_,_⟩:=DataW.trod_int HO t5
 have hcs:∀ v4,(cs.drop 4).take 1=[v4]->cs=[.int .i64 k0,.int .i64 k1,.string s2,.int .i64 k3,v4,.int .i64 k5]:=fun v4 h4=>by
  match cs,hl with
  | [a,b,c,d,e,f],_ =>
   simp at v0 v1 v2 v3 v5 h4
   subst v0;subst v1;subst v2;subst v3;subst v5;subst h4
   rfl
 rcases Go.ChangeShapes.open_ints A6 wI wX t4 with ⟨h4,_⟩ | ⟨a,len,cap,zs,h4,_,hlc,_,hm,hy,hS,_⟩
 ·exact ⟨⟨k0,k1,s2,k3,[],k5⟩,none,0,0,hcs _ h4,⟨rfl,fun _=>rfl,fun p hp=>by cases hp⟩,.inl rfl⟩
 ·have hlz:len<=zs.length:=by rw [hm];simpa using hlc
  refine ⟨⟨k0,k1,s2,k3,zs.take len,k5⟩,some a,len,cap,hcs _ h4,⟨by simp [ag];omega,fun h=>(by cases h),fun p hp i hi=>?_⟩,.inr ⟨zs.length-len,?_⟩⟩
  ·cases hp
   have:=hS i (by omega)
   have hi':i<len:=by omega
   show W.cell? (a.add i)=_
   rw [this]
   simp only [ag,List.map_take,List.getElem?_take,List.getElem?_map]
   rw [if_pos hi',List.getElem?_eq_getElem (by omega)]
   simp only [Option.map_some,Option.some.injEq,Value.int.injEq,true_and]
   rw [List.getD_eq_getElem?_getD,List.getElem?_eq_getElem (by omega)]
   rfl
  ·simp only [DataW.weights,AX]
   have hj:(gv.toList.map (·.type))[4]?=some 25:=by
    obtain ⟨f,hf1,hf2⟩:=Option.map_eq_some_iff.1 vD
    obtain ⟨hf3,_⟩:=Prod.mk.inj hf2
    rw [List.getElem?_map,Array.getElem?_toList,hf1]
    simp [hf3]
   refine DataW.weights_mem_each hj (d:=y4.1) (by rw [List.getElem?_map,e4];rfl) _ ?_
   rw [hy]
   simp only [DataW.weights,A6,KZ]
   refine List.mem_cons.2 (.inl ?_)
   simp only [Go.ChangeShapes.lits,List.length_map,List.length_take,List.length_drop]
   omega
theorem g9 {Hh:Type}{P:Program}{e:TypeId}{d:DataW Hh}:∀ {ds:List (DataW Hh)},d∈ds->∀ n∈d.weights P e,n∈DataW.weightsAll P e ds
 | [],h,_,_=>by cases h
 | _ :: _,h,n,hn=>by
  simp only [DataW.weightsAll,List.mem_append]
  rcases List.mem_cons.1 h with rfl | h
  ·exact Or.inl hn
  ·exact Or.inr (g9 h n hn)
theorem rR {Hh:Type}{enc:TypeId × Value->Hh}{W:World}{v:Value}{d:DataW Hh}{p:List MemPlace} (h:DataW.Trod enc PP W 0 (fun _=>true) true 22 v d p)
  (hv:∃ a l c,v=.slice a l c) (hz:∀ n∈d.weights PP 22,n<=reachBytes):∃ a l c xs,v=.slice a l c∧fQ W.heap a l xs∧l<=10000000000000:=by
 obtain ⟨a0,l0,c0,rfl⟩:=hv
 obtain ⟨fuel,h⟩:=h
 rcases open_slice qO h with ⟨h0,_⟩ | ⟨a,len,cap,m,n,D,Pl,hcs,_,hlc,_,hm,hx,hel⟩
 ·have e:Value.slice a0 l0 c0=.slice none 0 0:=by simpa [Value.cells] using h0
  cases e
  exact ⟨none,0,0,[],rfl,⟨rfl,fun i x hx=>by simp at hx⟩,by omega⟩
 have e:Value.slice a0 l0 c0=.slice (some a) len cap:=by simpa [Value.cells] using hcs
 cases e
 obtain ⟨hd,_⟩:=Prod.mk.inj hx
 subst hd
 have hlm:l0<=m:=by rw [hm];simpa using hlc
 simp only [DataW.weights,qO,List.length_map,List.length_range,KD] at hz
 have hb:reachBytes=140737488351232:=by decide
 have hlen:l0<=10000000000000:=by
  have:=hz _ (List.mem_cons_self ..)
  rw [hb] at this
  omega
 have each:∀ i,i<l0->∃ y,ow W.heap (a.add (i*6)) y:=fun i hi=>by
  obtain ⟨cs',h1,h2⟩:=hel i (by omega)
  rw [Bi] at h1
  obtain ⟨y,b,l,c,rfl,h3,h5⟩:=ul h2
  obtain ⟨_,_,hc⟩:=World.cells?_some h1
  refine ⟨y,b,l,c,fun j v hv=>?_,h3,?_⟩
  ·have hj:j<6:=by
    rcases Nat.lt_or_ge j 6 with h | h
    ·exact h
    ·rw [List.getElem?_eq_none (by simpa [StepP.vals] using h)] at hv;cases hv
   have:=hc j hj
   rw [hv] at this
   exact this
  ·rcases h5 with h5 | ⟨m',h5⟩
   ·omega
   ·have:=hz ((l+m')*8) (List.mem_cons_of_mem _ (List.mem_append_left _ (g9 (List.mem_map.2 ⟨i,by simpa using hi,rfl⟩) _ h5)))
    rw [hb] at this
    omega
 obtain ⟨Y,hY⟩:∃ Y:Nat->StepP,∀ i,i<l0->ow W.heap (a.add (i*6)) (Y i):=by
  refine ⟨fun i=>if hi:i<l0 then Classical.choose (each i hi) else ⟨0,0,⟨#[]⟩,0,[],0⟩,fun i hi=>?_⟩
  simp only [dif_pos hi]
  exact Classical.choose_spec (each i hi)
 refine ⟨some a,l0,c0,(List.range l0).map Y,rfl,⟨by simp,fun i x hx=>⟨a,rfl,?_⟩⟩,hlen⟩
 have hi:i<l0:=by
  rcases Nat.lt_or_ge i l0 with h | h
  ·exact h
  ·rw [List.getElem?_eq_none (by simpa using h)] at hx;cases hx
 have:x=Y i:=by simpa [hi] using hx.symm
 rw [this]
 exact hY i hi
theorem xH:laidOutB PP=true:=by kernel_rfl
theorem uS {W W':World} (hf:Fr [] W.heap W'.heap){x:MemPlace} (hx:x.block<W.heap.size):W.sameAt W' x:=by
 cases x with
 | cell b off =>
  show aa W'.heap ⟨b,off,none⟩=aa W.heap ⟨b,off,none⟩
  have e:W'.heap[b]?=W.heap[b]?:=hf.2 b hx (by simp)
  unfold aa
  dsimp only
  rw [e]
 | map b=>exact hf.2 _ hx (by simp)
theorem tF {Hh:Type}{enc:TypeId × Value->Hh}{W W':World} (hf:Fr [] W.heap W'.heap){t:TypeId} (hr:PP.readableRec t=true) (hrow:t<PP.types.size){v:Value}{d:DataW Hh}{p:List MemPlace}
  (h:DataW.Trod enc PP W 0 (fun _=>true) true t v d p){sp:Nat->Bool} (hs:∀ x∈p,sp x.block=true):DataW.Trod enc PP W' 0 sp true t v d p:=by
 have hlt:∀ x∈p,x.block<W.heap.size:=fun x hx=>by
  obtain ⟨n,hn⟩:=h
  exact DataW.trod_lt n _ _ _ hn x hx
 exact WideElems.Trod_stays xH hr hrow h (fun x hx=>uS hf (hlt x hx)) hs
end Go.Proofs.YtgjfejoohojokaaGreatDoor
