/- Lemmas for RLists: functions of the program as predicate transformers, and their contracts. -/
import Derived.Test.YtmkdkplipbocjaaGreatDoorZL3
set_option linter.all false
set_option maxRecDepth 100000
set_option maxHeartbeats 4000000
namespace Kw
open Go
def KV.addC (v:KV) (c:CV) (d:Int):KV:={ v with cls:=v.cls++[c],clsA:=d }
def KV.addG (v:KV) (n:Nat) (d:Int):KV:={ v with glob:=v.glob++[(n,4)],globA:=d }
theorem KS.fresh {s:SP}{v:KV} (h:KS s v){o:Int} (hn:¬ Reaches s.h s.roots o):∀ p∈v.roles,p.1≠o:=fun p hp he=>hn (he ▸ h.reach p hp)
theorem keeps_roots {s s':SP}{v:KV} (h:KS s v) (h':KS s' v){l:List Int} (e:s'.stack=s.stack++l):∀ w∈s.roots,w∈s'.roots:=by
 intro w hw
 rw [h.roots] at hw
 rw [h'.roots,e]
 simp only [List.mem_cons,List.mem_append] at hw ⊢
 rcases hw with h | h
 ·exact .inl h
 ·exact .inr (.inl h)
theorem up_arr {s:SP}{v:KV} (h:KS s v){j:Nat} (hj:j<v.cls.length):1≤(v.cls[j]).oop∧(v.cls[j]).oop≤65536:=by
 have:=(h.view.cls hj).bnd h.wf.h
 exact ⟨this.1,this.2.1⟩
theorem clsSlots_words {n up l:Int}{k:Nat} (hn:isW n) (hu:isW (4*up)) (hl:isW l) (hk:k≤1000):∀ w∈clsSlots n up l k,isW w:=by
 intro w hw
 simp only [clsSlots,List.mem_cons,List.not_mem_nil,or_false] at hw
 rcases hw with rfl | rfl | rfl | rfl | rfl | rfl | rfl
 ·exact hn
 ·exact hu
 ·exact hl
 ·decide
 ·decide
 ·decide
 ·unfold isW;have:=kind_cases (2*((k:Int)+1)+1);omega
theorem clsW_words {s:SP}{v:KV} (h:KS s v):∀ w∈v.clsW,isW w:=fun w hw=>(h.view.all.bnd h.wf.h).2.2.2 w hw
theorem globW_words {s:SP}{v:KV} (h:KS s v):∀ w∈globW v.glob,isW w:=fun w hw=>(h.view.globs.bnd h.wf.h).2.2.2 w hw
theorem kDef3_ok {s:SP}{v:KV}{t:TB} (hk:KS s v) (hst:s.stack.length<65000){c l:Int}{n:Nat}{ns:List Nat}{j:Nat} (hj:j<v.cls.length) (hlt:v.cls.length<256)
  (hc1:1≤c) (hc2:c≤65536) (hcr:Reaches s.h s.roots c) (hlr:Reaches s.h s.roots l) (hca:Arr s.h c (clsSlots (symW n) (v.cls[j]).oop (4*l) v.cls.length)) (hla:Arr s.h l (ns.map symW))
  (hcf:∀ p∈v.roles,p.1≠c) (hlf:ns=[]∧l=18∨∀ p∈v.roles,p.1≠l) (hcl:c≠l) :
  KeepsB s.h (kDef3 s t v.clsW (4*c)).2.1.h (fun k=>Reaches s.h s.roots k∧k≠19)∧(kDef3 s t v.clsW (4*c)).2.2=t∧(∃ m,(kDef3 s t v.clsW (4*c)).2.1.stack=s.stack++m∧m.length≤1) ∧
  ((kDef3 s t v.clsW (4*c)).1.2≠0→KS (kDef3 s t v.clsW (4*c)).2.1 v∧KeepsB s.h (kDef3 s t v.clsW (4*c)).2.1.h (Reaches s.h s.roots)) ∧
  ((kDef3 s t v.clsW (4*c)).1.2=0→(kDef3 s t v.clsW (4*c)).1.1=c∧∃ d,KS (kDef3 s t v.clsW (4*c)).2.1 (v.addC ⟨c,n,(v.cls[j]).oop,ns,l,18,18,[],[],0⟩ d)):=by
 have hws:∀ w∈v.clsW++[4*c],isW w:=fun w hw=>by
  rcases List.mem_append.1 hw with hw | hw
  ·exact clsW_words hk w hw
  ·simp only [List.mem_singleton] at hw;rw [hw];exact isW_obj hc1 hc2
 obtain ⟨h1,h2,⟨m,h3,h3'⟩,h4⟩:=array_ok hk (by omega) hws
 unfold kDef3
 by_cases he:(s.array (v.clsW++[4*c])).1.2=0
 ·rw [if_neg (by simpa using he)]
  obtain ⟨d,e1,d1,d2,hda,hdr,hdn⟩:=h4 he
  have hdn:¬ Reaches s.h s.roots d:=by
   rcases hdn with h | h
   ·simp at h
   ·exact h
  rw [e1]
  generalize (s.array (v.clsW++[4*c])).2=s1 at *
  obtain ⟨g1,g2,g3,g4,g5,g6,g7⟩:=setRoot_keeps h1 (i:=0) (w:=4*d) (by decide) (by decide) (isW_obj d1 d2)
  generalize (s1.setRoot 0 (4*d)).2=s2 at *
  have hdf:∀ p∈v.roles,p.1≠d:=hk.fresh hdn
  have r19:((19,v.rootW):Role)∈v.roles:=by simp [KV.roles]
  have r18:((18,[]):Role)∈v.roles:=by simp [KV.roles]
  have hc19:c≠19:=fun e=>hcf _ r19 e.symm
  have hd19:d≠19:=fun e=>hdf _ r19 e.symm
  have hl19:l≠19:=by
   rcases hlf with ⟨_,h⟩ | h
   ·omega
   ·exact fun e=>h _ r19 e.symm
  have hc18:c≠18:=fun e=>hcf _ r18 e.symm
  have hdc:d≠c:=fun e=>hdn (e ▸ hcr)
  have hdl:d≠l:=fun e=>hdn (e ▸ hlr)
  have h2k:KeepsB s.h s2.h fun k=>Reaches s.h s.roots k∧k≠19:=(h2.mono fun k hk=>hk.1).trans (g2.mono fun k hk=>hk.2)
  have hne:=sep_head hk.view hk.sep
  refine ⟨h2k,rfl,⟨m,by rw [g6,h3],h3'⟩,fun h=>absurd rfl h,fun _=>⟨by show 4*c / 4=c;omega,d,g3,g7,g5,g4,?_,?_,?_⟩⟩
  ·
   refine View.of ?_ ?_ ?_ ?_ ?_ ?_
   ·simpa [KV.rootW,KV.addC] using g1
   ·have:=hda.keep g2 hd19
    simpa [KV.addC,KV.clsW] using this
   ·exact (h1.view.globs).keep g2 (hne (v.globA,globW v.glob) (by simp))
   ·exact (h1.view.nil).keep g2 (by decide)
   ·exact (h1.view.empty).keep g2 (by decide)
   ·intro p hp
    simp only [KV.addC,croles_append,List.mem_append,Nat.zero_add,croles,List.append_nil] at hp
    rcases hp with hp | hp
    ·exact (h1.view p (by simp [KV.roles,hp])).keep g2 (hne p (by simp [hp]))
    ·simp only [crole,List.mem_cons,List.not_mem_nil,or_false] at hp
     rcases hp with rfl | rfl | rfl | rfl
     ·have:=hca.keep h2k ⟨hcr,hc19⟩
      simpa [CV.slots,clsSlots] using this
     ·exact hla.keep h2k ⟨hlr,hl19⟩
     ·exact (h1.view.empty).keep g2 (by decide)
     ·exact (h1.view.empty).keep g2 (by decide)
  ·
   have hs:=hk.sep
   unfold Sep at hs ⊢
   simp only [KV.roles,KV.addC,croles_append,croles,List.append_nil,Nat.zero_add] at hs ⊢
   rw [List.pairwise_cons,List.pairwise_cons] at hs
   obtain ⟨hs1,hs2,hs3⟩:=hs
   have new:∀ q∈crole ⟨c,n,(v.cls[j]).oop,ns,l,18,18,[],[],0⟩ v.cls.length,q.1=c∨q.1=l∨q.1=18:=by
    intro q hq
    simp only [crole,List.mem_cons,List.not_mem_nil,or_false] at hq
    rcases hq with rfl | rfl | rfl | rfl <;> simp
   refine List.pairwise_cons.2 ⟨fun q hq he=>?_,List.pairwise_cons.2 ⟨fun q hq he=>?_,?_⟩⟩
   ·
    exfalso
    simp only [List.mem_cons,List.mem_append] at hq
    rcases hq with rfl | rfl | rfl | rfl | hq | hq
    ·exact hd19 he.symm
    ·exact hne (v.globA,globW v.glob) (by simp) he.symm
    ·simp at he
    ·simp at he
    ·exact hne q (by simp [hq]) he.symm
    ·rcases new q hq with h | h | h
     ·exact hc19 (by rw [←h];exact he.symm)
     ·exact hl19 (by rw [←h];exact he.symm)
     ·rw [h] at he;simp at he
   ·exfalso
    simp only [List.mem_cons,List.mem_append] at hq
    rcases hq with rfl | rfl | rfl | hq | hq
    ·exact hdf (v.globA,globW v.glob) (by simp [KV.roles]) he.symm
    ·exact hdf (1,[]) (by simp [KV.roles]) he.symm
    ·exact hdf (18,[]) (by simp [KV.roles]) he.symm
    ·exact hdf q (by simp [KV.roles,hq]) he.symm
    ·rcases new q hq with h | h | h
     ·exact hdc (by rw [←h];exact he)
     ·exact hdl (by rw [←h];exact he)
     ·exact hdf (18,[]) r18 (by rw [←h];exact he.symm)
   ·show ((v.globA,globW v.glob) :: (1,[]) :: (18,[]) :: (croles v.cls 0++_)).Pairwise _
    rw [←List.cons_append,←List.cons_append,←List.cons_append]
    refine List.pairwise_append.2 ⟨hs3,?_,fun p hp q hq he=>?_⟩
    ·simp only [crole]
     refine List.pairwise_cons.2 ⟨fun q hq he=>?_,List.pairwise_cons.2 ⟨fun q hq he=>?_,List.pairwise_cons.2 ⟨fun q hq he=>rfl,List.pairwise_cons.2 ⟨fun q hq he=>rfl,List.Pairwise.nil⟩⟩⟩⟩
     ·exfalso
      simp only [List.mem_cons,List.not_mem_nil,or_false] at hq
      rcases hq with rfl | rfl | rfl
      ·exact hcl he
      ·exact hc18 he
      ·exact hc18 he
     ·rcases hlf with ⟨h,_⟩ | h
      ·simp [h]
      ·exfalso
       simp only [List.mem_cons,List.not_mem_nil,or_false] at hq
       rcases hq with rfl | rfl
       ·exact h _ r18 he.symm
       ·exact h _ r18 he.symm
    ·have hpr:p∈v.roles:=by
      simp only [KV.roles]
      exact List.mem_cons_of_mem _ (List.mem_cons_of_mem _ hp)
     have em:p.1=18→p.2=[]:=fun h=>by
      have:=hk.view p hpr
      rw [h] at this
      exact this.uniq hk.view.empty
     rcases new q hq with h | h | h
     ·exact absurd (he.trans h) (hcf p hpr)
     ·rcases hlf with ⟨_,h'⟩ | h'
      ·exact em (by rw [he,h,h'])
      ·exact absurd (he.trans h) (h' p hpr)
     ·exact em (he.trans h)
  ·
   have hsh:=hk.shape
   have hm0:=hsh.many0
   constructor
   ·exact hsh.rest
   ·simp only [KV.addC,List.length_append];omega
   ·simp only [KV.addC,List.length_append,List.length_cons,List.length_nil];omega
   ·exact hsh.globs
   ·intro h0
    have h0':0<v.cls.length:=by omega
    simp only [KV.addC,List.getElem_append_left h0']
    exact hsh.up0 h0'
   ·intro i hi hpos
    simp only [KV.addC,List.length_append,List.length_cons,List.length_nil] at hi
    by_cases hlt':i<v.cls.length
    ·obtain ⟨j',hj',h5,h6⟩:=hsh.ups i hlt' hpos
     refine ⟨j',by simp only [KV.addC,List.length_append];omega,h5,?_⟩
     simp only [KV.addC,List.getElem_append_left hlt',List.getElem_append_left hj']
     exact h6
    ·have hie:i=v.cls.length:=by omega
     subst hie
     refine ⟨j,by simp only [KV.addC,List.length_append];omega,hj,?_⟩
     simp only [KV.addC,List.getElem_append_left hj]
     rw [List.getElem_append_right (Nat.le_refl _)]
     simp
   ·intro i hi h14
    have hlt':i<v.cls.length:=by omega
    simp only [KV.addC,List.getElem_append_left hlt']
    exact hsh.kern i hlt' h14
   ·intro x hx
    simp only [KV.addC,List.mem_append,List.mem_singleton] at hx
    rcases hx with hx | rfl
    ·exact hsh.lay x hx
    ·simp
 ·rw [if_pos (by simpa using he)]
  exact ⟨h2.mono fun k hk=>hk.1,rfl,⟨m,h3,h3'⟩,fun _=>⟨h1,h2⟩,fun h=>absurd h he⟩
structure DefR (s:SP) (v:KV) (t:TB) (j:Nat) (name:ByteArray) (own:List ByteArray) (R:(Int × Int) × SP × TB):Prop where
 wft:WFT R.2.2
 most:R.2.2.most=t.most
 pre:∃ l,R.2.2.texts=t.texts++l
 stack:∃ m,R.2.1.stack=s.stack++m∧m.length≤3
 bad:R.1.2≠0→KS R.2.1 v∧KeepsB s.h R.2.1.h (Reaches s.h s.roots)
 good:R.1.2=0→∃ c n ns l d,∃ hj:j<v.cls.length,R.1.1=c∧KS R.2.1 (v.addC ⟨c,n,(v.cls[j]).oop,ns,l,18,18,[],[],0⟩ d)∧R.2.2.texts[n]?=some name∧ns.map (fun n=>R.2.2.texts[n]?)=own.map some
 keep:KeepsB s.h R.2.1.h (fun k=>Reaches s.h s.roots k∧k≠19)
theorem kDef1_ok {s:SP}{v:KV}{t:TB} (hk:KS s v) (hst:s.stack.length<60000){n:Nat}{ns:List Nat}{j:Nat} (hj:j<v.cls.length) (hlt:v.cls.length<256) (hwt:WFT t) (hn:n<t.texts.length) (hns:∀ n∈ns,n<t.texts.length)
  {name:ByteArray}{own:List ByteArray} (e1:t.texts[n]?=some name) (e2:ns.map (fun n=>t.texts[n]?)=own.map some) :
  DefR s v t j name own (kDef1 s t v.clsW (symW n) (v.cls[j]).oop (ns.map symW)):=by
 have hws:∀ w∈ns.map symW,isW w:=fun w hw=>by
  obtain ⟨x,hx,rfl⟩:=List.mem_map.1 hw
  exact isW_sym hwt (hns x hx)
 obtain ⟨a1,a2,⟨m1,a3,a3'⟩,a4⟩:=array_ok hk (by omega) hws
 unfold kDef1
 by_cases he:(s.array (ns.map symW)).1.2=0
 ·rw [if_neg (by simpa using he)]
  obtain ⟨l,el,l1,l2,hla,hlr,hlf⟩:=a4 he
  rw [el]
  generalize (s.array (ns.map symW)).2=s1 at *
  have hl1:s1.stack.length<64000:=by rw [a3,List.length_append];omega
  have hup:=up_arr hk hj
  have hcw:v.clsW.length=v.cls.length:=by simp [KV.clsW]
  obtain ⟨b1,b2,b3,b4⟩:=make_ok a1 (by omega) (cls:=12) (by decide) (ws:=clsSlots (symW n) (v.cls[j]).oop (4*l) v.clsW.length) (clsSlots_words (isW_sym hwt hn) (isW_obj hup.1 hup.2) (isW_obj l1 l2) (by omega))
  have hrs:∀ k,Reaches s.h s.roots k→Reaches s1.h s1.roots k:=fun k hk'=>Reaches.mono hk.wf.h a2 (keeps_roots hk a1 a3) hk'
  unfold kDef2
  by_cases hf:(s1.make 12 (clsSlots (symW n) (v.cls[j]).oop (4*l) v.clsW.length)).1.2=0
  ·rw [if_neg (by simpa using hf)]
   obtain ⟨c,ec,est,c1,c2,hca,hcn⟩:=b4 hf
   rw [ec]
   generalize (s1.make 12 (clsSlots (symW n) (v.cls[j]).oop (4*l) v.clsW.length)).2=s2 at *
   have hrs2:∀ k,Reaches s1.h s1.roots k→Reaches s2.h s2.roots k:=fun k hk'=>Reaches.mono a1.wf.h b2 (keeps_roots a1 b1 est) hk'
   have hcr:Reaches s2.h s2.roots c:=Reaches.of_root c1 c2 hca.there (by rw [b1.roots,est];simp)
   have hlf':ns=[]∧l=18∨∀ p∈v.roles,p.1≠l:=by
    rcases hlf with h | h
    ·have hnil:ns=[]:=by simpa using h
     subst hnil
     left
     refine ⟨rfl,?_⟩
     have:(s.array (([]:List Nat).map symW)).1.1=72:=by simp [SP.array]
     omega
    ·exact .inr (hk.fresh h)
   obtain ⟨d1,d2,⟨m,d3,d3'⟩,d4,d5⟩:=kDef3_ok (t:=t) b1 (by rw [est,List.length_append];simp;omega) (c:=c) (l:=l) (n:=n) (ns:=ns) hj hlt c1 c2 hcr (hrs2 l hlr) (by rw [hcw] at hca;exact hca) (hla.keep b2 hlr) (a1.fresh hcn) hlf' (fun e=>hcn (e ▸ hlr))
   generalize kDef3 s2 t v.clsW (4*c)=R at *
   refine ⟨by rw [d2];exact hwt,by rw [d2],⟨[],by rw [d2];simp⟩,⟨m1++[4*c]++m,by rw [d3,est,a3];simp,by simp;omega⟩,fun h=>?_,fun h=>?_,((a2.trans (b2.mono hrs)).mono fun k hk'=>hk'.1).trans (d1.mono fun k hk'=>⟨hrs2 k (hrs k hk'.1),hk'.2⟩)⟩
   ·exact ⟨(d4 h).1,(a2.trans (b2.mono hrs)).trans ((d4 h).2.mono fun k hk'=>hrs2 k (hrs k hk'))⟩
   ·obtain ⟨e3,d,e4⟩:=d5 h
    rw [d2]
    exact ⟨c,n,ns,l,d,hj,e3,e4,e1,e2⟩
  ·rw [if_pos (by simpa using hf)]
   exact ⟨hwt,rfl,⟨[],by simp⟩,⟨m1,by rw [(b3 hf).1,a3],by omega⟩,fun _=>⟨b1,a2.trans (b2.mono hrs)⟩,fun h=>absurd h hf,(a2.trans (b2.mono hrs)).mono fun k hk'=>hk'.1⟩
 ·rw [if_pos (by simpa using he)]
  exact ⟨hwt,rfl,⟨[],by simp⟩,⟨m1,a3,by omega⟩,fun _=>⟨a1,a2⟩,fun h=>absurd h he,a2.mono fun k hk'=>hk'.1⟩
theorem kDef_ok {s:SP}{v:KV}{t:TB} (hk:KS s v) (hst:s.stack.length<60000){j:Nat} (hj:j<v.cls.length) (hlt:v.cls.length<256) (hwt:WFT t) (name:ByteArray) (own:List ByteArray) :
  DefR s v t j name own (kDef s t v.clsW name (v.cls[j]).oop own):=by
 unfold kDef
 have p1:=add_pre t name
 have w1:=add_wft hwt name
 by_cases h1:(t.add name).1.2=0
 ·rw [if_neg (by simpa using h1)]
  obtain ⟨n,e1,e2,_⟩:=add_ok name h1
  generalize (t.add name).2=t1 at *
  have p2:=addAll_pre t1 [] own
  have w2:=addAll_wft w1 [] own
  have pre:∃ l,(t1.addAll [] own).2.texts=t.texts++l:=by
   obtain ⟨l,e⟩:=p1.2
   obtain ⟨l',e'⟩:=p2.2
   exact ⟨l++l',by rw [e',e];simp⟩
  by_cases h2:(t1.addAll [] own).1.2=0
  ·rw [if_neg (by simpa using h2)]
   obtain ⟨ns,e3,e4⟩:=addAll_ok [] own h2
   rw [e3,e1]
   generalize (t1.addAll [] own).2=t2 at *
   have e5:t2.texts[n]?=some name:=by
    obtain ⟨l',e'⟩:=p2.2
    rw [e',List.getElem?_append_left (tx_some e2).2,e2]
   have hns:∀ n∈ns,n<t2.texts.length:=fun n hn=>by
    have:t2.texts[n]?∈own.map some:=by rw [←e4];exact List.mem_map.2 ⟨n,hn,rfl⟩
    obtain ⟨s,_,hs⟩:=List.mem_map.1 this
    exact (tx_some hs.symm).2
   have:=kDef1_ok hk hst hj hlt w2 (tx_some e5).2 hns e5 e4
   have hpre:∃ l,(kDef1 s t2 v.clsW (symW n) (v.cls[j]).oop (ns.map symW)).2.2.texts=t.texts++l:=by
    obtain ⟨l,e⟩:=pre
    obtain ⟨l',e'⟩:=this.pre
    exact ⟨l++l',e'.trans (by rw [e];simp)⟩
   exact { this with most:=this.most.trans (p2.1.trans p1.1),pre:=hpre }
  ·rw [if_pos (by simpa using h2)]
   exact ⟨w2,p2.1.trans p1.1,pre,⟨[],by simp,by simp⟩,fun _=>⟨hk,KeepsB.refl _ _⟩,fun h=>absurd h h2,KeepsB.refl _ _⟩
 ·rw [if_pos (by simpa using h1)]
  exact ⟨w1,p1.1,p1.2,⟨[],by simp,by simp⟩,fun _=>⟨hk,KeepsB.refl _ _⟩,fun h=>absurd h h1,KeepsB.refl _ _⟩
end Kw
namespace Kw
open Go
structure GlobR (s:SP) (v:KV) (t:TB) (name:ByteArray) (R:Int × SP × TB):Prop where
 wft:WFT R.2.2
 most:R.2.2.most=t.most
 pre:∃ l,R.2.2.texts=t.texts++l
 stack:∃ m,R.2.1.stack=s.stack++m∧m.length≤3
 bad:R.1≠0→KS R.2.1 v∧KeepsB s.h R.2.1.h (Reaches s.h s.roots)
 good:R.1=0→∃ n d,KS R.2.1 (v.addG n d)∧R.2.2.texts[n]?=some name
 keep:KeepsB s.h R.2.1.h (fun k=>Reaches s.h s.roots k∧k≠19)
theorem kGlob1_ok {s:SP}{v:KV}{t:TB} (hk:KS s v) (hst:s.stack.length<60000){n:Nat} (hlt:v.glob.length<256) (hwt:WFT t) (hn:n<t.texts.length){name:ByteArray} (e1:t.texts[n]?=some name) :
  GlobR s v t name (kGlob1 s t (globW v.glob) (symW n)):=by
 have hws:∀ w∈globW v.glob++[symW n,4],isW w:=fun w hw=>by
  rcases List.mem_append.1 hw with hw | hw
  ·exact globW_words hk w hw
  ·simp only [List.mem_cons,List.not_mem_nil,or_false] at hw
   rcases hw with rfl | rfl
   ·exact isW_sym hwt hn
   ·decide
 obtain ⟨h1,h2,⟨m,h3,h3'⟩,h4⟩:=array_ok hk (by omega) hws
 unfold kGlob1
 by_cases he:(s.array (globW v.glob++[symW n,4])).1.2=0
 ·rw [if_neg (by simpa using he)]
  obtain ⟨d,ed,d1,d2,hda,hdr,hdn⟩:=h4 he
  have hdn:¬ Reaches s.h s.roots d:=by
   rcases hdn with h | h
   ·simp at h
   ·exact h
  rw [ed]
  generalize (s.array (globW v.glob++[symW n,4])).2=s1 at *
  obtain ⟨g1,g2,g3,g4,g5,g6,g7⟩:=setRoot_keeps h1 (i:=1) (w:=4*d) (by decide) (by decide) (isW_obj d1 d2)
  generalize (s1.setRoot 1 (4*d)).2=s2 at *
  have hdf:∀ p∈v.roles,p.1≠d:=hk.fresh hdn
  have hd19:d≠19:=fun e=>hdf (19,v.rootW) (by simp [KV.roles]) e.symm
  have hne:=sep_head hk.view hk.sep
  refine ⟨hwt,rfl,⟨[],by simp⟩,⟨m,by rw [g6,h3],by omega⟩,fun h=>absurd rfl h,fun _=>⟨n,d,⟨g3,g7,g5,g4,?_,?_,?_⟩,e1⟩,(h2.mono fun k hk'=>hk'.1).trans (g2.mono fun k hk'=>hk'.2)⟩
  ·refine View.of ?_ ?_ ?_ ?_ ?_ ?_
   ·simpa [KV.rootW,KV.addG] using g1
   ·exact (h1.view.all).keep g2 (hne (v.clsA,v.clsW) (by simp))
   ·have:=hda.keep g2 hd19
    simpa [KV.addG,globW_append,globW] using this
   ·exact (h1.view.nil).keep g2 (by decide)
   ·exact (h1.view.empty).keep g2 (by decide)
   ·intro p hp
    exact (h1.view p (by simp only [KV.addG] at hp;simp [KV.roles,hp])).keep g2 (hne p (by simp only [KV.addG] at hp;simp [hp]))
  ·have hs:=hk.sep
   unfold Sep at hs ⊢
   simp only [KV.roles,KV.addG] at hs ⊢
   rw [List.pairwise_cons,List.pairwise_cons,List.pairwise_cons] at hs
   obtain ⟨hs1,hs2,hs3,hs4⟩:=hs
   refine List.pairwise_cons.2 ⟨fun q hq he=>?_,List.pairwise_cons.2 ⟨fun q hq he=>?_,List.pairwise_cons.2 ⟨fun q hq he=>?_,hs4⟩⟩⟩
   ·exfalso
    simp only [List.mem_cons] at hq
    rcases hq with rfl | rfl | hq
    ·exact hne (v.clsA,v.clsW) (by simp) he.symm
    ·exact hd19 he.symm
    ·exact hne q (by simp only [List.mem_cons];exact .inr (.inr hq)) he.symm
   ·rcases List.mem_cons.1 hq with rfl | hq
    ·exact absurd he (hdf (v.clsA,v.clsW) (by simp [KV.roles]))
    ·exact hs2 q (List.mem_cons_of_mem _ hq) he
   ·exact absurd he.symm (hdf q (by simp only [KV.roles];exact List.mem_cons_of_mem _ (List.mem_cons_of_mem _ (List.mem_cons_of_mem _ hq))))
  ·exact { hk.shape with globs:=by simp only [KV.addG,List.length_append,List.length_cons,List.length_nil];omega }
 ·rw [if_pos (by simpa using he)]
  exact ⟨hwt,rfl,⟨[],by simp⟩,⟨m,h3,by omega⟩,fun _=>⟨h1,h2⟩,fun h=>absurd h he,h2.mono fun k hk'=>hk'.1⟩
theorem kGlob_ok {s:SP}{v:KV}{t:TB} (hk:KS s v) (hst:s.stack.length<60000) (hlt:v.glob.length<256) (hwt:WFT t) (name:ByteArray) :
  GlobR s v t name (kGlob s t (globW v.glob) name):=by
 unfold kGlob
 have p1:=add_pre t name
 have w1:=add_wft hwt name
 by_cases h1:(t.add name).1.2=0
 ·rw [if_neg (by simpa using h1)]
  obtain ⟨n,e1,e2,_⟩:=add_ok name h1
  rw [e1]
  generalize (t.add name).2=t1 at *
  have:=kGlob1_ok hk hst hlt w1 (tx_some e2).2 e2
  have hpre:∃ l,(kGlob1 s t1 (globW v.glob) (symW n)).2.2.texts=t.texts++l:=by
   obtain ⟨l,e⟩:=p1.2
   obtain ⟨l',e'⟩:=this.pre
   exact ⟨l++l',e'.trans (by rw [e];simp)⟩
  exact { this with most:=this.most.trans p1.1,pre:=hpre }
 ·rw [if_pos (by simpa using h1)]
  exact ⟨w1,p1.1,p1.2,⟨[],by simp,by simp⟩,fun _=>⟨hk,KeepsB.refl _ _⟩,fun h=>absurd h h1,KeepsB.refl _ _⟩
structure KAll (s:SP) (t:TB) (v:KV):Prop where
 ks:KS s v
 names:KNames v t
 stack:s.stack=[]
theorem drop_all {s:SP}{m:List Int} (h:s.stack=m):(s.drop ((s.stack.length:Int)-0)).2={ s with stack:=[] }:=by
 unfold SP.drop
 rw [if_neg (by omega)]
 simp
theorem KS.nostack {s:SP}{v:KV} (h:KS s v):KS { s with stack:=[] } v:=⟨{ h.wf with many:=by simp,words:=by simp },h.gc,h.op,h.king,h.view,h.sep,h.shape⟩
theorem KS.marks {s:SP}{v:KV} (h:KS s v) (k:Int):KS { s with h:=(s.h.marks k).2 } v :=
 ⟨{ h.wf with h:=marks_wf h.wf.h k },marks_gc h.gc k,h.op,h.king,h.view.keep (marks_keeps k) fun _ _=>trivial,h.sep,h.shape⟩
theorem kDefine_ok {s:SP}{v:KV}{t:TB} (h:KAll s t v){j:Nat} (hj:j<v.cls.length) (hlt:v.cls.length<256){name:ByteArray}{own:List ByteArray} (hf:∀ c∈v.cls,tx t c.name≠name) :
  ((kDefine s t v.clsW name (v.cls[j]).oop own).1.2≠0→(kDefine s t v.clsW name (v.cls[j]).oop own).1.1=0∧KAll (kDefine s t v.clsW name (v.cls[j]).oop own).2.1 (kDefine s t v.clsW name (v.cls[j]).oop own).2.2 v∧(kDefine s t v.clsW name (v.cls[j]).oop own).2.2=t ∧
   KeepsB s.h (kDefine s t v.clsW name (v.cls[j]).oop own).2.1.h (Reaches s.h s.roots)) ∧
  ((kDefine s t v.clsW name (v.cls[j]).oop own).1.2=0→∃ n ns l d,KAll (kDefine s t v.clsW name (v.cls[j]).oop own).2.1 (kDefine s t v.clsW name (v.cls[j]).oop own).2.2 (v.addC ⟨(kDefine s t v.clsW name (v.cls[j]).oop own).1.1,n,(v.cls[j]).oop,ns,l,18,18,[],[],0⟩ d) ∧
   (∃ m,(kDefine s t v.clsW name (v.cls[j]).oop own).2.2.texts=t.texts++m)∧tx (kDefine s t v.clsW name (v.cls[j]).oop own).2.2 n=name∧ns.map (tx (kDefine s t v.clsW name (v.cls[j]).oop own).2.2)=own):=by
 obtain ⟨hk,hn,hst⟩:=h
 have D:=kDef_ok hk (by rw [hst];simp) hj hlt hn.wf name own
 unfold kDefine
 generalize kDef s t v.clsW name (v.cls[j]).oop own=R at D ⊢
 obtain ⟨m,hm,hm'⟩:=D.stack
 have hd:=drop_all (s:=R.2.1) (m:=R.2.1.stack) rfl
 simp only [hst,List.length_nil]
 by_cases he:R.1.2=0
 ·refine ⟨fun h=>absurd he h,fun _=>?_⟩
  obtain ⟨c,n,ns,l,d,_,e1,e2,e3,e4⟩:=D.good he
  unfold kEnd
  rw [if_pos he,if_pos he]
  simp only [Int.natCast_zero,hd]
  have hg:=hn.grow D.wft D.pre
  have t1:=tx_some e3
  have t2:ns.map (tx R.2.2)=own:=by
   have h2:∀ (ns:List Nat) (own:List ByteArray),ns.map (fun n=>R.2.2.texts[n]?)=own.map some→ns.map (tx R.2.2)=own:=by
    intro ns
    induction ns with
    | nil=>intro own h;simp only [List.map_nil] at h;simpa using h.symm
    | cons a ns ih =>
     intro own h
     cases own with
     | nil=>simp at h
     | cons b own =>
      simp only [List.map_cons,List.cons.injEq] at h
      rw [List.map_cons,(tx_some h.1).1,ih own h.2]
   exact h2 ns own e4
  have t3:∀ x∈ns,x<R.2.2.texts.length:=fun x hx=>by
   have:R.2.2.texts[x]?∈own.map some:=by rw [←e4];exact List.mem_map.2 ⟨x,hx,rfl⟩
   obtain ⟨_,_,hs⟩:=List.mem_map.1 this
   exact (tx_some hs.symm).2
  refine ⟨n,ns,l,d,⟨by rw [e1];exact e2.nostack,?_,rfl⟩,D.pre,t1.1,t2⟩
  refine ⟨D.wft,fun x hx=>?_,fun x hx=>?_,hg.glob,?_⟩
  ·simp only [KV.addC,List.mem_append,List.mem_singleton] at hx
   rcases hx with hx | rfl
   ·exact hg.name x hx
   ·exact t1.2
  ·simp only [KV.addC,List.mem_append,List.mem_singleton] at hx
   rcases hx with hx | rfl
   ·exact hg.own x hx
   ·exact t3
  ·simp only [KV.addC,List.map_append,List.map_cons,List.map_nil]
   rw [List.nodup_append]
   refine ⟨hg.nodup,by simp,fun a ha b hb hab=>?_⟩
   simp only [List.mem_singleton] at hb
   subst hb
   subst hab
   obtain ⟨x,hx,hxn⟩:=List.mem_map.1 ha
   have:=hf x hx
   rw [←tx_pre D.pre (hn.name x hx),hxn] at this
   exact this t1.1
 ·refine ⟨fun _=>?_,fun h=>absurd h he⟩
  obtain ⟨b1,b2⟩:=D.bad he
  unfold kEnd
  rw [if_neg he,if_neg he]
  simp only [Int.natCast_zero,hd]
  have hb:=back_pre D.most D.pre
  rw [hb]
  by_cases h24:R.1.2=24
  ·rw [if_pos h24]
   exact ⟨trivial,⟨b1.nostack,hn,rfl⟩,rfl,b2⟩
  ·rw [if_neg h24]
   exact ⟨trivial,⟨b1.nostack.marks _,hn,rfl⟩,rfl,b2.trans ((marks_keeps _).mono fun _ _=>trivial)⟩
theorem kGlobal_ok {s:SP}{v:KV}{t:TB} (h:KAll s t v) (hlt:v.glob.length<256){name:ByteArray} :
  ((kGlobal s t (globW v.glob) name).1≠0→KAll (kGlobal s t (globW v.glob) name).2.1 (kGlobal s t (globW v.glob) name).2.2 v∧(kGlobal s t (globW v.glob) name).2.2=t∧KeepsB s.h (kGlobal s t (globW v.glob) name).2.1.h (Reaches s.h s.roots)) ∧
  ((kGlobal s t (globW v.glob) name).1=0→∃ n d,KAll (kGlobal s t (globW v.glob) name).2.1 (kGlobal s t (globW v.glob) name).2.2 (v.addG n d)∧(∃ m,(kGlobal s t (globW v.glob) name).2.2.texts=t.texts++m)∧tx (kGlobal s t (globW v.glob) name).2.2 n=name):=by
 obtain ⟨hk,hn,hst⟩:=h
 have D:=kGlob_ok hk (by rw [hst];simp) hlt hn.wf name
 unfold kGlobal
 generalize kGlob s t (globW v.glob) name=R at D ⊢
 have hd:=drop_all (s:=R.2.1) (m:=R.2.1.stack) rfl
 simp only [hst,List.length_nil]
 by_cases he:R.1=0
 ·refine ⟨fun h=>absurd he h,fun _=>?_⟩
  obtain ⟨n,d,e1,e2⟩:=D.good he
  unfold kEnd
  rw [if_pos he]
  simp only [Int.natCast_zero,hd]
  have hg:=hn.grow D.wft D.pre
  have t1:=tx_some e2
  refine ⟨n,d,⟨e1.nostack,{ hg with glob:=fun p hp=>?_ },rfl⟩,D.pre,t1.1⟩
  simp only [KV.addG,List.mem_append,List.mem_singleton] at hp
  rcases hp with hp | rfl
  ·exact hg.glob p hp
  ·exact t1.2
 ·refine ⟨fun _=>?_,fun h=>absurd h he⟩
  obtain ⟨b1,b2⟩:=D.bad he
  unfold kEnd
  rw [if_neg he]
  simp only [Int.natCast_zero,hd]
  have hb:=back_pre D.most D.pre
  rw [hb]
  by_cases h24:R.1=24
  ·rw [if_pos h24]
   exact ⟨⟨b1.nostack,hn,rfl⟩,rfl,b2⟩
  ·rw [if_neg h24]
   exact ⟨⟨b1.nostack.marks _,hn,rfl⟩,rfl,b2.trans ((marks_keeps _).mono fun _ _=>trivial)⟩
theorem KAll.marks {s:SP}{t:TB}{v:KV} (h:KAll s t v) (k:Int):KAll { s with h:=(s.h.marks k).2 } t v:=⟨h.ks.marks k,h.names,h.stack⟩
theorem KAll.collect {s:SP}{t:TB}{v:KV} (h:KAll s t v):KAll s.collect.2 t v:=by
 have hr:=collect_rest s
 exact ⟨⟨collect_wf h.ks.wf,collect_gc h.ks.gc,hr.2.2.trans h.ks.op,hr.1.trans h.ks.king,h.ks.view.keep (collect_keeps h.ks.wf.h) h.ks.reach,h.ks.sep,h.ks.shape⟩,h.names,hr.2.1.trans h.stack⟩
def KV.setG (v:KV) (i:Nat) (w:Int):KV:={ v with glob:=v.glob.set i ((v.glob.getD i (0,0)).1,w) }
theorem KAll.setG {s:SP}{t:TB}{v:KV} (h:KAll s t v){i:Nat} (hi:i<v.glob.length){w:Int} (hw:isW w) :
  (s.h.put v.globA (2*(i:Int)+1) w).1=0∧KAll { s with h:=(s.h.put v.globA (2*(i:Int)+1) w).2 } t (v.setG i w):=by
 obtain ⟨hk,hn,hst⟩:=h
 have hga:=hk.view.globs
 have hlen:=globW_len v.glob
 obtain ⟨p1,p2⟩:=put_arr hga (i:=2*(i:Int)+1) (w:=w) (by omega) (by omega) hw
 have pk:=put_keeps (r:=s.h) v.globA (2*(i:Int)+1) w
 have e0:(2*(i:Int)+1).toNat=2*i+1:=by omega
 rw [e0,globW_set hi] at p1
 have eg:v.glob.set i (v.glob[i].1,w)=(v.setG i w).glob:=by simp [KV.setG,hi]
 rw [eg] at p1
 have hs:=hk.sep
 have hne:(globW v.glob)≠[]:=fun e=>by rw [e] at hlen;simp at hlen;omega
 unfold Sep at hs
 simp only [KV.roles] at hs
 rw [List.pairwise_cons,List.pairwise_cons,List.pairwise_cons] at hs
 obtain ⟨hs1,hs2,hs3,hs4⟩:=hs
 have o1:(19:Int)≠v.globA:=fun e=>by
  have:=hs1 (v.globA,globW v.glob) (by simp) e
  simp [KV.rootW] at this
 have o2:v.clsA≠v.globA:=fun e=>by
  have:=hs2 (v.globA,globW v.glob) (by simp) e
  have hm:=hk.shape.many0
  simp only [KV.clsW,List.map_eq_nil_iff] at this
  rw [this] at hm;simp at hm
 have o3:∀ q∈(1,[]) :: (18,[]) :: croles v.cls 0,q.1≠v.globA:=fun q hq e=>hne (hs3 q hq e.symm)
 refine ⟨p2,⟨{ hk.wf with h:=put_wf hk.wf.h _ _ _ },put_gc hk.gc _ _ _,hk.op,hk.king,?_,?_,?_⟩,?_,hst⟩
 ·refine View.of ?_ ?_ p1 ?_ ?_ ?_
  ·exact (hk.view.root).keep pk o1
  ·exact (hk.view.all).keep pk o2
  ·exact (hk.view.nil).keep pk (o3 (1,[]) (by simp))
  ·exact (hk.view.empty).keep pk (o3 (18,[]) (by simp))
  ·intro p hp
   exact (hk.view p (by simp only [KV.setG] at hp;simp [KV.roles,hp])).keep pk (o3 p (by simp only [KV.setG] at hp;simp [hp]))
 ·unfold Sep
  simp only [KV.roles,KV.setG]
  refine List.pairwise_cons.2 ⟨fun q hq he=>?_,List.pairwise_cons.2 ⟨fun q hq he=>?_,List.pairwise_cons.2 ⟨fun q hq he=>?_,hs4⟩⟩⟩
  ·rcases List.mem_cons.1 hq with rfl | hq
   ·exact hs1 (v.clsA,v.clsW) (by simp) he
   ·rcases List.mem_cons.1 hq with rfl | hq
    ·exact absurd he o1
    ·exact hs1 q (by simp only [List.mem_cons];exact .inr (.inr (by simpa using hq))) he
  ·rcases List.mem_cons.1 hq with rfl | hq
   ·exact absurd he o2
   ·exact hs2 q (List.mem_cons_of_mem _ hq) he
  ·exact absurd he.symm (o3 q hq)
 ·exact { hk.shape with globs:=by simp only [KV.setG,List.length_set];exact hk.shape.globs }
 ·refine { hn with glob:=fun p hp=>?_ }
  simp only [KV.setG] at hp
  rcases List.mem_or_eq_of_mem_set hp with hp | rfl
  ·exact hn.glob p hp
  ·simp only [List.getD_eq_getElem?_getD,List.getElem?_eq_getElem hi,Option.getD_some]
   exact hn.glob _ (List.getElem_mem hi)
end Kw
namespace Kw
open Go
def oopW (w:Int):Int:=if kindW w=3 then w / 4 else 0
def numW (w:Int):Int:=if kindW w=1 then w / 2 else 0
def textW (t:TB) (w:Int):ByteArray:=if kindW w=2 then tx t (w / 4).toNat else ⟨#[]⟩
def kslot (r:RH) (o i:Int):Int:=(r.at o i).1
def koop (r:RH) (o i:Int):Int:=oopW (kslot r o i)
def knum (r:RH) (o i:Int):Int:=numW (kslot r o i)
def ktext (r:RH) (t:TB) (o i:Int):ByteArray:=textW t (kslot r o i)
def ksize (r:RH) (o:Int):Int:=(r.size o).1
theorem oopW_obj {o:Int} (h0:1≤o) (h1:o≤65536):oopW (4*o)=o:=by
 unfold oopW
 have:=kind_cases (4*o)
 rw [if_pos (by omega)];omega
theorem numW_int {n:Int} (h0:-1073741824≤n) (h1:n≤1073741823):numW (2*n+1)=n:=by
 unfold numW
 have:=kind_cases (2*n+1)
 rw [if_pos (by omega)];omega
theorem textW_sym {t:TB} (hw:WFT t){n:Nat} (h:n<t.texts.length):textW t (symW n)=tx t n:=by
 unfold textW symW
 have h1:=hw.m1
 have h2:=hw.len
 have:=kind_cases (4*(n:Int)+2)
 rw [if_pos (by omega)]
 congr 1;omega
theorem Arr.kslot {r:RH}{o:Int}{ws:List Int} (h:Arr r o ws){i:Nat} (hi:i<ws.length):kslot r o i=ws[i]:=by
 unfold Kw.kslot
 rw [h.at (by omega) (by omega)]
 simp
theorem Arr.ksize {r:RH}{o:Int}{ws:List Int} (h:Arr r o ws):ksize r o=ws.length:=by unfold Kw.ksize;rw [h.size]
theorem size_nonneg {r:RH} (o:Int):0≤ksize r o:=by
 unfold ksize RH.size
 cases objAt r.objs o with
 | none=>exact Int.le_refl 0
 | some x=>exact Int.natCast_nonneg _
theorem size_le {r:RH} (hw:WFH r) (o:Int):ksize r o≤8192:=by
 unfold ksize RH.size
 cases ho:objAt r.objs o with
 | none=>exact Int.le_of_lt (by decide)
 | some x=>have:=(hw.objs.good x (objAt_some ho).1).many;simp only;omega
def kwords (r:RH) (o:Int):List Int:=(List.range (ksize r o).toNat).map fun i:Nat=>kslot r o i
theorem Arr.kwords {r:RH}{o:Int}{ws:List Int} (h:Arr r o ws):kwords r o=ws:=by
 unfold Kw.kwords
 rw [h.ksize,Int.toNat_natCast]
 apply List.ext_getElem (by simp)
 intro i h1 h2
 simp only [List.getElem_map,List.getElem_range]
 exact h.kslot h2
section
variable {s:SP}{v:KV}{t:TB}
theorem KS.root0 (h:KS s v):koop s.h 19 0=v.clsA:=by
 have hb:=h.view.all.bnd h.wf.h
 have hr:=h.view.root
 unfold koop
 rw [show (0:Int)=((0:Nat):Int) from rfl,hr.kslot (by simp [KV.rootW])]
 exact oopW_obj hb.1 hb.2.1
theorem KS.root1 (h:KS s v):koop s.h 19 1=v.globA:=by
 have hb:=h.view.globs.bnd h.wf.h
 have hr:=h.view.root
 unfold koop
 rw [show (1:Int)=((1:Nat):Int) from rfl,hr.kslot (by simp [KV.rootW])]
 exact oopW_obj hb.1 hb.2.1
theorem KS.size0 (h:KS s v):ksize s.h v.clsA=v.cls.length:=by rw [h.view.all.ksize];simp [KV.clsW]
theorem KS.size1 (h:KS s v):ksize s.h v.globA=2*v.glob.length:=by rw [h.view.globs.ksize,globW_len];simp
theorem KS.clsAt (h:KS s v){i:Nat} (hi:i<v.cls.length):kslot s.h v.clsA i=4*(v.cls[i]).oop∧koop s.h v.clsA i=(v.cls[i]).oop:=by
 have hb:=(h.view.cls hi).bnd h.wf.h
 have e:kslot s.h v.clsA i=4*(v.cls[i]).oop:=by rw [h.view.all.kslot (by simpa [KV.clsW] using hi)];simp [KV.clsW]
 exact ⟨e,by unfold koop;rw [e];exact oopW_obj hb.1 hb.2.1⟩
theorem KS.globAt (h:KS s v){i:Nat} (hi:i<v.glob.length):kslot s.h v.globA (2*i:Nat)=symW v.glob[i].1∧kslot s.h v.globA (2*i+1:Nat)=v.glob[i].2:=by
 have hg:=globW_get hi
 have hl:=globW_len v.glob
 refine ⟨?_,?_⟩
 ·rw [h.view.globs.kslot (by omega)]
  have:=hg.1
  rw [List.getElem?_eq_getElem (by omega)] at this
  simpa using this
 ·rw [h.view.globs.kslot (by omega)]
  have:=hg.2
  rw [List.getElem?_eq_getElem (by omega)] at this
  simpa using this
theorem KS.c0 (h:KS s v){i:Nat} (hi:i<v.cls.length):kslot s.h (v.cls[i]).oop 0=symW (v.cls[i]).name:=(h.view.cls hi).kslot (i:=0) (by simp [CV.slots])
theorem KS.c1 (h:KS s v){i:Nat} (hi:i<v.cls.length):kslot s.h (v.cls[i]).oop 1=4*(v.cls[i]).up:=(h.view.cls hi).kslot (i:=1) (by simp [CV.slots])
theorem KS.c2 (h:KS s v){i:Nat} (hi:i<v.cls.length):kslot s.h (v.cls[i]).oop 2=4*(v.cls[i]).ownA:=(h.view.cls hi).kslot (i:=2) (by simp [CV.slots])
theorem KS.c3 (h:KS s v){i:Nat} (hi:i<v.cls.length):kslot s.h (v.cls[i]).oop 3=4*(v.cls[i]).selA:=(h.view.cls hi).kslot (i:=3) (by simp [CV.slots])
theorem KS.c4 (h:KS s v){i:Nat} (hi:i<v.cls.length):kslot s.h (v.cls[i]).oop 4=4*(v.cls[i]).metA:=(h.view.cls hi).kslot (i:=4) (by simp [CV.slots])
theorem KS.c5 (h:KS s v){i:Nat} (hi:i<v.cls.length):kslot s.h (v.cls[i]).oop 5=2*(v.cls[i]).lay+1:=(h.view.cls hi).kslot (i:=5) (by simp [CV.slots])
theorem KS.c6 (h:KS s v){i:Nat} (hi:i<v.cls.length):kslot s.h (v.cls[i]).oop 6=2*((i:Int)+1)+1:=(h.view.cls hi).kslot (i:=6) (by simp [CV.slots])
theorem KS.upB (h:KS s v){i:Nat} (hi:i<v.cls.length):1≤(v.cls[i]).up∧(v.cls[i]).up≤65536:=by
 by_cases h0:i=0
 ·subst h0;rw [(h.shape.up0 hi).1];decide
 ·obtain ⟨j,hj,_,e⟩:=h.shape.ups i hi (by omega)
  rw [←e]
  have:=(h.view.cls hj).bnd h.wf.h
  exact ⟨this.1,this.2.1⟩
theorem KS.up (h:KS s v){i:Nat} (hi:i<v.cls.length):koop s.h (v.cls[i]).oop 1=(v.cls[i]).up:=by
 unfold koop;rw [h.c1 hi];exact oopW_obj (h.upB hi).1 (h.upB hi).2
theorem KS.up1 (h:KS s v){i:Nat} (hi:i<v.cls.length):(v.cls[i]).up=1↔i=0:=by
 constructor
 ·intro e
  by_cases h0:i=0
  ·exact h0
  ·obtain ⟨j,hj,_,e'⟩:=h.shape.ups i hi (by omega)
   exact absurd (e'.trans e) (h.view.ne1 hj)
 ·rintro rfl;exact (h.shape.up0 hi).1
theorem KS.ownO (h:KS s v){i:Nat} (hi:i<v.cls.length):koop s.h (v.cls[i]).oop 2=(v.cls[i]).ownA:=by
 have hb:=(h.view.own hi).bnd h.wf.h
 unfold koop;rw [h.c2 hi];exact oopW_obj hb.1 hb.2.1
theorem KS.layN (h:KS s v){i:Nat} (hi:i<v.cls.length):knum s.h (v.cls[i]).oop 5=(v.cls[i]).lay:=by
 have hb:=h.shape.lay _ (List.getElem_mem hi)
 unfold knum;rw [h.c5 hi];exact numW_int (by omega) (by omega)
theorem KS.num (h:KS s v){i:Nat} (hi:i<v.cls.length):knum s.h (v.cls[i]).oop 6=(i:Int)+1:=by
 have:=h.shape.many1
 unfold knum;rw [h.c6 hi];exact numW_int (by omega) (by omega)
theorem KAll.name (h:KAll s t v){i:Nat} (hi:i<v.cls.length):ktext s.h t (v.cls[i]).oop 0=tx t (v.cls[i]).name:=by
 unfold ktext;rw [h.ks.c0 hi];exact textW_sym h.names.wf (h.names.name _ (List.getElem_mem hi))
theorem KAll.gname (h:KAll s t v){i:Nat} (hi:i<v.glob.length):ktext s.h t v.globA (2*i:Nat)=tx t v.glob[i].1:=by
 unfold ktext;rw [(h.ks.globAt hi).1];exact textW_sym h.names.wf (h.names.glob _ (List.getElem_mem hi))
theorem KAll.ownT (h:KAll s t v){i:Nat} (hi:i<v.cls.length){j:Nat} (hj:j<(v.cls[i]).own.length):ktext s.h t (v.cls[i]).ownA j=tx t (v.cls[i]).own[j]:=by
 unfold ktext
 rw [(h.ks.view.own hi).kslot (i:=j) (by simpa using hj)]
 simp only [List.getElem_map]
 exact textW_sym h.names.wf (h.names.own _ (List.getElem_mem hi) _ (List.getElem_mem hj))
theorem KS.ownL (h:KS s v){i:Nat} (hi:i<v.cls.length):ksize s.h (v.cls[i]).ownA=(v.cls[i]).own.length:=by rw [(h.view.own hi).ksize];simp
end
def plK (v:KV) (o:Int):Option Nat:=v.cls.findIdx? fun c=>decide (c.oop=o)
theorem plK_some {v:KV}{o:Int}{i:Nat} (h:plK v o=some i):∃ hi:i<v.cls.length,(v.cls[i]).oop=o:=by
 unfold plK at h
 rw [List.findIdx?_eq_some_iff_getElem] at h
 obtain ⟨hi,h1,_⟩:=h
 exact ⟨hi,by simpa using h1⟩
theorem plK_none {v:KV}{o:Int} (h:plK v o=none):∀ i (hi:i<v.cls.length),(v.cls[i]).oop≠o:=by
 unfold plK at h
 rw [List.findIdx?_eq_none_iff] at h
 intro i hi
 simpa using h _ (List.getElem_mem hi)
theorem KS.idx {s:SP}{v:KV} (h:KS s v){i:Nat} (hi:i<v.cls.length):plK v (v.cls[i]).oop=some i:=by
 cases hx:plK v (v.cls[i]).oop with
 | none=>exact absurd rfl (plK_none hx i hi)
 | some j =>
  obtain ⟨hj,e⟩:=plK_some hx
  rw [h.view.inj hj hi e]
def findK (v:KV) (t:TB) (name:ByteArray):Int × Int:=match v.cls.findIdx? (fun c=>decide (tx t c.name=name)) with
 | some i=>((v.cls.getD i ⟨0,0,0,[],0,0,0,[],[],0⟩).oop,0)
 | none=>(0,130)
def numberedK (v:KV) (n:Int):Int × Int:=if h:1≤n∧n≤v.cls.length then ((v.cls[(n-1).toNat]'(by omega)).oop,0) else (0,130)
def superK (v:KV) (i:Nat):Int:=match v.cls[i]? with
 | some c=>if c.up=1 then 0 else c.up
 | none=>0
def upIdx (v:KV) (i:Nat):Option Nat:=plK v (superK v i)
def fieldsK (v:KV) (i:Nat):List Nat:=match v.cls[i]? with
 | none=>[]
 | some c=>match upIdx v i with
  | some j=>if j<i then fieldsK v j++c.own else c.own
  | none=>c.own
termination_by i
theorem KS.upI {s:SP}{v:KV} (h:KS s v){i:Nat} (hi:i<v.cls.length):(i=0∧superK v i=0∧upIdx v i=none)∨(∃ j,∃ hj:j<v.cls.length,j<i∧superK v i=(v.cls[j]).oop∧(v.cls[i]).up=(v.cls[j]).oop∧upIdx v i=some j):=by
 have e:superK v i=if (v.cls[i]).up=1 then 0 else (v.cls[i]).up:=by unfold superK;rw [List.getElem?_eq_getElem hi]
 by_cases h0:i=0
 ·left
  have hu:(v.cls[i]).up=1:=(h.up1 hi).2 h0
  rw [if_pos hu] at e
  refine ⟨h0,e,?_⟩
  unfold Kw.upIdx
  rw [e]
  cases hx:plK v 0 with
  | none=>rfl
  | some j =>
   obtain ⟨hj,e'⟩:=plK_some hx
   have:=((h.view.cls hj).bnd h.wf.h).1
   omega
 ·right
  obtain ⟨j,hj,hlt,e'⟩:=h.shape.ups i hi (by omega)
  have hu:(v.cls[i]).up≠1:=fun hx=>h0 ((h.up1 hi).1 hx)
  rw [if_neg hu] at e
  refine ⟨j,hj,hlt,by rw [e,e'],e'.symm,?_⟩
  unfold Kw.upIdx
  rw [e,←e']
  exact h.idx hj
theorem KS.fields0 {s:SP}{v:KV} (h:KS s v) (h0:0<v.cls.length):fieldsK v 0=(v.cls[0]).own:=by
 rw [fieldsK,List.getElem?_eq_getElem h0]
 rcases h.upI h0 with ⟨_,_,e⟩ | ⟨j,_,hlt,_⟩
 ·simp only [e]
 ·omega
theorem KS.fieldsS {s:SP}{v:KV} (h:KS s v){i j:Nat} (hi:i<v.cls.length) (hj:j<i) (e:Kw.upIdx v i=some j):fieldsK v i=fieldsK v j++(v.cls[i]).own:=by
 rw [fieldsK,List.getElem?_eq_getElem hi]
 simp only [e,if_pos hj]
inductive Und (v:KV) (o:Int):Int→Prop
 | self:Und v o o
 | up {i:Nat} (hi:i<v.cls.length) (hu:(v.cls[i]).up≠1) (h:Und v o (v.cls[i]).up):Und v o (v.cls[i]).oop
theorem und_iff {s:SP}{v:KV} (h:KS s v){o:Int}{i:Nat} (hi:i<v.cls.length):Und v o (v.cls[i]).oop↔(v.cls[i]).oop=o∨(superK v i≠0∧Und v o (superK v i)):=by
 have e:superK v i=if (v.cls[i]).up=1 then 0 else (v.cls[i]).up:=by unfold superK;rw [List.getElem?_eq_getElem hi]
 constructor
 ·intro hu
  generalize hx:(v.cls[i]).oop=x at hu
  cases hu with
  | self=>exact .inl rfl
  | @up j hj h1 h2 =>
   right
   have:i=j:=h.view.inj hi hj hx
   subst this
   rw [if_neg h1] at e
   rw [e]
   exact ⟨by have:=(h.upB hi).1;omega,h2⟩
 ·rintro (he | ⟨h1,h2⟩)
  ·rw [he];exact .self
  ·have hu:(v.cls[i]).up≠1:=fun hx=>h1 (by rw [e,if_pos hx])
   rw [e,if_neg hu] at h2
   exact .up hi hu h2
noncomputable instance undDec (v:KV) (o x:Int):Decidable (Und v o x):=Classical.propDecidable _
noncomputable def underK (v:KV) (o:Int):List Int:=((List.range v.cls.length).filter fun i=>decide (Und v o (v.cls.getD i ⟨0,0,0,[],0,0,0,[],[],0⟩).oop)).map fun i:Nat=>(i:Int)+1
structure CI where
 name:ByteArray
 sup:ByteArray
 own:List ByteArray
 lay:Int
def infoK (v:KV) (t:TB) (i:Nat):CI:=match v.cls[i]? with
 | some c=>⟨tx t c.name,match upIdx v i with
  | some j=>match v.cls[j]? with
   | some d=>tx t d.name
   | none=>⟨#[]⟩
  | none=>⟨#[]⟩,c.own.map (tx t),c.lay⟩
 | none=>⟨⟨#[]⟩,⟨#[]⟩,[],0⟩
def globsK (v:KV) (t:TB):List ByteArray:=v.glob.map fun p=>tx t p.1
def valueK (v:KV) (i:Int):Int × Int:=if h:0≤i∧i<v.glob.length then ((v.glob[i.toNat]'(by omega)).2,0) else (0,1)
end Kw
namespace Kw
open Go
def setValueK (s:SP) (v:KV) (n w:Int):Int × SP:=if n<0∨(v.glob.length:Int)≤n then (1,s) else if ¬ isW w then (10,s) else ((s.h.put v.globA (2*n+1) w).1,{ s with h:=(s.h.put v.globA (2*n+1) w).2 })
def ofK (r:RH) (w:Int):Int × Int :=
 if kindW w=1 then (8,0) else if kindW w=2 then (9,0) else if kindW w=3 then
  match r.clsAt (w / 4) with
  | (c,e)=>if e=0 then (oopW c,0) else (0,e)
 else (0,10)
theorem fields_len {s:SP}{v:KV} (h:KS s v):∀ i:Nat,i<v.cls.length→(fieldsK v i).length≤8192*(i+1):=by
 intro i
 induction i using Nat.strongRecOn with
 | ind i ih =>
  intro hi
  have hb:(v.cls[i]).own.length≤8192:=by have:=((h.view.own hi).bnd h.wf.h).2.2.1;simpa using this
  rcases h.upI hi with ⟨h0,_,_⟩ | ⟨j,hj,hlt,_,_,e⟩
  ·subst h0;rw [h.fields0 hi];omega
  ·rw [h.fieldsS hi hlt e,List.length_append]
   have:=ih j hlt hj
   omega
end Kw
namespace Go.Proofs.YtmkdkplipbocjaaGreatDoor
open Kw
theorem locB {H:Heap}{x v:Value}{t:TypeId}{fr:Nat × Nat}:setH (H.push (.cells #[x] t fr)) ⟨H.size,0,none⟩ v=H.push (.cells #[v] t fr):=by
 rw [setH_push];rfl
theorem Fr.late {H H2:Heap} (h:Fr [] H H2){b o:Nat}{v:Value} (hb:H.size≤b):Fr [] H (setH H2 ⟨b,o,none⟩ v) :=
 ⟨Nat.le_trans h.1 (Fr.set (F:=[b]) (H:=H2) (a:=⟨b,o,none⟩) (v:=v) (by simp)).1,fun c hc _=>by rw [setH_ne (by simp only;omega)];exact h.2 c hc (by simp)⟩
def PK (H:Heap) (b:Nat) (F:Foot) (s:SP) (t:TB):Prop:=∃ sb tb F1 F2,F=b :: (F1++F2)∧b∉F1∧b∉F2∧Disj F1 F2∧b≠g_word_kinds∧g_word_kinds∉F2 ∧
 Blk H b #[.pointer (some ⟨sb,0,none⟩),.pointer (some ⟨tb,0,none⟩)]∧PSp H sb F1 s∧PTb H tb F2 t
theorem PK.lt {H:Heap}{b:Nat}{F:Foot}{s:SP}{t:TB} (h:PK H b F s t):∀ x∈F,x<H.size:=by
 obtain ⟨sb,tb,F1,F2,rfl,h1,h2,h3,k1,k2,hB,hS,hT⟩:=h
 intro x hx
 rcases List.mem_cons.1 hx with rfl | hx
 ·exact hB.lt
 ·rcases List.mem_append.1 hx with hx | hx
  ·exact hS.lt x hx
  ·exact hT.lt x hx
theorem PK.bmem {H:Heap}{b:Nat}{F:Foot}{s:SP}{t:TB} (h:PK H b F s t):b∈F:=by obtain ⟨_,_,_,_,rfl,_⟩:=h;simp
theorem PK.kinds {H:Heap}{b:Nat}{F:Foot}{s:SP}{t:TB} (h:PK H b F s t):Kinds H:=by obtain ⟨_,_,_,_,_,_,_,_,_,_,_,hS,_⟩:=h;exact hS.kinds
theorem PK.gk {H:Heap}{b:Nat}{F:Foot}{s:SP}{t:TB} (h:PK H b F s t):g_word_kinds∉F:=by
 obtain ⟨sb,tb,F1,F2,rfl,h1,h2,h3,k1,k2,hB,hS,hT⟩:=h
 simp only [List.mem_cons,List.mem_append,not_or]
 exact ⟨fun e=>k1 e.symm,hS.gk,k2⟩
theorem PK.fr {H H':Heap}{b:Nat}{F G:Foot}{s:SP}{t:TB} (h:PK H b F s t) (hf:Fr G H H') (hd:Disj F G) (hg:g_word_kinds∉G):PK H' b F s t:=by
 obtain ⟨sb,tb,F1,F2,rfl,h1,h2,h3,k1,k2,hB,hS,hT⟩:=h
 exact ⟨sb,tb,F1,F2,rfl,h1,h2,h3,k1,k2,hB.fr hf (hd b (by simp)),hS.fr hf (hd.mono (fun x hx=>by simp [hx]) fun _ h=>h) hg,hT.fr hf (hd.mono (fun x hx=>by simp [hx]) fun _ h=>h)⟩
theorem PK.nil {H H':Heap}{b:Nat}{F:Foot}{s:SP}{t:TB} (h:PK H b F s t) (hf:Fr [] H H'):PK H' b F s t:=h.fr hf (Disj.nil_right _) (by simp)
theorem PK.wfs {H:Heap}{b:Nat}{F:Foot}{s:SP}{t:TB} (h:PK H b F s t):WFS s:=by obtain ⟨_,_,_,_,_,_,_,_,_,_,_,hS,_⟩:=h;exact hS.wf
theorem PK.wft {H:Heap}{b:Nat}{F:Foot}{s:SP}{t:TB} (h:PK H b F s t):WFT t:=by obtain ⟨_,_,_,_,_,_,_,_,_,_,_,_,hT⟩:=h;exact hT.wf
theorem PK.sp {H:Heap}{b:Nat}{F:Foot}{s:SP}{t:TB} (h:PK H b F s t):∃ sb F1,cellH H ⟨b,0,none⟩=some (.pointer (some ⟨sb,0,none⟩))∧PSp H sb F1 s∧(∀ x∈F1,x∈F)∧b∉F1 ∧
  (∀ H' F1' s',PSp H' sb F1' s'→Up F1 H F1' H'→∃ F',PK H' b F' s' t∧Up F H F' H')∧(∀ H' s',PSp H' sb F1 s'→Fr F1 H H'→PK H' b F s' t):=by
 have hlt:=h.lt
 have hgl:=h.kinds.lt
 obtain ⟨sb,tb,F1,F2,rfl,h1,h2,h3,k1,k2,hB,hS,hT⟩:=h
 refine ⟨sb,F1,hB.cell 0,hS,fun x hx=>by simp [hx],h1,fun H' F1' s' hS' hu=>⟨b :: (F1'++F2),⟨sb,tb,F1',F2,rfl,fun hx=>?_,h2,fun x hx hx2=>?_,k1,k2,hB.fr hu.1 h1,hS',hT.fr hu.1 h3.symm⟩,hu.1.mono fun x hx=>by simp [hx],fun x hx=>?_⟩,fun H' s' hS' hf=>⟨sb,tb,F1,F2,rfl,h1,h2,h3,k1,k2,hB.fr hf h1,hS',hT.fr hf h3.symm⟩⟩
 ·rcases hu.2 b hx with h4 | h4
  ·exact h1 h4
  ·have:=hlt b (by simp);omega
 ·rcases hu.2 x hx with h4 | h4
  ·exact h3 x h4 hx2
  ·have:=hlt x (by simp [hx2]);omega
 ·rcases List.mem_cons.1 hx with rfl | hx
  ·exact .inl (by simp)
  ·rcases List.mem_append.1 hx with hx | hx
   ·exact (hu.2 x hx).imp (fun h4=>by simp [h4]) id
   ·exact .inl (by simp [hx])
theorem PK.tb {H:Heap}{b:Nat}{F:Foot}{s:SP}{t:TB} (h:PK H b F s t):∃ tb F2,cellH H ⟨b,1,none⟩=some (.pointer (some ⟨tb,0,none⟩))∧PTb H tb F2 t∧(∀ x∈F2,x∈F)∧b∉F2 ∧
  (∀ H' F2' t',PTb H' tb F2' t'→Up F2 H F2' H'→∃ F',PK H' b F' s t'∧Up F H F' H')∧(∀ H' t',PTb H' tb F2 t'→Fr F2 H H'→PK H' b F s t'):=by
 have hlt:=h.lt
 have hgl:=h.kinds.lt
 obtain ⟨sb,tb,F1,F2,rfl,h1,h2,h3,k1,k2,hB,hS,hT⟩:=h
 have hgS:=hS.gk
 refine ⟨tb,F2,hB.cell 1,hT,fun x hx=>by simp [hx],h2,fun H' F2' t' hT' hu=>⟨b :: (F1++F2'),⟨sb,tb,F1,F2',rfl,h1,fun hx=>?_,fun x hx hx2=>?_,k1,fun hx=>?_,hB.fr hu.1 h2,hS.fr hu.1 h3 k2,hT'⟩,hu.1.mono fun x hx=>by simp [hx],fun x hx=>?_⟩,fun H' t' hT' hf=>⟨sb,tb,F1,F2,rfl,h1,h2,h3,k1,k2,hB.fr hf h2,hS.fr hf h3 k2,hT'⟩⟩
 ·rcases hu.2 b hx with h4 | h4
  ·exact h2 h4
  ·have:=hlt b (by simp);omega
 ·rcases hu.2 x hx2 with h4 | h4
  ·exact h3 x hx h4
  ·have:=hlt x (by simp [hx]);omega
 ·rcases hu.2 _ hx with h4 | h4
  ·exact k2 h4
  ·omega
 ·rcases List.mem_cons.1 hx with rfl | hx
  ·exact .inl (by simp)
  ·rcases List.mem_append.1 hx with hx | hx
   ·exact .inl (by simp [hx])
   ·exact (hu.2 x hx).imp (fun h4=>by simp [h4]) id
abbrev rd (b:Nat):Value:=.agg #[.pointer (some ⟨b,0,none⟩)]
section
variable {H:Heap}{b:Nat}{F:Foot}{s:SP}{t:TB}{Q:QT}
theorem there_c (hK:PK H b F s t) (h:Q (.bool true) H):callS PP n_k73 #[.pointer (some ⟨b,0,none⟩)] Q H:=by
 obtain ⟨sb,F1,hc,_⟩:=hK.sp
 apply k73_ok
 unfold k73 pV
 exact ⟨_,rfl,_,hc,h⟩
theorem there_nil (h:Q (.bool false) H):callS PP n_k73 #[.pointer none] Q H:=by
 apply k73_ok
 unfold k73 pV
 exact h
theorem slot_k (hK:PK H b F s t){o i:Int} (h:∀ H',Fr [] H H'→Q (.int .i64 (kslot s.h o i)) H'):callS PP n_k181 #[rd b,.int .i64 o,.int .i64 i] Q H:=by
 apply k181_ok
 unfold k181 A0 iV pV cS
 have hf:Fr [] H (H.push (.cells #[.pointer (some ⟨b,0,none⟩)] 131)):=Fr.push _ _ _
 obtain ⟨sb,F1,hc,hS,_⟩:=(hK.nil hf).sp
 refine ⟨_,(Blk.new _ _ _).cell 0,_,rfl,_,hc,psHeap_c hS fun hb F2 hR _ _=>⟨_,rfl,hat_c hR ⟨_,_,rfl,h _ hf⟩⟩⟩
theorem oop_k (hK:PK H b F s t){o i:Int} (h:∀ H',Fr [] H H'→Q (.int .i64 (koop s.h o i)) H'):callS PP n_k76 #[rd b,.int .i64 o,.int .i64 i] Q H:=by
 apply k76_ok
 unfold k76 A0 iV pV cS
 have hf:Fr [] H (H.push (.cells #[.pointer (some ⟨b,0,none⟩)] 131)):=Fr.push _ _ _
 have hK1:=hK.nil hf
 refine ⟨_,(Blk.new _ _ _).cell 0,slot_k hK1 fun H' hf'=>⟨_,rfl,oop_c (hK1.nil hf').kinds ?_⟩⟩
 have:=h H' (hf.trans hf')
 unfold koop oopW at this
 unfold ofW
 split
 ·rename_i hk;rw [if_pos hk] at this;exact ⟨_,_,rfl,this⟩
 ·rename_i hk;rw [if_neg hk] at this;exact ⟨_,_,rfl,this⟩
theorem num_k (hK:PK H b F s t){o i:Int} (h:∀ H',Fr [] H H'→Q (.int .i64 (knum s.h o i)) H'):callS PP n_k179 #[rd b,.int .i64 o,.int .i64 i] Q H:=by
 apply k179_ok
 unfold k179 A0 iV pV cS
 have hf:Fr [] H (H.push (.cells #[.pointer (some ⟨b,0,none⟩)] 131)):=Fr.push _ _ _
 have hK1:=hK.nil hf
 refine ⟨_,(Blk.new _ _ _).cell 0,slot_k hK1 fun H' hf'=>⟨_,rfl,num_c (hK1.nil hf').kinds ?_⟩⟩
 have:=h H' (hf.trans hf')
 unfold knum numW at this
 unfold ofW
 split
 ·rename_i hk;rw [if_pos hk] at this;exact ⟨_,_,rfl,this⟩
 ·rename_i hk;rw [if_neg hk] at this;exact ⟨_,_,rfl,this⟩
theorem text_k (hK:PK H b F s t){o i:Int} (h:∀ H',Fr [] H H'→Q (.string (ktext s.h t o i)) H'):callS PP n_k176 #[rd b,.int .i64 o,.int .i64 i] Q H:=by
 apply k176_ok
 unfold k176 A0 iV pV sV cS
 have hf:Fr [] H (H.push (.cells #[.pointer (some ⟨b,0,none⟩)] 131)):=Fr.push _ _ _
 have hK1:=hK.nil hf
 refine ⟨_,(Blk.new _ _ _).cell 0,slot_k hK1 fun H' hf'=>⟨_,rfl,symOf_c (hK1.nil hf').kinds ?_⟩⟩
 have hB':=(Blk.new H #[.pointer (some ⟨b,0,none⟩)] 131).fr hf' (by simp)
 have:=h H' (hf.trans hf')
 unfold ktext textW at this
 unfold ofW
 split
 ·rename_i hk
  rw [if_pos hk] at this
  refine ⟨_,_,rfl,?_⟩
  simp only [show ((0:Int) != 0)=false from rfl,cond_false]
  obtain ⟨tb,F2,hc,hT,_⟩:=(hK1.nil hf').tb
  refine ⟨_,hB'.cell 0,_,rfl,_,hc,ptText_c hT ?_⟩
  unfold textV
  by_cases hlt:0≤kslot s.h o i / 4∧kslot s.h o i / 4<t.texts.length
  ·rw [dif_pos hlt]
   refine ⟨_,_,rfl,?_⟩
   have e:t.texts[(kslot s.h o i / 4).toNat]'(by omega)=tx t (kslot s.h o i / 4).toNat:=by
    unfold tx
    rw [List.getD_eq_getElem?_getD,List.getElem?_eq_getElem (by omega)];rfl
   rw [e];exact this
  ·rw [dif_neg hlt]
   refine ⟨_,_,rfl,?_⟩
   have hk':=kind_cases (kslot s.h o i)
   have e:tx t (kslot s.h o i / 4).toNat=⟨#[]⟩:=by
    unfold tx
    rw [List.getD_eq_getElem?_getD,List.getElem?_eq_none (by omega)];rfl
   rw [e] at this;exact this
 ·rename_i hk
  rw [if_neg hk] at this
  exact ⟨_,_,rfl,this⟩
theorem size_k (hK:PK H b F s t){o:Int} (h:∀ H',Fr [] H H'→Q (.int .i64 (ksize s.h o)) H'):callS PP n_k75 #[rd b,.int .i64 o] Q H:=by
 apply k75_ok
 unfold k75 A0 iV pV cS
 have hf:Fr [] H (H.push (.cells #[.pointer (some ⟨b,0,none⟩)] 131)):=Fr.push _ _ _
 obtain ⟨sb,F1,hc,hS,_⟩:=(hK.nil hf).sp
 refine ⟨_,(Blk.new _ _ _).cell 0,_,rfl,_,hc,psHeap_c hS fun hb F2 hR _ _=>⟨_,rfl,hsize_c hR ⟨_,_,_,rfl,h _ hf⟩⟩⟩
theorem root_k (hK:PK H b F s t){i:Int} (h:∀ H',Fr [] H H'→Q (.int .i64 (koop s.h 19 i)) H'):callS PP n_k74 #[rd b,.int .i64 i] Q H:=by
 apply k74_ok
 unfold k74 A0 iV pV cS
 have hf:Fr [] H (H.push (.cells #[.pointer (some ⟨b,0,none⟩)] 131)):=Fr.push _ _ _
 exact ⟨_,(Blk.new _ _ _).cell 0,oop_k (hK.nil hf) fun H' hf'=>⟨_,rfl,h _ (hf.trans hf')⟩⟩
theorem super_k (hK:PK H b F s t){o:Int} (h:∀ H',Fr [] H H'→Q (.int .i64 (if koop s.h o 1=1 then 0 else koop s.h o 1)) H'):callS PP n_k180 #[rd b,.int .i64 o] Q H:=by
 apply k180_ok
 unfold k180 A0 iV pV cS
 have hf:Fr [] H (H.push (.cells #[.pointer (some ⟨b,0,none⟩)] 131)):=Fr.push _ _ _
 refine ⟨_,(Blk.new _ _ _).cell 0,oop_k (hK.nil hf) fun H' hf'=>⟨_,rfl,?_⟩⟩
 have:=h _ (hf.trans hf')
 rw [bneI,cond_dec]
 refine ite_i (fun h1=>?_) fun h1=>?_
 ·rw [if_neg h1] at this;exact this
 ·rw [if_pos (Classical.byContradiction h1)] at this;exact this
def ktexts (r:RH) (t:TB) (o:Int):List ByteArray:=(List.range (ksize r o).toNat).map fun i:Nat=>ktext r t o i
theorem texts_k (hK:PK H b F s t){o:Int} (h:∀ a l c G H',Own 1 H' a l c (strsV (ktexts s.h t o)) G→Fr [] H H'→(∀ x∈G,H.size≤x)→Q (.slice a l c) H'):callS PP n_k178 #[rd b,.int .i64 o] Q H:=by
 have hs1:sliceInfo PP 37=some (1,16,some (.string (⟨#[]⟩:ByteArray))):=by kernel_rfl
 have hn0:=size_nonneg (r:=s.h) o
 have hn1:=size_le hK.wfs.h o
 apply k178_ok
 unfold k178 A0 iV wW pV sV lV cS
 have hf:Fr [] H (H.push (.cells #[.pointer (some ⟨b,0,none⟩)] 131)):=Fr.push _ _ _
 refine ⟨_,(Blk.new _ _ _).cell 0,size_k (hK.nil hf) fun H0 hf0=>⟨_,rfl,?_⟩⟩
 have hB0:=(Blk.new H #[.pointer (some ⟨b,0,none⟩)] 131).fr hf0 (by simp)
 refine ⟨fun w H'=>∃(i:Nat) (a:Option Addr) (l' c:Nat) (G:Foot),w=[.slice a l' c,.int .i64 i]∧(i:Int)≤ksize s.h o∧Own 1 H' a l' c (strsV ((ktexts s.h t o).take i)) G∧Fr [] H0 H'∧(∀ x∈G,H0.size≤x),fun w _=>match w with
  | [_,.int _ i]=>(ksize s.h o-i).toNat
  | _=>0,⟨0,none,0,0,[],rfl,hn0,by simpa [strsV] using Own.nil 1 H0,Fr.refl _ _,by simp⟩,?_⟩
 rintro w H1 ⟨i,a1,l1,c1,G,rfl,hi,ho,hf1,hG⟩ _
 have hlen:(ktexts s.h t o).length=(ksize s.h o).toNat:=by simp [ktexts]
 have hl1:l1=i:=by have:=ho.len;simp only [strsV,List.length_map,List.length_take] at this;omega
 have hF1:Fr [] H H1:=(hf.trans hf0).trans hf1
 refine ⟨_,_,_,_,rfl,?_⟩
 rw [cond_dec]
 refine ite_i (fun hlt=>?_) fun hlt=>?_
 ·have htk:(ktexts s.h t o).take (i+1)=(ktexts s.h t o).take i++[ktext s.h t o i]:=by
   rw [List.take_add_one,List.getElem?_eq_getElem (by omega)];simp [ktexts]
  have e:IntKind.wrap .i64 ((i:Int)+1)=((i+1:Nat):Int):=by rw [wrap64_id (by omega) (by omega)];omega
  refine ⟨_,(hB0.fr hf1 (by simp)).cell 0,text_k (hK.nil hF1) fun H2 hf2=>⟨_,rfl,?_⟩⟩
  refine evS_append1 hs1 rfl (by kernel_rfl) (ho.fr hf2 (by simp)) rfl (by simp [oneC]) (by omega) (by decide) (by decide) fun a' c' G2 H3 g1 g2 g3=>⟨_,_,_,rfl,?_⟩
  have hfr:=Up.fresh (hf1.trans hf2) g2 hG
  rw [e]
  refine ⟨⟨i+1,a',l1+1,c',G2,rfl,by omega,?_,hfr.1,hfr.2⟩,by simp;omega⟩
  rw [htk,strsV_append];exact g1
 ·rw [List.take_of_length_le (by omega)] at ho
  exact h _ _ _ _ H1 ho hF1 fun x hx=>Nat.le_trans (hf.trans hf0).1 (hG x hx)
end
variable {Q:QT}{H:Heap}
abbrev n_k11:Nat:=11
def k11 (n1:Int) (n2:Int) (Q:QT) (H:Heap):Prop :=
 callS PP 55 #[iV n1,iV n2] (fun v3 H1=>∃ p4 n5,v3=.tuple #[pV p4,iV n5]∧cond (n5 != 0) (Q (.tuple #[pV none,iV n5]) H1) (cS 56 #[iV 4096] (fun v6 H2=>∃ p7 n8,v6=.tuple #[pV p7,iV n8]∧∃(I9:IT) (μ9:MT),I9 [iV 1] (H2.push (.cells #[pV p4,pV p7] 104))∧∀ w10 H3,I9 w10 H3→∀ _g:Nat→Value,∃ n11,w10=[iV n11]∧cond (decide (n11≤20)) (cS 57 #[iV n11] (fun v12 H4=>∃ n13 n14,v12=.tuple #[iV n13,iV n14]∧∃ q15,p4=some q15∧∃ p16,cellH H4 q15=some (pV p16)∧cS 59 #[iV n13] (fun v17 H5=>∃ n18,v17=iV n18∧((cellH H5 q15=some (pV p16)∧True)∧True)∧cS 58 #[pV p16,iV n18,iV n14,iV 0] (fun v19 H6=>∃ n20 n21,v19=.tuple #[iV n20,iV n21]∧True∧cond (n21 != 0) (Q (.tuple #[pV none,iV n21]) H6) (I9 [iV (wW (n11+1))] H6∧μ9 [iV (wW (n11+1))] H6<μ9 w10 H3)) H5) H4) H3) (∃(I22:IT) (μ22:MT),I22 [iV 0] H3∧∀ w23 H7,I22 w23 H7→∀ _g:Nat→Value,∃ n24,w23=[iV n24]∧cond (decide (n24<14)) (((0:Int)≤n24∧n24<(14:Int))∧∃ s25,cellH H7 ((A0 0).add (Int.toNat n24*1))=some (sV s25)∧cS 60 #[pV p7,sV s25] (fun v26 H8=>∃ n27 n28,v26=.tuple #[iV n27,iV n28]∧cS 59 #[iV 4] (fun v29 H9=>∃ n30,v29=iV n30∧∃ J31:IT,(cond (n24 == 0) (cS 59 #[iV 1] (fun v32 H10=>∃ n33,v32=iV n33∧J31 [iV n33] H10) H9) (J31 [iV n30] H9))∧∀ w34 H11,J31 w34 H11→∀ _g:Nat→Value,∃ n35,w34=[iV n35]∧cS 62 #[iV n24] (fun v36 H12=>∃ n37,v36=iV n37∧cS 59 #[iV 18] (fun v38 H13=>∃ n39,v38=iV n39∧cS 59 #[iV 18] (fun v40 H14=>∃ n41,v40=iV n41∧cS 59 #[iV 18] (fun v42 H15=>∃ n43,v42=iV n43∧cS 63 #[iV 0] (fun v44 H16=>∃ n45,v44=iV n45∧cS 63 #[iV (wW (n24+1))] (fun v46 H17=>∃ n47,v46=iV n47∧cS 61 #[pV (some (A0 H2.size)),iV (wW (4+n24)),lV (some (A0 H17.size)) 7 7] (fun v48 H18=>v48=.tuple #[]∧∃ q49,p4=some q49∧∃ p50,cellH H18 q49=some (pV p50)∧cS 59 #[iV (wW (4+n24))] (fun v51 H19=>∃ n52,v51=iV n52∧((cellH H19 q49=some (pV p50)∧True)∧True)∧cS 64 #[pV p50,iV 20,iV n24,iV n52] (fun v53 H20=>∃ n54,v53=iV n54∧True∧I22 [iV (wW (n24+1))] H20∧μ22 [iV (wW (n24+1))] H20<μ22 w23 H7) H19) H18) (H17.push (.cells #[iV n37,iV n35,iV n39,iV n41,iV n43,iV n45,iV n47] 36))) H16) H15) H14) H13) H12) H11) H8) H7) (cS 59 #[iV 20] (fun v55 H21=>∃ n56,v55=iV n56∧cS 59 #[iV 18] (fun v57 H22=>∃ n58,v57=iV n58∧cS 59 #[iV 18] (fun v59 H23=>∃ n60,v59=iV n60∧cS 59 #[iV 18] (fun v61 H24=>∃ n62,v61=iV n62∧cS 59 #[iV 1] (fun v63 H25=>∃ n64,v63=iV n64∧cS 59 #[iV 2] (fun v65 H26=>∃ n66,v65=iV n66∧cS 59 #[iV 3] (fun v67 H27=>∃ n68,v67=iV n68∧cS 59 #[iV 1] (fun v69 H28=>∃ n70,v69=iV n70∧cS 61 #[pV (some (A0 H2.size)),iV 19,lV (some (A0 H28.size)) 8 8] (fun v71 H29=>v71=.tuple #[]∧cS 65 #[pV p4,iV 19] (fun v72 H30=>∃ n73,v72=iV n73∧Q (.tuple #[pV (some (A0 H2.size)),iV 0]) H30) H29) (H28.push (.cells #[iV n56,iV n58,iV n60,iV n62,iV n64,iV n66,iV n68,iV n70] 36))) H27) H26) H25) H24) H23) H22) H21) H7))) H1)) H
theorem k11_ok {n1:Int}{n2:Int} (h:k11 n1 n2 Q H):callS PP 11 #[.int .i64 n1,.int .i64 n2] Q H :=
 callS_of good Tryz.func11 rfl (Ls:=fun | 7=>some [(11,3)] | 14=>some [(16,3)] | 1020=>some [(17,36)] | _=>none) (by kernel_rfl) h
abbrev n_k27:Nat:=27
def k27 (p1:Option Addr) (s2:ByteArray) (Q:QT) (H:Heap):Prop :=
 callS PP 114 #[sV s2] (fun v3 H1=>∃ b4,v3=.bool b4∧cond (!b4) (Q (iV 133) H1) (cS 115 #[pV p1,sV s2] (fun v5 H2=>∃ b6,v5=.bool b6∧cond b6 (Q (iV 131) H2) (cS 78 #[pV p1] (fun v7 H3=>∃ a8 l8 c8,v7=lV a8 l8 c8∧cond (decide ((l8:Int) ≥ 256)) (Q (iV 138) H3) (cS 116 #[pV p1] (fun v9 H4=>∃ p10,v9=pV p10∧cS 117 #[pV p1,lV (some (A0 H4.size)) 1 1] (fun v11 H5=>∃ a12 l12 c12 n13,v11=.tuple #[lV a12 l12 c12,iV n13]∧cond (n13 == 0) (∃ J14:IT,(((0:Int)≤0∧0<(l12:Int))∧∃ q15,a12=some q15∧∃ n16,cellH H5 (q15.add (Int.toNat 0*1))=some (iV n16)∧(cS 120 #[pV p1,iV 19,iV 1] (fun v17 H6=>∃ n18,v17=iV n18∧((cellH H6 (q15.add (Int.toNat 0*1))=some (iV n16)∧True)∧True)∧(cS 119 #[iV n18] (fun v19 H7=>∃ n20,v19=iV n20∧((cellH H7 (q15.add (Int.toNat 0*1))=some (iV n16)∧True)∧True)∧(cS 118 #[pV p1,iV n20] (fun v21 H8=>∃ a22 l22 c22,v21=lV a22 l22 c22∧((cellH H8 (q15.add (Int.toNat 0*1))=some (iV n16)∧True)∧True)∧True∧evS PP (Builtin.append_ #[108,108] 108 #[lV a22 l22 c22,lV (some (A0 H8.size)) 1 1]) (fun v23 H9=>∃ a24 l24 c24,v23=lV a24 l24 c24∧True∧J14 [lV a24 l24 c24] H9) (H8.push (.cells #[iV n16] 36))) H7)∧(True∧cS 118 #[pV p1,iV n20] (fun v25 H10=>∃ a26 l26 c26,v25=lV a26 l26 c26∧True∧evS PP (Builtin.append_ #[108,108] 108 #[lV a26 l26 c26,lV (some (A0 H7.size)) 1 1]) (fun v27 H11=>∃ a28 l28 c28,v27=lV a28 l28 c28∧True∧J14 [lV a28 l28 c28] H11) H10) (H7.push (.cells #[iV n16] 36)))) H6)∧(True∧cS 119 #[iV n18] (fun v29 H12=>∃ n30,v29=iV n30∧True∧cS 118 #[pV p1,iV n30] (fun v31 H13=>∃ a32 l32 c32,v31=lV a32 l32 c32∧True∧evS PP (Builtin.append_ #[108,108] 108 #[lV a32 l32 c32,lV (some (A0 H6.size)) 1 1]) (fun v33 H14=>∃ a34 l34 c34,v33=lV a34 l34 c34∧True∧J14 [lV a34 l34 c34] H14) H13) H12) (H6.push (.cells #[iV n16] 36)))) H5)∧(True∧cS 120 #[pV p1,iV 19,iV 1] (fun v35 H15=>∃ n36,v35=iV n36∧True∧cS 119 #[iV n36] (fun v37 H16=>∃ n38,v37=iV n38∧True∧cS 118 #[pV p1,iV n38] (fun v39 H17=>∃ a40 l40 c40,v39=lV a40 l40 c40∧True∧evS PP (Builtin.append_ #[108,108] 108 #[lV a40 l40 c40,lV (some (A0 H5.size)) 1 1]) (fun v41 H18=>∃ a42 l42 c42,v41=lV a42 l42 c42∧True∧J14 [lV a42 l42 c42] H18) H17) H16) H15) (H5.push (.cells #[iV n16] 36))))∧∀ w43 H19,J14 w43 H19→∀ _g:Nat→Value,∃ a44 l44 c44,w43=[lV a44 l44 c44]∧cS 59 #[iV 1] (fun v45 H20=>∃ n46,v45=iV n46∧evS PP (Builtin.append_ #[108,108] 108 #[lV a44 l44 c44,lV (some (A0 H20.size)) 1 1]) (fun v47 H21=>∃ a48 l48 c48,v47=lV a48 l48 c48∧cS 121 #[pV p1,iV 11,lV a48 l48 c48] (fun v49 H22=>∃ n50 n51,v49=.tuple #[iV n50,iV n51]∧cond (n51 == 0) (∃ q52,p1=some q52∧∃ p53,cellH H22 q52=some (pV p53)∧cS 122 #[pV p53,iV 1,iV n50] (fun v54 H23=>∃ n55,v54=iV n55∧cS 123 #[pV p1,pV p10,iV n51] (fun v56 H24=>∃ n57,v56=iV n57∧Q (iV n57) H24) H23) H22) (cS 123 #[pV p1,pV p10,iV n51] (fun v58 H25=>∃ n59,v58=iV n59∧Q (iV n59) H25) H22)) H21) (H20.push (.cells #[iV n46] 36))) H19) (cS 123 #[pV p1,pV p10,iV n13] (fun v60 H26=>∃ n61,v60=iV n61∧Q (iV n61) H26) H5)) (H4.push (.cells #[sV s2] 9))) H3)) H2)) H1)) H
theorem k27_ok {p1:Option Addr}{s2:ByteArray} (h:k27 p1 s2 Q H):callS PP 27 #[.pointer p1,.string s2] Q H :=
 callS_of good Tryz.func27 rfl (Ls:=fun | 1012=>some [(9,108)] | _=>none) (by kernel_rfl) h
abbrev n_k40:Nat:=40
def k40 (p1:Option Addr) (Q:QT) (H:Heap):Prop :=
 callS PP 120 #[pV p1,iV 19,iV 0] (fun v2 H1=>∃ n3,v2=iV n3∧cS 119 #[iV n3] (fun v4 H2=>∃ n5,v4=iV n5∧cS 118 #[pV p1,iV n5] (fun v6 H3=>∃ a7 l7 c7,v6=lV a7 l7 c7∧∃(I8:IT) (μ8:MT),I8 [lV none 0 0,iV 0] H3∧∀ w9 H4,I8 w9 H4→∀ _g:Nat→Value,∃ a10 l10 c10 n11,w9=[lV a10 l10 c10,iV n11]∧cond (decide (n11<(l7:Int))) (((0:Int)≤n11∧n11<(l7:Int))∧∃ q12,a7=some q12∧∃ n13,cellH H4 (q12.add (Int.toNat n11*1))=some (iV n13)∧cS 119 #[iV n13] (fun v14 H5=>∃ n15,v14=iV n15∧evS PP (Builtin.append_ #[66,66] 66 #[lV a10 l10 c10,lV (some (A0 H5.size)) 1 1]) (fun v16 H6=>∃ a17 l17 c17,v16=lV a17 l17 c17∧I8 [lV a17 l17 c17,iV (wW (n11+1))] H6∧μ8 [lV a17 l17 c17,iV (wW (n11+1))] H6<μ8 w9 H4) (H5.push (.cells #[iV n15] 3))) H4) (Q (lV a10 l10 c10) H4)) H2) H1) H
theorem k40_ok {p1:Option Addr} (h:k40 p1 Q H):callS PP 40 #[.pointer p1] Q H :=
 callS_of good Tryz.func40 rfl (Ls:=fun | 4=>some [(4,66),(5,3)] | _=>none) (by kernel_rfl) h
abbrev n_k61:Nat:=61
def k61 (p1:Option Addr) (n2:Int) (a3:Option Addr) (l3:Nat) (_c3:Nat) (Q:QT) (H:Heap):Prop :=
 ∃(I4:IT) (μ4:MT),I4 [iV 0] H∧∀ w5 H1,I4 w5 H1→∀ _g:Nat→Value,∃ n6,w5=[iV n6]∧cond (decide (n6<(l3:Int))) (∃ q7,p1=some q7∧∃ p8,cellH H1 q7=some (pV p8)∧∃ q9,p8=some q9∧∃ p10,cellH H1 q9=some (pV p10)∧((0:Int)≤n6∧n6<(l3:Int))∧∃ q11,a3=some q11∧∃ n12,cellH H1 (q11.add (Int.toNat n6*1))=some (iV n12)∧cS 64 #[pV p10,iV n2,iV n6,iV n12] (fun v13 H2=>∃ n14,v13=iV n14∧True∧I4 [iV (wW (n6+1))] H2∧μ4 [iV (wW (n6+1))] H2<μ4 w5 H1) H1) (Q (.tuple #[]) H1)
theorem k61_ok {p1:Option Addr}{n2:Int}{a3:Option Addr}{l3:Nat}{c3:Nat} (h:k61 p1 n2 a3 l3 c3 Q H):callS PP 61 #[.pointer p1,.int .i64 n2,.slice a3 l3 c3] Q H :=
 callS_of good Tryz.func61 rfl (Ls:=fun | 1=>some [(6,3)] | _=>none) (by kernel_rfl) h
abbrev n_k78:Nat:=78
def k78 (p1:Option Addr) (Q:QT) (H:Heap):Prop :=
 callS PP 120 #[pV p1,iV 19,iV 1] (fun v2 H1=>∃ n3,v2=iV n3∧cS 119 #[iV n3] (fun v4 H2=>∃ n5,v4=iV n5∧cS 118 #[pV p1,iV n5] (fun v6 H3=>∃ a7 l7 c7,v6=lV a7 l7 c7∧∃(I8:IT) (μ8:MT),I8 [lV none 0 0,iV 0] H3∧∀ w9 H4,I8 w9 H4→∀ _g:Nat→Value,∃ a10 l10 c10 n11,w9=[lV a10 l10 c10,iV n11]∧cond (decide ((wW (n11+1))<(l7:Int))) (((0:Int)≤n11∧n11<(l7:Int))∧∃ q12,a7=some q12∧∃ n13,cellH H4 (q12.add (Int.toNat n11*1))=some (iV n13)∧cS 158 #[pV p1,iV n13] (fun v14 H5=>∃ s15,v14=sV s15∧evS PP (Builtin.append_ #[37,37] 37 #[lV a10 l10 c10,lV (some (A0 H5.size)) 1 1]) (fun v16 H6=>∃ a17 l17 c17,v16=lV a17 l17 c17∧I8 [lV a17 l17 c17,iV (wW (n11+2))] H6∧μ8 [lV a17 l17 c17,iV (wW (n11+2))] H6<μ8 w9 H4) (H5.push (.cells #[sV s15] 9))) H4) (Q (lV a10 l10 c10) H4)) H2) H1) H
theorem k78_ok {p1:Option Addr} (h:k78 p1 Q H):callS PP 78 #[.pointer p1] Q H :=
 callS_of good Tryz.func78 rfl (Ls:=fun | 4=>some [(4,37),(5,3)] | _=>none) (by kernel_rfl) h
abbrev n_k103:Nat:=103
def k103 (p1:Option Addr) (s2:ByteArray) (s3:ByteArray) (a4:Option Addr) (l4:Nat) (c4:Nat) (Q:QT) (H:Heap):Prop :=
 callS PP 208 #[pV p1,sV s2,sV s3,lV a4 l4 c4] (fun v5 H1=>∃ n6 n7,v5=.tuple #[iV n6,iV n7]∧cond (n7 != 0) (Q (.tuple #[iV 0,iV n7]) H1) (cS 116 #[pV p1] (fun v8 H2=>∃ p9,v8=pV p9∧cS 209 #[pV p1,sV s2,iV n6,lV a4 l4 c4] (fun v10 H3=>∃ n11 n12,v10=.tuple #[iV n11,iV n12]∧cS 123 #[pV p1,pV p9,iV n12] (fun v13 H4=>∃ n14,v13=iV n14∧cond (n14 != 0) (Q (.tuple #[iV 0,iV n14]) H4) (Q (.tuple #[iV n11,iV 0]) H4)) H3) H2) H1)) H
theorem k103_ok {p1:Option Addr}{s2:ByteArray}{s3:ByteArray}{a4:Option Addr}{l4:Nat}{c4:Nat} (h:k103 p1 s2 s3 a4 l4 c4 Q H):callS PP 103 #[.pointer p1,.string s2,.string s3,.slice a4 l4 c4] Q H :=
 okF Tryz.func103 rfl h
abbrev n_k105:Nat:=105
def k105 (p1:Option Addr) (n2:Int) (n3:Int) (Q:QT) (H:Heap):Prop :=
 callS PP 106 #[pV p1,iV n2] (fun v4 H1=>∃ n5 n6,v4=.tuple #[iV n5,iV n6]∧cond (n6 != 0) (Q (iV n6) H1) (cS 210 #[iV n3] (fun v7 H2=>∃ b8,v7=.bool b8∧cond (!b8) (Q (iV 10) H2) (∃ q9,p1=some q9∧∃ p10,cellH H2 q9=some (pV p10)∧∃ q11,p10=some q11∧∃ p12,cellH H2 q11=some (pV p12)∧cS 120 #[pV p1,iV 19,iV 1] (fun v13 H3=>∃ n14,v13=iV n14∧((cellH H3 q11=some (pV p12)∧True)∧((cellH H3 q9=some (pV p10)∧True)∧True))∧cS 119 #[iV n14] (fun v15 H4=>∃ n16,v15=iV n16∧((cellH H4 q11=some (pV p12)∧True)∧((cellH H4 q9=some (pV p10)∧True)∧True))∧cS 64 #[pV p12,iV n16,iV (wW ((wW (2*n2))+1)),iV n3] (fun v17 H5=>∃ n18,v17=iV n18∧True∧Q (iV n18) H5) H4) H3) H2)) H1)) H
theorem k105_ok {p1:Option Addr}{n2:Int}{n3:Int} (h:k105 p1 n2 n3 Q H):callS PP 105 #[.pointer p1,.int .i64 n2,.int .i64 n3] Q H :=
 okF Tryz.func105 rfl h
abbrev n_k106:Nat:=106
def k106 (p1:Option Addr) (n2:Int) (Q:QT) (H:Heap):Prop :=
 cond (decide (n2<0)) (Q (.tuple #[iV 0,iV 1]) H) (cS 78 #[pV p1] (fun v3 H1=>∃ a4 l4 c4,v3=lV a4 l4 c4∧cond (decide (n2 ≥ (l4:Int))) (Q (.tuple #[iV 0,iV 1]) H1) (cS 120 #[pV p1,iV 19,iV 1] (fun v5 H2=>∃ n6,v5=iV n6∧cS 119 #[iV n6] (fun v7 H3=>∃ n8,v7=iV n8∧cS 120 #[pV p1,iV n8,iV (wW ((wW (2*n2))+1))] (fun v9 H4=>∃ n10,v9=iV n10∧Q (.tuple #[iV n10,iV 0]) H4) H3) H2) H1)) H)
theorem k106_ok {p1:Option Addr}{n2:Int} (h:k106 p1 n2 Q H):callS PP 106 #[.pointer p1,.int .i64 n2] Q H :=
 okF Tryz.func106 rfl h
abbrev n_k110:Nat:=110
def k110 (p1:Option Addr) (s2:ByteArray) (Q:QT) (H:Heap):Prop :=
 callS PP 40 #[pV p1] (fun v3 H1=>∃ a4 l4 c4,v3=lV a4 l4 c4∧∃(I5:IT) (μ5:MT),I5 [iV 0] H1∧∀ w6 H2,I5 w6 H2→∀ _g:Nat→Value,∃ n7,w6=[iV n7]∧cond (decide (n7<(l4:Int))) (((0:Int)≤n7∧n7<(l4:Int))∧∃ q8,a4=some q8∧∃ n9,cellH H2 (q8.add (Int.toNat n7*1))=some (iV n9)∧cS 120 #[pV p1,iV n9,iV 0] (fun v10 H3=>∃ n11,v10=iV n11∧cS 158 #[pV p1,iV n11] (fun v12 H4=>∃ s13,v12=sV s13∧cond (strEq s13 s2) (((0:Int)≤n7∧n7<(l4:Int))∧∃ q14,a4=some q14∧∃ n15,cellH H4 (q14.add (Int.toNat n7*1))=some (iV n15)∧Q (.tuple #[iV n15,iV 0]) H4) (I5 [iV (wW (n7+1))] H4∧μ5 [iV (wW (n7+1))] H4<μ5 w6 H2)) H3) H2) (Q (.tuple #[iV 0,iV 130]) H2)) H
theorem k110_ok {p1:Option Addr}{s2:ByteArray} (h:k110 p1 s2 Q H):callS PP 110 #[.pointer p1,.string s2] Q H :=
 callS_of good Tryz.func110 rfl (Ls:=fun | 3=>some [(7,3)] | _=>none) (by kernel_rfl) h
abbrev n_k111:Nat:=111
def k111 (p1:Option Addr) (n2:Int) (Q:QT) (H:Heap):Prop :=
 callS PP 40 #[pV p1] (fun v3 H1=>∃ a4 l4 c4,v3=lV a4 l4 c4∧cond (decide (n2<1)) (Q (.tuple #[iV 0,iV 130]) H1) (cond (decide (n2 > (l4:Int))) (Q (.tuple #[iV 0,iV 130]) H1) (((0:Int)≤(wW (n2-1))∧(wW (n2-1))<(l4:Int))∧∃ q5,a4=some q5∧∃ n6,cellH H1 (q5.add (Int.toNat (wW (n2-1))*1))=some (iV n6)∧Q (.tuple #[iV n6,iV 0]) H1))) H
theorem k111_ok {p1:Option Addr}{n2:Int} (h:k111 p1 n2 Q H):callS PP 111 #[.pointer p1,.int .i64 n2] Q H :=
 okF Tryz.func111 rfl h
abbrev n_k113:Nat:=113
def k113 (p1:Option Addr) (n2:Int) (Q:QT) (H:Heap):Prop :=
 ∃ J3:IT,(cS 210 #[iV n2] (fun v4 H1=>∃ b5,v4=.bool b5∧cond b5 (cond ((Int.tmod n2 2) != 0) (Q (.tuple #[iV 8,iV 0]) H1) (J3 [] H1)) (J3 [] H1)) H)∧∀ w6 H2,J3 w6 H2→∀ _g:Nat→Value,w6=[]∧cS 210 #[iV n2] (fun v7 H3=>∃ b8,v7=.bool b8∧cond (!b8) (Q (.tuple #[iV 0,iV 10]) H3) (cond ((Int.tmod n2 4) == 2) (Q (.tuple #[iV 9,iV 0]) H3) (∃ q9,p1=some q9∧∃ p10,cellH H3 q9=some (pV p10)∧∃ q11,p10=some q11∧∃ p12,cellH H3 q11=some (pV p12)∧cS 119 #[iV n2] (fun v13 H4=>∃ n14,v13=iV n14∧((cellH H4 q11=some (pV p12)∧True)∧((cellH H4 q9=some (pV p10)∧True)∧True))∧cS 148 #[pV p12,iV n14] (fun v15 H5=>∃ n16 n17,v15=.tuple #[iV n16,iV n17]∧True∧cond (n17 != 0) (Q (.tuple #[iV 0,iV n17]) H5) (cS 119 #[iV n16] (fun v18 H6=>∃ n19,v18=iV n19∧Q (.tuple #[iV n19,iV 0]) H6) H5)) H4) H3))) H2
theorem k113_ok {p1:Option Addr}{n2:Int} (h:k113 p1 n2 Q H):callS PP 113 #[.pointer p1,.int .i64 n2] Q H :=
 callS_of good Tryz.func113 rfl (Ls:=fun | 1003=>some [] | _=>none) (by kernel_rfl) h
abbrev n_k115:Nat:=115
def k115 (p1:Option Addr) (s2:ByteArray) (Q:QT) (H:Heap):Prop :=
 callS PP 110 #[pV p1,sV s2] (fun v3 H1=>∃ n4 n5,v3=.tuple #[iV n4,iV n5]∧cS 78 #[pV p1] (fun v6 H2=>∃ a7 l7 c7,v6=lV a7 l7 c7∧∃(I8:IT) (μ8:MT),I8 [iV 0] H2∧∀ w9 H3,I8 w9 H3→∀ _g:Nat→Value,∃ n10,w9=[iV n10]∧cond (decide (n10<(l7:Int))) (((0:Int)≤n10∧n10<(l7:Int))∧∃ q11,a7=some q11∧∃ s12,cellH H3 (q11.add (Int.toNat n10*1))=some (sV s12)∧cond (strEq s12 s2) (Q (.bool true) H3) (I8 [iV (wW (n10+1))] H3∧μ8 [iV (wW (n10+1))] H3<μ8 w9 H3)) (Q (.bool (n5 == 0)) H3)) H1) H
theorem k115_ok {p1:Option Addr}{s2:ByteArray} (h:k115 p1 s2 Q H):callS PP 115 #[.pointer p1,.string s2] Q H :=
 callS_of good Tryz.func115 rfl (Ls:=fun | 4=>some [(8,3)] | _=>none) (by kernel_rfl) h
abbrev n_k116:Nat:=116
def k116 (p1:Option Addr) (Q:QT) (H:Heap):Prop :=
 ∃ q2,p1=some q2∧∃ p3,cellH H (q2.add 1)=some (pV p3)∧∃ q4,p1=some q4∧∃ p5,cellH H q4=some (pV p5)∧∃ q6,p5=some q6∧∃ p7,cellH H q6=some (pV p7)∧∃ q8,p1=some q8∧∃ p9,cellH H q8=some (pV p9)∧∃ q10,p9=some q10∧∃ a11 l11 c11,cellH H (q10.add 2)=some (lV a11 l11 c11)∧cS 214 #[pV p3] (fun v12 H1=>∃ n13,v12=iV n13∧((cellH H1 (q10.add 2)=some (lV a11 l11 c11)∧True)∧((cellH H1 q8=some (pV p9)∧True)∧((cellH H1 q6=some (pV p7)∧True)∧((cellH H1 q4=some (pV p5)∧True)∧True))))∧cS 82 #[pV p7] (fun v14 H2=>∃ n15,v14=iV n15∧((cellH H2 (q10.add 2)=some (lV a11 l11 c11)∧True)∧((cellH H2 q8=some (pV p9)∧True)∧True))∧True∧Q (pV (some (A0 H2.size))) (H2.push (.cells #[iV n13,iV n15,iV (l11:Int)] 257))) H1) H
theorem k116_ok {p1:Option Addr} (h:k116 p1 Q H):callS PP 116 #[.pointer p1] Q H :=
 okF Tryz.func116 rfl h
abbrev n_k117:Nat:=117
def k117 (p1:Option Addr) (a2:Option Addr) (l2:Nat) (_c2:Nat) (Q:QT) (H:Heap):Prop :=
 ∃(I3:IT) (μ3:MT),I3 [lV none 0 0,iV 0] H∧∀ w4 H1,I3 w4 H1→∀ _g:Nat→Value,∃ a5 l5 c5 n6,w4=[lV a5 l5 c5,iV n6]∧cond (decide (n6<(l2:Int))) (∃ q7,p1=some q7∧∃ p8,cellH H1 (q7.add 1)=some (pV p8)∧((0:Int)≤n6∧n6<(l2:Int))∧∃ q9,a2=some q9∧∃ s10,cellH H1 (q9.add (Int.toNat n6*1))=some (sV s10)∧cS 60 #[pV p8,sV s10] (fun v11 H2=>∃ n12 n13,v11=.tuple #[iV n12,iV n13]∧True∧cond (n13 != 0) (Q (.tuple #[lV none 0 0,iV n13]) H2) (cS 62 #[iV n12] (fun v14 H3=>∃ n15,v14=iV n15∧evS PP (Builtin.append_ #[108,108] 108 #[lV a5 l5 c5,lV (some (A0 H3.size)) 1 1]) (fun v16 H4=>∃ a17 l17 c17,v16=lV a17 l17 c17∧I3 [lV a17 l17 c17,iV (wW (n6+1))] H4∧μ3 [lV a17 l17 c17,iV (wW (n6+1))] H4<μ3 w4 H1) (H3.push (.cells #[iV n15] 36))) H2)) H1) (Q (.tuple #[lV a5 l5 c5,iV 0]) H1)
theorem k117_ok {p1:Option Addr}{a2:Option Addr}{l2:Nat}{c2:Nat} (h:k117 p1 a2 l2 c2 Q H):callS PP 117 #[.pointer p1,.slice a2 l2 c2] Q H :=
 callS_of good Tryz.func117 rfl (Ls:=fun | 3=>some [(6,108),(7,3)] | _=>none) (by kernel_rfl) h
abbrev n_k118:Nat:=118
def k118 (p1:Option Addr) (n2:Int) (Q:QT) (H:Heap):Prop :=
 ∃ q3,p1=some q3∧∃ p4,cellH H q3=some (pV p4)∧∃ q5,p4=some q5∧∃ p6,cellH H q5=some (pV p6)∧cS 201 #[pV p6,iV n2] (fun v7 H1=>∃ n8 n9 n10,v7=.tuple #[iV n8,iV n9,iV n10]∧∃(I11:IT) (μ11:MT),I11 [lV none 0 0,iV 0] H1∧∀ w12 H2,I11 w12 H2→∀ _g:Nat→Value,∃ a13 l13 c13 n14,w12=[lV a13 l13 c13,iV n14]∧cond (decide (n14<n8)) (cS 120 #[pV p1,iV n2,iV n14] (fun v15 H3=>∃ n16,v15=iV n16∧evS PP (Builtin.append_ #[108,108] 108 #[lV a13 l13 c13,lV (some (A0 H3.size)) 1 1]) (fun v17 H4=>∃ a18 l18 c18,v17=lV a18 l18 c18∧I11 [lV a18 l18 c18,iV (wW (n14+1))] H4∧μ11 [lV a18 l18 c18,iV (wW (n14+1))] H4<μ11 w12 H2) (H3.push (.cells #[iV n16] 36))) H2) (Q (lV a13 l13 c13) H2)) H
theorem k118_ok {p1:Option Addr}{n2:Int} (h:k118 p1 n2 Q H):callS PP 118 #[.pointer p1,.int .i64 n2] Q H :=
 callS_of good Tryz.func118 rfl (Ls:=fun | 4=>some [(8,108),(9,3)] | _=>none) (by kernel_rfl) h
abbrev n_k120:Nat:=120
def k120 (p1:Option Addr) (n2:Int) (n3:Int) (Q:QT) (H:Heap):Prop :=
 ∃ q4,p1=some q4∧∃ p5,cellH H q4=some (pV p5)∧∃ q6,p5=some q6∧∃ p7,cellH H q6=some (pV p7)∧cS 215 #[pV p7,iV n2,iV n3] (fun v8 H1=>∃ n9 n10,v8=.tuple #[iV n9,iV n10]∧Q (iV n9) H1) H
theorem k120_ok {p1:Option Addr}{n2:Int}{n3:Int} (h:k120 p1 n2 n3 Q H):callS PP 120 #[.pointer p1,.int .i64 n2,.int .i64 n3] Q H :=
 okF Tryz.func120 rfl h
abbrev n_k121:Nat:=121
def k121 (p1:Option Addr) (n2:Int) (a3:Option Addr) (l3:Nat) (c3:Nat) (Q:QT) (H:Heap):Prop :=
 ∃ J4:IT,(cond (n2 == 11) (cond ((l3:Int) == 0) (cS 59 #[iV 18] (fun v5 H1=>∃ n6,v5=iV n6∧Q (.tuple #[iV n6,iV 0]) H1) H) (J4 [] H)) (J4 [] H))∧∀ w7 H2,J4 w7 H2→∀ _g:Nat→Value,w7=[]∧∃ q8,p1=some q8∧∃ p9,cellH H2 q8=some (pV p9)∧cS 59 #[iV n2] (fun v10 H3=>∃ n11,v10=iV n11∧((cellH H3 q8=some (pV p9)∧True)∧True)∧cS 216 #[pV p9,iV n11,iV (l3:Int),iV 0] (fun v12 H4=>∃ n13 n14,v12=.tuple #[iV n13,iV n14]∧True∧cond (n14 != 0) (Q (.tuple #[iV 0,iV n14]) H4) (cS 119 #[iV n13] (fun v15 H5=>∃ n16,v15=iV n16∧cS 61 #[pV p1,iV n16,lV a3 l3 c3] (fun v17 H6=>v17=.tuple #[]∧∃ q18,p1=some q18∧∃ p19,cellH H6 q18=some (pV p19)∧cS 217 #[pV p19,lV (some (A0 H6.size)) 1 1] (fun v20 H7=>∃ n21,v20=iV n21∧Q (.tuple #[iV n13,iV n21]) H7) (H6.push (.cells #[iV n13] 36))) H5) H4)) H3) H2
theorem k121_ok {p1:Option Addr}{n2:Int}{a3:Option Addr}{l3:Nat}{c3:Nat} (h:k121 p1 n2 a3 l3 c3 Q H):callS PP 121 #[.pointer p1,.int .i64 n2,.slice a3 l3 c3] Q H :=
 callS_of good Tryz.func121 rfl (Ls:=fun | 1003=>some [] | _=>none) (by kernel_rfl) h
abbrev n_k123:Nat:=123
def k123 (p1:Option Addr) (p2:Option Addr) (n3:Int) (Q:QT) (H:Heap):Prop :=
 ∃ q4,p1=some q4∧∃ p5,cellH H q4=some (pV p5)∧∃ q6,p1=some q6∧∃ p7,cellH H q6=some (pV p7)∧∃ q8,p7=some q8∧∃ a9 l9 c9,cellH H (q8.add 2)=some (lV a9 l9 c9)∧∃ q10,p2=some q10∧∃ n11,cellH H (q10.add 2)=some (iV n11)∧cS 218 #[pV p5,iV (wW ((l9:Int)-n11))] (fun v12 H1=>∃ n13,v12=iV n13∧True∧cond (n3 == 0) (Q (iV 0) H1) (∃ q14,p1=some q14∧∃ p15,cellH H1 (q14.add 1)=some (pV p15)∧∃ q16,p2=some q16∧∃ n17,cellH H1 q16=some (iV n17)∧cS 219 #[pV p15,iV n17] (fun v18 H2=>∃ n19,v18=iV n19∧True∧cond (n3 != 24) (∃ q20,p1=some q20∧∃ p21,cellH H2 q20=some (pV p21)∧∃ q22,p21=some q22∧∃ p23,cellH H2 q22=some (pV p23)∧∃ q24,p2=some q24∧∃ n25,cellH H2 (q24.add 1)=some (iV n25)∧cS 107 #[pV p23,iV n25] (fun v26 H3=>∃ n27,v26=iV n27∧True∧Q (iV n3) H3) H2) (Q (iV n3) H2)) H1)) H
theorem k123_ok {p1:Option Addr}{p2:Option Addr}{n3:Int} (h:k123 p1 p2 n3 Q H):callS PP 123 #[.pointer p1,.pointer p2,.int .i64 n3] Q H :=
 okF Tryz.func123 rfl h
abbrev n_k124:Nat:=124
def k124 (p1:Option Addr) (n2:Int) (Q:QT) (H:Heap):Prop :=
 callS PP 220 #[pV p1,iV n2] (fun v3 H1=>shH (setH H1 (A0 H.size) (sV (⟨#[]⟩:ByteArray))) fun C5=>shH (setH C5 ((A0 H.size).add 1) (sV (⟨#[]⟩:ByteArray))) fun C3=>shH (setH (setH C3 ((A0 H.size).add 2) (lV none 0 0)) ((A0 H.size).add 3) (iV 0)) fun C1=>∃ n4,v3=iV n4∧cond (n4 == 0) (Wr H1 (A0 H.size)∧Wr C5 ((A0 H.size).add 1)∧Wr C3 ((A0 H.size).add 2)∧Wr (setH C3 ((A0 H.size).add 2) (lV none 0 0)) ((A0 H.size).add 3)∧∃ s5,cellH C1 (A0 H.size)=some (sV s5)∧∃ s6,cellH C1 ((A0 H.size).add 1)=some (sV s6)∧∃ a7 l7 c7,cellH C1 ((A0 H.size).add 2)=some (lV a7 l7 c7)∧∃ n8,cellH C1 ((A0 H.size).add 3)=some (iV n8)∧Q (.tuple #[.agg #[sV s5,sV s6,lV a7 l7 c7,iV n8],iV 130]) C1) (cS 221 #[pV p1,iV n2] (fun v9 H2=>∃ s10:ByteArray,∃ s11:ByteArray,shH (setH (setH H2 (A0 H.size) (sV s10)) ((A0 H.size).add 1) (sV s11)) fun C4=>∃ a12:Option Addr,∃ l12:Nat,∃ c12:Nat,∃ n13:Int,shH (setH (setH C4 ((A0 H.size).add 2) (lV a12 l12 c12)) ((A0 H.size).add 3) (iV n13)) fun C2=>v9=.agg #[sV s10,sV s11,lV a12 l12 c12,iV n13]∧Wr H2 (A0 H.size)∧Wr (setH H2 (A0 H.size) (sV s10)) ((A0 H.size).add 1)∧Wr C4 ((A0 H.size).add 2)∧Wr (setH C4 ((A0 H.size).add 2) (lV a12 l12 c12)) ((A0 H.size).add 3)∧∃ s14,cellH C2 (A0 H.size)=some (sV s14)∧∃ s15,cellH C2 ((A0 H.size).add 1)=some (sV s15)∧∃ a16 l16 c16,cellH C2 ((A0 H.size).add 2)=some (lV a16 l16 c16)∧∃ n17,cellH C2 ((A0 H.size).add 3)=some (iV n17)∧Q (.tuple #[.agg #[sV s14,sV s15,lV a16 l16 c16,iV n17],iV 0]) C2) H1)) (H.push (.cells #[sV (⟨#[]⟩:ByteArray),sV (⟨#[]⟩:ByteArray),lV none 0 0,iV 0] 121))
theorem k124_ok {p1:Option Addr}{n2:Int} (h:k124 p1 n2 Q H):callS PP 124 #[.pointer p1,.int .i64 n2] Q H :=
 okF Tryz.func124 rfl h
abbrev n_k125:Nat:=125
def k125 (p1:Option Addr) (n2:Int) (Q:QT) (H:Heap):Prop :=
 callS PP 220 #[pV p1,iV n2] (fun v3 H1=>∃ n4,v3=iV n4∧cond (n4 == 0) (Q (.tuple #[lV none 0 0,iV 130]) H1) (cS 223 #[pV p1] (fun v5 H2=>∃ a6 l6 c6,v5=lV a6 l6 c6∧cS 222 #[lV a6 l6 c6,iV (wW (n4-1)),iV (-1),lV none 0 0] (fun v7 H3=>∃ a8 l8 c8,v7=lV a8 l8 c8∧Q (.tuple #[lV a8 l8 c8,iV 0]) H3) H2) H1)) H
theorem k125_ok {p1:Option Addr}{n2:Int} (h:k125 p1 n2 Q H):callS PP 125 #[.pointer p1,.int .i64 n2] Q H :=
 okF Tryz.func125 rfl h
abbrev n_k126:Nat:=126
def k126 (p1:Option Addr) (n2:Int) (Q:QT) (H:Heap):Prop :=
 callS PP 220 #[pV p1,iV n2] (fun v3 H1=>∃ n4,v3=iV n4∧cS 40 #[pV p1] (fun v5 H2=>∃ a6 l6 c6,v5=lV a6 l6 c6∧∃(I7:IT) (μ7:MT),I7 [lV none 0 0,iV n4] H2∧∀ w8 H3,I7 w8 H3→∀ _g:Nat→Value,∃ a9 l9 c9 n10,w8=[lV a9 l9 c9,iV n10]∧cond (decide (n4 > 0)) (cond (decide (n10≤(l6:Int))) (((0:Int)≤(wW (n10-1))∧(wW (n10-1))<(l6:Int))∧∃ q11,a6=some q11∧∃ n12,cellH H3 (q11.add (Int.toNat (wW (n10-1))*1))=some (iV n12)∧∃(I13:IT) (μ13:MT),I13 [iV n12] H3∧∀ w14 H4,I13 w14 H4→∀ _g:Nat→Value,∃ n15,w14=[iV n15]∧cond (n15 != 0) (cond (n15 != n2) (cS 224 #[pV p1,iV n15] (fun v16 H5=>∃ n17,v16=iV n17∧I13 [iV n17] H5∧μ13 [iV n17] H5<μ13 w14 H4) H4) (cond (n15 == n2) (evS PP (Builtin.append_ #[66,66] 66 #[lV a9 l9 c9,lV (some (A0 H4.size)) 1 1]) (fun v18 H6=>∃ a19 l19 c19,v18=lV a19 l19 c19∧I7 [lV a19 l19 c19,iV (wW (n10+1))] H6∧μ7 [lV a19 l19 c19,iV (wW (n10+1))] H6<μ7 w8 H3) (H4.push (.cells #[iV n10] 3))) (I7 [lV a9 l9 c9,iV (wW (n10+1))] H4∧μ7 [lV a9 l9 c9,iV (wW (n10+1))] H4<μ7 w8 H3))) (cond (n15 == n2) (evS PP (Builtin.append_ #[66,66] 66 #[lV a9 l9 c9,lV (some (A0 H4.size)) 1 1]) (fun v20 H7=>∃ a21 l21 c21,v20=lV a21 l21 c21∧I7 [lV a21 l21 c21,iV (wW (n10+1))] H7∧μ7 [lV a21 l21 c21,iV (wW (n10+1))] H7<μ7 w8 H3) (H4.push (.cells #[iV n10] 3))) (I7 [lV a9 l9 c9,iV (wW (n10+1))] H4∧μ7 [lV a9 l9 c9,iV (wW (n10+1))] H4<μ7 w8 H3))) (Q (lV a9 l9 c9) H3)) (Q (lV a9 l9 c9) H3)) H1) H
theorem k126_ok {p1:Option Addr}{n2:Int} (h:k126 p1 n2 Q H):callS PP 126 #[.pointer p1,.int .i64 n2] Q H :=
 callS_of good Tryz.func126 rfl (Ls:=fun | 5=>some [(6,66),(8,3)] | 8=>some [(9,3)] | _=>none) (by kernel_rfl) h
abbrev n_k158:Nat:=158
def k158 (p1:Option Addr) (n2:Int) (Q:QT) (H:Heap):Prop :=
 cond ((Int.tmod n2 4) != 2) (Q (sV (⟨#[]⟩:ByteArray)) H) (∃ q3,p1=some q3∧∃ p4,cellH H (q3.add 1)=some (pV p4)∧cS 241 #[pV p4,iV (wW (Int.tdiv (wW (n2-2)) 4))] (fun v5 H1=>∃ s6 n7,v5=.tuple #[sV s6,iV n7]∧Q (sV s6) H1) H)
theorem k158_ok {p1:Option Addr}{n2:Int} (h:k158 p1 n2 Q H):callS PP 158 #[.pointer p1,.int .i64 n2] Q H :=
 okF Tryz.func158 rfl h
abbrev n_k189:Nat:=189
def k189 (p1:Option Addr) (n2:Int) (Q:QT) (H:Heap):Prop :=
 callS PP 220 #[pV p1,iV n2] (fun v3 H1=>∃ n4,v3=iV n4∧cond (n4 == 0) (Q (.tuple #[iV 0,iV 130]) H1) (Q (.tuple #[iV n4,iV 0]) H1)) H
theorem k189_ok {p1:Option Addr}{n2:Int} (h:k189 p1 n2 Q H):callS PP 189 #[.pointer p1,.int .i64 n2] Q H :=
 okF Tryz.func189 rfl h
abbrev n_k191:Nat:=191
def k191 (p1:Option Addr) (n2:Int) (Q:QT) (H:Heap):Prop :=
 callS PP 220 #[pV p1,iV n2] (fun v3 H1=>∃ n4,v3=iV n4∧cond (n4 == 0) (Q (.tuple #[iV 0,iV 130]) H1) (cS 224 #[pV p1,iV n2] (fun v5 H2=>∃ n6,v5=iV n6∧Q (.tuple #[iV n6,iV 0]) H2) H1)) H
theorem k191_ok {p1:Option Addr}{n2:Int} (h:k191 p1 n2 Q H):callS PP 191 #[.pointer p1,.int .i64 n2] Q H :=
 okF Tryz.func191 rfl h
abbrev n_k193:Nat:=193
def k193 (p1:Option Addr) (n2:Int) (Q:QT) (H:Heap):Prop :=
 callS PP 124 #[pV p1,iV n2] (fun v3 H1=>shH (H1.push (.cells #[sV (⟨#[]⟩:ByteArray),sV (⟨#[]⟩:ByteArray),lV none 0 0,iV 0] 121)) fun C2=>∃ s4:ByteArray,∃ s5:ByteArray,shH (setH (setH C2 (A0 H1.size) (sV s4)) ((A0 H1.size).add 1) (sV s5)) fun C1=>∃ a6:Option Addr,∃ l6:Nat,∃ c6:Nat,shH (setH C1 ((A0 H1.size).add 2) (lV a6 l6 c6)) fun C3=>∃ n7 n8,v3=.tuple #[.agg #[sV s4,sV s5,lV a6 l6 c6,iV n7],iV n8]∧Wr C2 (A0 H1.size)∧Wr (setH C2 (A0 H1.size) (sV s4)) ((A0 H1.size).add 1)∧Wr C1 ((A0 H1.size).add 2)∧Wr C3 ((A0 H1.size).add 3)∧∃ n9,cellH (setH C3 ((A0 H1.size).add 3) (iV n7)) ((A0 H1.size).add 3)=some (iV n9)∧Q (.tuple #[iV n9,iV n8]) (setH C3 ((A0 H1.size).add 3) (iV n7))) H
theorem k193_ok {p1:Option Addr}{n2:Int} (h:k193 p1 n2 Q H):callS PP 193 #[.pointer p1,.int .i64 n2] Q H :=
 okF Tryz.func193 rfl h
abbrev n_k208:Nat:=208
def k208 (p1:Option Addr) (s2:ByteArray) (s3:ByteArray) (a4:Option Addr) (l4:Nat) (_c4:Nat) (Q:QT) (H:Heap):Prop :=
 callS PP 114 #[sV s2] (fun v5 H1=>∃ b6,v5=.bool b6∧cond (!b6) (Q (.tuple #[iV 0,iV 133]) H1) (cS 115 #[pV p1,sV s2] (fun v7 H2=>∃ b8,v7=.bool b8∧cond b8 (Q (.tuple #[iV 0,iV 131]) H2) (cS 110 #[pV p1,sV s3] (fun v9 H3=>∃ n10 n11,v9=.tuple #[iV n10,iV n11]∧cond (n11 != 0) (Q (.tuple #[iV 0,iV 130]) H3) (cS 220 #[pV p1,iV n10] (fun v12 H4=>∃ n13,v12=iV n13∧∃ J14:IT,(cond (decide (n13 > 1)) (cond (decide (n13≤14)) (Q (.tuple #[iV 0,iV 132]) H4) (J14 [] H4)) (J14 [] H4))∧∀ w15 H5,J14 w15 H5→∀ _g:Nat→Value,w15=[]∧cS 125 #[pV p1,iV n10] (fun v16 H6=>∃ a17 l17 c17 n18,v16=.tuple #[lV a17 l17 c17,iV n18]∧∃(I19:IT) (μ19:MT),I19 [iV 0] H6∧∀ w20 H7,I19 w20 H7→∀ _g:Nat→Value,∃ n21,w20=[iV n21]∧cond (decide (n21<(l4:Int))) (((0:Int)≤n21∧n21<(l4:Int))∧∃ q22,a4=some q22∧∃ s23,cellH H7 (q22.add (Int.toNat n21*1))=some (sV s23)∧cS 260 #[sV s23] (fun v24 H8=>∃ b25,v24=.bool b25∧cond (!b25) (Q (.tuple #[iV 0,iV 133]) H8) (∃(I26:IT) (μ26:MT),I26 [iV 0] H8∧∀ w27 H9,I26 w27 H9→∀ _g:Nat→Value,∃ n28,w27=[iV n28]∧cond (decide (n28<n21)) (((0:Int)≤n28∧n28<(l4:Int))∧∃ q29,a4=some q29∧∃ s30,cellH H9 (q29.add (Int.toNat n28*1))=some (sV s30)∧((0:Int)≤n21∧n21<(l4:Int))∧∃ q31,a4=some q31∧∃ s32,cellH H9 (q31.add (Int.toNat n21*1))=some (sV s32)∧cond (strEq s30 s32) (Q (.tuple #[iV 0,iV 134]) H9) (I26 [iV (wW (n28+1))] H9∧μ26 [iV (wW (n28+1))] H9<μ26 w27 H9)) (∃(I33:IT) (μ33:MT),I33 [iV 0] H9∧∀ w34 H10,I33 w34 H10→∀ _g:Nat→Value,∃ n35,w34=[iV n35]∧cond (decide (n35<(l17:Int))) (((0:Int)≤n35∧n35<(l17:Int))∧∃ q36,a17=some q36∧∃ s37,cellH H10 (q36.add (Int.toNat n35*1))=some (sV s37)∧((0:Int)≤n21∧n21<(l4:Int))∧∃ q38,a4=some q38∧∃ s39,cellH H10 (q38.add (Int.toNat n21*1))=some (sV s39)∧cond (strEq s37 s39) (Q (.tuple #[iV 0,iV 135]) H10) (I33 [iV (wW (n35+1))] H10∧μ33 [iV (wW (n35+1))] H10<μ33 w34 H10)) (I19 [iV (wW (n21+1))] H10∧μ19 [iV (wW (n21+1))] H10<μ19 w20 H7)))) H7) (cond (decide ((wW ((l17:Int)+(l4:Int))) > 32)) (Q (.tuple #[iV 0,iV 137]) H7) (cS 40 #[pV p1] (fun v40 H11=>∃ a41 l41 c41,v40=lV a41 l41 c41∧cond (decide ((l41:Int) ≥ 256)) (Q (.tuple #[iV 0,iV 138]) H11) (Q (.tuple #[iV n10,iV 0]) H11)) H7))) H5) H3)) H2)) H1)) H
theorem k208_ok {p1:Option Addr}{s2:ByteArray}{s3:ByteArray}{a4:Option Addr}{l4:Nat}{c4:Nat} (h:k208 p1 s2 s3 a4 l4 c4 Q H):callS PP 208 #[.pointer p1,.string s2,.string s3,.slice a4 l4 c4] Q H :=
 callS_of good Tryz.func208 rfl (Ls:=fun | 1011=>some [] | 13=>some [(15,3)] | 18=>some [(16,3)] | 23=>some [(17,3)] | _=>none) (by kernel_rfl) h
abbrev n_k209:Nat:=209
def k209 (p1:Option Addr) (s2:ByteArray) (n3:Int) (a4:Option Addr) (l4:Nat) (c4:Nat) (Q:QT) (H:Heap):Prop :=
 callS PP 117 #[pV p1,lV (some (A0 H.size)) 1 1] (fun v5 H1=>∃ a6 l6 c6 n7,v5=.tuple #[lV a6 l6 c6,iV n7]∧cond (n7 != 0) (Q (.tuple #[iV 0,iV n7]) H1) (cS 117 #[pV p1,lV a4 l4 c4] (fun v8 H2=>∃ a9 l9 c9 n10,v8=.tuple #[lV a9 l9 c9,iV n10]∧cond (n10 != 0) (Q (.tuple #[iV 0,iV n10]) H2) (cS 121 #[pV p1,iV 11,lV a9 l9 c9] (fun v11 H3=>∃ n12 n13,v11=.tuple #[iV n12,iV n13]∧cond (n13 != 0) (Q (.tuple #[iV 0,iV n13]) H3) (cS 120 #[pV p1,iV 19,iV 0] (fun v14 H4=>∃ n15,v14=iV n15∧cS 119 #[iV n15] (fun v16 H5=>∃ n17,v16=iV n17∧cS 118 #[pV p1,iV n17] (fun v18 H6=>∃ a19 l19 c19,v18=lV a19 l19 c19∧((0:Int)≤0∧0<(l6:Int))∧∃ q20,a6=some q20∧∃ n21,cellH H6 (q20.add (Int.toNat 0*1))=some (iV n21)∧cS 59 #[iV n3] (fun v22 H7=>∃ n23,v22=iV n23∧((cellH H7 (q20.add (Int.toNat 0*1))=some (iV n21)∧True)∧True)∧cS 59 #[iV 18] (fun v24 H8=>∃ n25,v24=iV n25∧((cellH H8 (q20.add (Int.toNat 0*1))=some (iV n21)∧True)∧True)∧cS 59 #[iV 18] (fun v26 H9=>∃ n27,v26=iV n27∧((cellH H9 (q20.add (Int.toNat 0*1))=some (iV n21)∧True)∧True)∧cS 63 #[iV 0] (fun v28 H10=>∃ n29,v28=iV n29∧((cellH H10 (q20.add (Int.toNat 0*1))=some (iV n21)∧True)∧True)∧cS 63 #[iV (wW ((l19:Int)+1))] (fun v30 H11=>∃ n31,v30=iV n31∧((cellH H11 (q20.add (Int.toNat 0*1))=some (iV n21)∧True)∧True)∧True∧cS 121 #[pV p1,iV 12,lV (some (A0 H11.size)) 7 7] (fun v32 H12=>∃ n33 n34,v32=.tuple #[iV n33,iV n34]∧True∧cond (n34 != 0) (Q (.tuple #[iV 0,iV n34]) H12) (evS PP (Builtin.append_ #[108,108] 108 #[lV a19 l19 c19,lV (some (A0 H12.size)) 1 1]) (fun v35 H13=>∃ a36 l36 c36,v35=lV a36 l36 c36∧cS 121 #[pV p1,iV 11,lV a36 l36 c36] (fun v37 H14=>∃ n38 n39,v37=.tuple #[iV n38,iV n39]∧cond (n39 != 0) (Q (.tuple #[iV 0,iV n39]) H14) (∃ q40,p1=some q40∧∃ p41,cellH H14 q40=some (pV p41)∧cS 122 #[pV p41,iV 0,iV n38] (fun v42 H15=>∃ n43,v42=iV n43∧cS 119 #[iV n33] (fun v44 H16=>∃ n45,v44=iV n45∧Q (.tuple #[iV n45,iV 0]) H16) H15) H14)) H13) (H12.push (.cells #[iV n33] 36)))) (H11.push (.cells #[iV n21,iV n23,iV n12,iV n25,iV n27,iV n29,iV n31] 36))) H10) H9) H8) H7) H6) H5) H4) H3)) H2)) H1)) (H.push (.cells #[sV s2] 9))
theorem k209_ok {p1:Option Addr}{s2:ByteArray}{n3:Int}{a4:Option Addr}{l4:Nat}{c4:Nat} (h:k209 p1 s2 n3 a4 l4 c4 Q H):callS PP 209 #[.pointer p1,.string s2,.int .i64 n3,.slice a4 l4 c4] Q H :=
 okF Tryz.func209 rfl h
abbrev n_k220:Nat:=220
def k220 (p1:Option Addr) (n2:Int) (Q:QT) (H:Heap):Prop :=
 callS PP 40 #[pV p1] (fun v3 H1=>∃ a4 l4 c4,v3=lV a4 l4 c4∧∃(I5:IT) (μ5:MT),I5 [iV 0] H1∧∀ w6 H2,I5 w6 H2→∀ _g:Nat→Value,∃ n7,w6=[iV n7]∧cond (decide (n7<(l4:Int))) (((0:Int)≤n7∧n7<(l4:Int))∧∃ q8,a4=some q8∧∃ n9,cellH H2 (q8.add (Int.toNat n7*1))=some (iV n9)∧cond (n9 == n2) (cond (decide (n2 > 0)) (Q (iV (wW (n7+1))) H2) (I5 [iV (wW (n7+1))] H2∧μ5 [iV (wW (n7+1))] H2<μ5 w6 H2)) (I5 [iV (wW (n7+1))] H2∧μ5 [iV (wW (n7+1))] H2<μ5 w6 H2)) (Q (iV 0) H2)) H
theorem k220_ok {p1:Option Addr}{n2:Int} (h:k220 p1 n2 Q H):callS PP 220 #[.pointer p1,.int .i64 n2] Q H :=
 callS_of good Tryz.func220 rfl (Ls:=fun | 3=>some [(6,3)] | _=>none) (by kernel_rfl) h
abbrev n_k221:Nat:=221
def k221 (p1:Option Addr) (n2:Int) (Q:QT) (H:Heap):Prop :=
 callS PP 120 #[pV p1,iV n2,iV 0] (fun v3 H1=>∃ n4,v3=iV n4∧cS 158 #[pV p1,iV n4] (fun v5 H2=>∃ s6,v5=sV s6∧cS 120 #[pV p1,iV n2,iV 2] (fun v7 H3=>∃ n8,v7=iV n8∧cS 119 #[iV n8] (fun v9 H4=>∃ n10,v9=iV n10∧cS 264 #[pV p1,iV n10] (fun v11 H5=>∃ a12 l12 c12,v11=lV a12 l12 c12∧cS 120 #[pV p1,iV n2,iV 5] (fun v13 H6=>∃ n14,v13=iV n14∧cS 265 #[iV n14] (fun v15 H7=>shH (H7.push (.cells #[sV (⟨#[]⟩:ByteArray),sV (⟨#[]⟩:ByteArray),lV none 0 0,iV 0] 121)) fun C8=>shH (setH C8 (A0 H7.size) (sV s6)) fun C3=>shH (setH C3 ((A0 H7.size).add 1) (sV (⟨#[]⟩:ByteArray))) fun C7=>∃ n16,v15=iV n16∧Wr C8 (A0 H7.size)∧Wr C3 ((A0 H7.size).add 1)∧Wr C7 ((A0 H7.size).add 2)∧Wr (setH C7 ((A0 H7.size).add 2) (lV a12 l12 c12)) ((A0 H7.size).add 3)∧cS 224 #[pV p1,iV n2] (fun v17 H8=>∃ n18,v17=iV n18∧cond (n18 != 0) (cS 120 #[pV p1,iV n18,iV 0] (fun v19 H9=>∃ n20,v19=iV n20∧cS 158 #[pV p1,iV n20] (fun v21 H10=>∃ s22:ByteArray,shH (setH H10 ((A0 H7.size).add 1) (sV s22)) fun C4=>v21=sV s22∧Wr H10 ((A0 H7.size).add 1)∧∃ s23,cellH C4 (A0 H7.size)=some (sV s23)∧∃ s24:ByteArray,shH (setH (setH C4 (A0 H.size) (sV s23)) ((A0 H.size).add 1) (sV s24)) fun C5=>cellH C4 ((A0 H7.size).add 1)=some (sV s24)∧∃ a25 l25 c25,cellH C4 ((A0 H7.size).add 2)=some (lV a25 l25 c25)∧∃ n26:Int,shH (setH (setH C5 ((A0 H.size).add 2) (lV a25 l25 c25)) ((A0 H.size).add 3) (iV n26)) fun C1=>cellH C4 ((A0 H7.size).add 3)=some (iV n26)∧Wr C4 (A0 H.size)∧Wr (setH C4 (A0 H.size) (sV s23)) ((A0 H.size).add 1)∧Wr C5 ((A0 H.size).add 2)∧Wr (setH C5 ((A0 H.size).add 2) (lV a25 l25 c25)) ((A0 H.size).add 3)∧∃ s27,cellH C1 (A0 H.size)=some (sV s27)∧∃ s28,cellH C1 ((A0 H.size).add 1)=some (sV s28)∧∃ a29 l29 c29,cellH C1 ((A0 H.size).add 2)=some (lV a29 l29 c29)∧∃ n30,cellH C1 ((A0 H.size).add 3)=some (iV n30)∧Q (.agg #[sV s27,sV s28,lV a29 l29 c29,iV n30]) C1) H9) H8) (∃ s31,cellH H8 (A0 H7.size)=some (sV s31)∧∃ s32:ByteArray,shH (setH (setH H8 (A0 H.size) (sV s31)) ((A0 H.size).add 1) (sV s32)) fun C6=>cellH H8 ((A0 H7.size).add 1)=some (sV s32)∧∃ a33 l33 c33,cellH H8 ((A0 H7.size).add 2)=some (lV a33 l33 c33)∧∃ n34:Int,shH (setH (setH C6 ((A0 H.size).add 2) (lV a33 l33 c33)) ((A0 H.size).add 3) (iV n34)) fun C2=>cellH H8 ((A0 H7.size).add 3)=some (iV n34)∧Wr H8 (A0 H.size)∧Wr (setH H8 (A0 H.size) (sV s31)) ((A0 H.size).add 1)∧Wr C6 ((A0 H.size).add 2)∧Wr (setH C6 ((A0 H.size).add 2) (lV a33 l33 c33)) ((A0 H.size).add 3)∧∃ s35,cellH C2 (A0 H.size)=some (sV s35)∧∃ s36,cellH C2 ((A0 H.size).add 1)=some (sV s36)∧∃ a37 l37 c37,cellH C2 ((A0 H.size).add 2)=some (lV a37 l37 c37)∧∃ n38,cellH C2 ((A0 H.size).add 3)=some (iV n38)∧Q (.agg #[sV s35,sV s36,lV a37 l37 c37,iV n38]) C2)) (setH (setH C7 ((A0 H7.size).add 2) (lV a12 l12 c12)) ((A0 H7.size).add 3) (iV n16))) H6) H5) H4) H3) H2) H1) (H.push (.cells #[sV (⟨#[]⟩:ByteArray),sV (⟨#[]⟩:ByteArray),lV none 0 0,iV 0] 121))
theorem k221_ok {p1:Option Addr}{n2:Int} (h:k221 p1 n2 Q H):callS PP 221 #[.pointer p1,.int .i64 n2] Q H :=
 okF Tryz.func221 rfl h
abbrev n_k223:Nat:=223
def k223 (p1:Option Addr) (Q:QT) (H:Heap):Prop :=
 callS PP 40 #[pV p1] (fun v2 H1=>∃ a3 l3 c3,v2=lV a3 l3 c3∧∃(I4:IT) (μ4:MT),I4 [lV none 0 0,iV 0] H1∧∀ w5 H2,I4 w5 H2→∀ _g:Nat→Value,∃ a6 l6 c6 n7,w5=[lV a6 l6 c6,iV n7]∧cond (decide (n7<(l3:Int))) (((0:Int)≤n7∧n7<(l3:Int))∧∃ q8,a3=some q8∧∃ n9,cellH H2 (q8.add (Int.toNat n7*1))=some (iV n9)∧cS 221 #[pV p1,iV n9] (fun v10 H3=>∃ s11 s12 a13 l13 c13 n14,v10=.agg #[sV s11,sV s12,lV a13 l13 c13,iV n14]∧evS PP (Builtin.append_ #[40,40] 40 #[lV a6 l6 c6,lV (some (A0 H3.size)) 1 1]) (fun v15 H4=>∃ a16 l16 c16,v15=lV a16 l16 c16∧I4 [lV a16 l16 c16,iV (wW (n7+1))] H4∧μ4 [lV a16 l16 c16,iV (wW (n7+1))] H4<μ4 w5 H2) (H3.push (.cells #[sV s11,sV s12,lV a13 l13 c13,iV n14] 121))) H2) (Q (lV a6 l6 c6) H2)) H
theorem k223_ok {p1:Option Addr} (h:k223 p1 Q H):callS PP 223 #[.pointer p1] Q H :=
 callS_of good Tryz.func223 rfl (Ls:=fun | 4=>some [(4,40),(5,3)] | _=>none) (by kernel_rfl) h
abbrev n_k224:Nat:=224
def k224 (p1:Option Addr) (n2:Int) (Q:QT) (H:Heap):Prop :=
 callS PP 120 #[pV p1,iV n2,iV 1] (fun v3 H1=>∃ n4,v3=iV n4∧cS 119 #[iV n4] (fun v5 H2=>∃ n6,v5=iV n6∧cond (n6 == 1) (Q (iV 0) H2) (Q (iV n6) H2)) H1) H
theorem k224_ok {p1:Option Addr}{n2:Int} (h:k224 p1 n2 Q H):callS PP 224 #[.pointer p1,.int .i64 n2] Q H :=
 okF Tryz.func224 rfl h
abbrev n_k264:Nat:=264
def k264 (p1:Option Addr) (n2:Int) (Q:QT) (H:Heap):Prop :=
 callS PP 118 #[pV p1,iV n2] (fun v3 H1=>∃ a4 l4 c4,v3=lV a4 l4 c4∧∃(I5:IT) (μ5:MT),I5 [lV none 0 0,iV 0] H1∧∀ w6 H2,I5 w6 H2→∀ _g:Nat→Value,∃ a7 l7 c7 n8,w6=[lV a7 l7 c7,iV n8]∧cond (decide (n8<(l4:Int))) (((0:Int)≤n8∧n8<(l4:Int))∧∃ q9,a4=some q9∧∃ n10,cellH H2 (q9.add (Int.toNat n8*1))=some (iV n10)∧cS 158 #[pV p1,iV n10] (fun v11 H3=>∃ s12,v11=sV s12∧evS PP (Builtin.append_ #[37,37] 37 #[lV a7 l7 c7,lV (some (A0 H3.size)) 1 1]) (fun v13 H4=>∃ a14 l14 c14,v13=lV a14 l14 c14∧I5 [lV a14 l14 c14,iV (wW (n8+1))] H4∧μ5 [lV a14 l14 c14,iV (wW (n8+1))] H4<μ5 w6 H2) (H3.push (.cells #[sV s12] 9))) H2) (Q (lV a7 l7 c7) H2)) H
theorem k264_ok {p1:Option Addr}{n2:Int} (h:k264 p1 n2 Q H):callS PP 264 #[.pointer p1,.int .i64 n2] Q H :=
 callS_of good Tryz.func264 rfl (Ls:=fun | 4=>some [(6,37),(7,3)] | _=>none) (by kernel_rfl) h
end Go.Proofs.YtmkdkplipbocjaaGreatDoor
namespace Kw
open Go
def gB (s:ByteArray) (i:Nat):Nat:=(s[i]?.getD 0).toNat
theorem gB_some {s:ByteArray}{i:Nat}{u:UInt8} (h:s[i]?=some u):gB s i=u.toNat:=by unfold gB;rw [h];rfl
def alnum (n:Nat):Prop:=(97≤n∧n≤122)∨(65≤n∧n≤90)∨(48≤n∧n≤57)
instance (n:Nat):Decidable (alnum n):=inferInstanceAs (Decidable (_∨_∨_))
def nameOk (lo hi:Nat) (s:ByteArray):Prop:=1≤s.size∧s.size≤32∧lo≤gB s 0∧gB s 0≤hi∧∀ i,i<s.size→alnum (gB s i)
noncomputable instance (lo hi:Nat) (s:ByteArray):Decidable (nameOk lo hi s):=Classical.propDecidable _
def resvd (s:ByteArray):Prop:=s=⟨#[115,101,108,102]⟩∨s=⟨#[115,117,112,101,114]⟩∨s=⟨#[110,105,108]⟩∨s=⟨#[116,114,117,101]⟩∨s=⟨#[102,97,108,115,101]⟩
instance (s:ByteArray):Decidable (resvd s):=inferInstanceAs (Decidable (_∨_))
def fieldOk (s:ByteArray):Prop:=¬ resvd s∧nameOk 97 122 s
noncomputable instance (s:ByteArray):Decidable (fieldOk s):=Classical.propDecidable _
noncomputable instance memBA (s:ByteArray) (l:List ByteArray):Decidable (s∈l):=Classical.propDecidable _
noncomputable def ownE (inh pre:List ByteArray):List ByteArray→Int
 | []=>0
 | s :: l=>if ¬ fieldOk s then 133 else if s∈pre then 134 else if s∈inh then 135 else ownE inh (pre++[s]) l
def takenK (v:KV) (t:TB) (name:ByteArray):Prop:=(findK v t name).2=0∨name∈globsK v t
noncomputable instance (v:KV) (t:TB) (name:ByteArray):Decidable (takenK v t name):=Classical.propDecidable _
noncomputable def defK (v:KV) (t:TB) (name sup:ByteArray) (own:List ByteArray):Int × Int :=
 if ¬ nameOk 65 90 name then (0,133)
 else if takenK v t name then (0,131)
 else if (findK v t sup).2≠0 then (0,(findK v t sup).2)
 else match plK v (findK v t sup).1 with
  | none=>(0,130)
  | some j=>if 1≤j∧j<14 then (0,132)
   else if ownE ((fieldsK v j).map (tx t)) [] own≠0 then (0,ownE ((fieldsK v j).map (tx t)) [] own)
   else if 32<(fieldsK v j).length+own.length then (0,137)
   else if 256≤v.cls.length then (0,138)
   else ((findK v t sup).1,0)
theorem findK_cases (v:KV) (t:TB) (name:ByteArray):(findK v t name=(0,130)∧∀ c∈v.cls,tx t c.name≠name)∨∃ i,∃ hi:i<v.cls.length,findK v t name=((v.cls[i]).oop,0)∧tx t (v.cls[i]).name=name:=by
 unfold findK
 cases hx:v.cls.findIdx? (fun c=>decide (tx t c.name=name)) with
 | none =>
  left
  rw [List.findIdx?_eq_none_iff] at hx
  exact ⟨rfl,fun c hc=>by simpa using hx c hc⟩
 | some i =>
  right
  rw [List.findIdx?_eq_some_iff_getElem] at hx
  obtain ⟨hi,h1,_⟩:=hx
  exact ⟨i,hi,by simp [hi],by simpa using h1⟩
noncomputable def kDefineAll (s:SP) (v:KV) (t:TB) (name sup:ByteArray) (own:List ByteArray):(Int × Int) × SP × TB :=
 if (defK v t name sup own).2≠0 then ((0,(defK v t name sup own).2),s,t) else kDefine s t v.clsW name (defK v t name sup own).1 own
noncomputable def globK (v:KV) (t:TB) (name:ByteArray):Int :=
 if ¬ nameOk 65 90 name then 133 else if takenK v t name then 131 else if 256≤v.glob.length then 138 else 0
noncomputable def kGlobalAll (s:SP) (v:KV) (t:TB) (name:ByteArray):Int × SP × TB :=
 if globK v t name≠0 then (globK v t name,s,t) else kGlobal s t (globW v.glob) name
theorem defK_ok {s:SP}{v:KV}{t:TB} (hv:KAll s t v){name sup:ByteArray}{own:List ByteArray} (h:(defK v t name sup own).2=0) :
  ∃ j,∃ hj:j<v.cls.length,(defK v t name sup own).1=(v.cls[j]).oop∧v.cls.length<256∧(∀ c∈v.cls,tx t c.name≠name)∧findK v t sup=((v.cls[j]).oop,0)∧plK v (v.cls[j]).oop=some j:=by
 unfold defK at h ⊢
 split at h
 ·cases h
 rename_i h1
 split at h
 ·cases h
 rename_i h2
 split at h
 ·rename_i h3;exact absurd h h3
 rename_i h3
 rw [if_neg h1,if_neg h2,if_neg h3]
 rcases findK_cases v t sup with ⟨e,_⟩ | ⟨j,hj,e,_⟩
 ·rw [e] at h3;simp at h3
 rw [e] at h ⊢
 have hp:=hv.ks.idx hj
 simp only [hp] at h ⊢
 split at h
 ·cases h
 rename_i h4
 split at h
 ·rename_i h5;exact absurd h h5
 rename_i h5
 split at h
 ·cases h
 rename_i h6
 split at h
 ·cases h
 rename_i h7
 rw [if_neg h4,if_neg h5,if_neg h6,if_neg h7]
 refine ⟨j,hj,rfl,by omega,?_,rfl,hp⟩
 rcases findK_cases v t name with ⟨_,h8⟩ | ⟨i,hi,e',_⟩
 ·exact h8
 ·exact absurd (.inl (by rw [e'])) h2
theorem defK_len {v:KV}{t:TB}{name sup:ByteArray}{own:List ByteArray} (h:(defK v t name sup own).2=0):own.length≤32:=by
 unfold defK at h
 split at h
 ·cases h
 split at h
 ·cases h
 split at h
 ·rename_i h3;exact absurd h h3
 split at h
 ·cases h
 split at h
 ·cases h
 split at h
 ·rename_i h5;exact absurd h h5
 split at h
 ·cases h
 ·omega
end Kw
namespace Kw
open Go
def bootPlan:List (Int × Int):=[(5,0),(6,0),(7,0),(12,7),(12,7),(12,7),(12,7),(12,7),(12,7),(12,7),(12,7),(12,7),(12,7),(12,7),(12,7),(12,7),(12,7),(11,0),(11,8),(11,14)]
def RH.allocAll (r:RH):List (Int × Int)→Int × RH
 | []=>(0,r)
 | (c,n) :: l=>if (r.alloc (4*c) n 0).1.2≠0 then ((r.alloc (4*c) n 0).1.2,(r.alloc (4*c) n 0).2) else RH.allocAll (r.alloc (4*c) n 0).2 l
def growO (p:List RO × Int) (x:Int × Int):List RO × Int:=(p.1++[⟨lowFree p.1,0,endL p.1,p.2,4*x.1,List.replicate x.2.toNat 4⟩],IntKind.wrap .i64 (p.2+1))
def growAll (p:List RO × Int):List (Int × Int)→List RO × Int
 | []=>p
 | x :: l=>growAll (growO p x) l
theorem alloc_grow {r:RH} (hm:r.mark=0){c n:Int} (h:(r.alloc (4*c) n 0).1.2=0):(r.alloc (4*c) n 0).2={ r with objs:=(growO (r.objs,r.born) (c,n)).1,born:=(growO (r.objs,r.born) (c,n)).2 }:=by
 unfold RH.alloc at h ⊢
 split at h
 ·cases h
 rename_i g1
 split at h
 ·cases h
 rename_i g2
 split at h
 ·cases h
 rename_i g3
 split at h
 ·cases h
 rename_i g4
 rw [if_neg g1,if_neg g2,if_neg g3,if_neg g4]
 simp [growO,newO,hm]
theorem allocAll_grow (l:List (Int × Int)):∀ {r:RH},r.mark=0→(r.allocAll l).1=0→(r.allocAll l).2={ r with objs:=(growAll (r.objs,r.born) l).1,born:=(growAll (r.objs,r.born) l).2 }:=by
 induction l with
 | nil=>intro r _ _;rfl
 | cons x l ih =>
  intro r hm h
  obtain ⟨c,n⟩:=x
  unfold RH.allocAll at h ⊢
  split at h
  ·rename_i hn;exact absurd h hn
  rename_i hn
  rw [if_neg hn]
  have e:=alloc_grow hm (Classical.byContradiction hn)
  have:=ih (r:=(r.alloc (4*c) n 0).2) (by rw [e];exact hm) h
  rw [this,e]
  rfl
theorem allocAll_wf (l:List (Int × Int)):∀ {r:RH},WFH r→WFH (r.allocAll l).2:=by
 induction l with
 | nil=>intro r h;exact h
 | cons x l ih =>
  intro r h
  obtain ⟨c,n⟩:=x
  unfold RH.allocAll
  split
  ·exact alloc_wf h _ _ _
  ·exact ih (alloc_wf h _ _ _)
def kNames:List ByteArray:=[⟨#[79,98,106,101,99,116]⟩,⟨#[85,110,100,101,102,105,110,101,100,79,98,106,101,99,116]⟩,⟨#[70,97,108,115,101]⟩,⟨#[84,114,117,101]⟩,⟨#[73,110,116,101,103,101,114]⟩,⟨#[83,121,109,98,111,108]⟩,⟨#[83,116,114,105,110,103]⟩,⟨#[65,114,114,97,121]⟩,⟨#[67,108,97,115,115]⟩,⟨#[77,101,116,104,111,100]⟩,⟨#[66,108,111,99,107]⟩,⟨#[67,111,110,116,101,120,116]⟩,⟨#[80,114,111,99,101,115,115]⟩,⟨#[77,101,115,115,97,103,101]⟩]
def fillW (i:Nat):List Int:=[4*(i:Int)+2,if i=0 then 4 else 16,72,72,72,1,2*((i:Int)+1)+1]
def fillC (i:Nat) (r:RH):RH:=((r.lay (4+i) 0 (fillW i)).put 20 i (4*(4+i))).2
def fillN (r:RH):Nat→RH
 | 0=>r
 | n+1=>fillC n (fillN r n)
def fillR:List Int:=[80,72,72,72,4,8,12]
def bootH (r:RH):RH:=(fillN r 14).lay 19 0 fillR
def bootL:List RO:=(growAll ([],0) bootPlan).1
def bootR0 (words oops:Int):RH:=⟨words,oops,0,0,0,[]⟩
def bootRH (words oops:Int):RH:=bootH (((bootR0 words oops).allocAll bootPlan).2)
def bootS (words oops:Int):SP:=⟨bootRH words oops,19,[],false,0,0,0⟩
def bootT:TB:=⟨4096,kNames⟩
def bootV:KV:=⟨(List.range 14).map fun i:Nat=>⟨4+i,i,if i=0 then 1 else 4,[],18,18,18,[],[],0⟩,20,[],18,[72,72,4,8,12,4]⟩
def bootO:List (Int × List Int):=[(1,[]),(2,[]),(3,[])]++(List.range 14).map (fun i:Nat=>((4+i:Int),fillW i))++[(18,[]),(19,[80,72,72,72,4,8,12,4]),(20,(List.range 14).map fun i:Nat=>4*(4+(i:Int)))]
theorem bootH_objs (w o m b t:Int):((bootH ⟨w,o,m,b,t,bootL⟩).objs.map fun x=>(x.oop,x.slots))=bootO:=by kernel_rfl
theorem bootH_fmt (w o m b t:Int):((bootH ⟨w,o,m,b,t,bootL⟩).objs.all fun x=>decide (x.fmt=0) && decide (kindW x.cls=3))=true:=by kernel_rfl
theorem bootL_fmt:(bootL.all fun x=>decide (x.fmt=0))=true:=by kernel_rfl
theorem kNames_good:(kNames.all fun s=>decide (goodText s))=true:=by kernel_rfl
theorem kNames_nodup:kNames.Nodup:=by decide +kernel
theorem newRH_wf' {words oops:Int} (h0:0≤words) (h1:words≤1048576) (h2:0≤oops) (h3:oops≤65536):WFH (bootR0 words oops) :=
 ⟨h0,h1,h2,h3,Int.le_refl _,by simp [bootR0],⟨by simp [bootR0],by simp [bootR0]⟩⟩
theorem fillN_wf {r:RH} (h:WFH r) (n:Nat):WFH (fillN r n):=by
 induction n with
 | zero=>exact h
 | succ n ih=>exact put_wf (lay_wf ih _ _ _) _ _ _
theorem bootH_wf {r:RH} (h:WFH r):WFH (bootH r):=lay_wf (fillN_wf h 14) _ _ _
theorem bootT_wf:WFT bootT:=⟨by decide,by decide,by decide,kNames_nodup,fun s hs=>by simpa using List.all_eq_true.1 kNames_good s hs⟩
theorem bootAdd {i:Nat} (hi:i<kNames.length):TB.add ⟨4096,kNames.take i⟩ kNames[i]=(((i:Int),0),⟨4096,kNames.take (i+1)⟩):=by
 have hg:goodText kNames[i]:=by simpa using List.all_eq_true.1 kNames_good _ (List.getElem_mem hi)
 have hn:numOf (kNames.take i) kNames[i]=none:=numOf_none.2 fun hm=>by
  obtain ⟨j,hj,e⟩:=List.getElem_of_mem hm
  rw [List.getElem_take] at e
  have:=(List.getElem_inj kNames_nodup).1 e
  simp only [List.length_take] at hj
  omega
 have h14:kNames.length=14:=rfl
 unfold TB.add
 rw [if_neg (by simpa using hg)]
 simp only [hn]
 rw [if_neg (by simp only [List.length_take];omega)]
 have e1:(kNames.take i).length=i:=by rw [List.length_take];omega
 rw [e1,List.take_add_one,List.getElem?_eq_getElem hi]
 rfl
theorem bootRoles:(bootV.roles.all fun p=>decide (p∈bootO))=true:=by kernel_rfl
theorem bootSep:Sep bootV:=by unfold Sep;decide +kernel
theorem bootO_eq {words oops:Int} (h:((bootR0 words oops).allocAll bootPlan).1=0):(bootRH words oops).objs=(bootH ⟨words,oops,0,20,0,bootL⟩).objs:=by
 have e:((bootR0 words oops).allocAll bootPlan).2=⟨words,oops,0,20,0,bootL⟩:=by
  rw [allocAll_grow bootPlan (r:=bootR0 words oops) rfl h]
  kernel_rfl
 unfold bootRH
 rw [e]
theorem bootArr {words oops:Int} (hw:WFH (bootRH words oops)) (h:((bootR0 words oops).allocAll bootPlan).1=0){p:Role} (hp:p∈bootO):Arr (bootRH words oops) p.1 p.2:=by
 have e:=bootO_eq h
 rw [←bootH_objs words oops 0 20 0,←e] at hp
 obtain ⟨x,hx,rfl⟩:=List.mem_map.1 hp
 have hf:=bootH_fmt words oops 0 20 0
 rw [←e] at hf
 have:=List.all_eq_true.1 hf x hx
 simp only [Bool.and_eq_true,decide_eq_true_eq] at this
 exact ⟨x,objAt_mem hw.objs hx,this.1,rfl⟩
theorem bootV_cls (i:Nat) (hi:i<bootV.cls.length):bootV.cls[i]=⟨4+i,i,if i=0 then 1 else 4,[],18,18,18,[],[],0⟩:=by simp [bootV]
theorem bootRH_wf {words oops:Int} (h0:0≤words) (h1:words≤1048576) (h2:0≤oops) (h3:oops≤65536):WFH (bootRH words oops):=by
 unfold bootRH
 exact bootH_wf (allocAll_wf _ (newRH_wf' h0 h1 h2 h3))
attribute [local irreducible] bootRH
theorem boot_ok {words oops:Int} (h0:0≤words) (h1:words≤1048576) (h2:0≤oops) (h3:oops≤65536) (h:((bootR0 words oops).allocAll bootPlan).1=0):KAll (bootS words oops) bootT bootV:=by
 have hw:WFH (bootRH words oops):=bootRH_wf h0 h1 h2 h3
 have hl:bootV.cls.length=14:=rfl
 refine ⟨⟨⟨hw,(by decide:(0:Int)≤19),(by decide:(19:Int)≤65536),(Nat.zero_le _:([]:List Int).length≤65536),fun w hw=>by cases hw⟩,?_,rfl,rfl,?_,bootSep,?_⟩,⟨bootT_wf,?_,?_,?_,?_⟩,rfl⟩
 ·intro x hx
  have hf:=bootH_fmt words oops 0 20 0
  rw [←bootO_eq h] at hf
  have:=List.all_eq_true.1 hf x hx
  simp only [Bool.and_eq_true,decide_eq_true_eq] at this
  exact this.2
 ·intro p hp
  exact bootArr hw h (of_decide_eq_true (List.all_eq_true.1 bootRoles p hp))
 ·refine ⟨rfl,by rw [hl];decide,by rw [hl];decide,by decide,fun _=>?_,fun i hi hpos=>?_,fun i hi h14=>?_,fun c hc=>?_⟩
  ·rw [bootV_cls];exact ⟨rfl,rfl⟩
  ·refine ⟨0,by decide,hpos,?_⟩
   rw [bootV_cls,bootV_cls]
   simp only
   rw [if_neg (by omega)]
   rfl
  ·rw [bootV_cls]
  ·obtain ⟨i,hi,rfl⟩:=List.getElem_of_mem hc
   rw [bootV_cls];simp
 ·intro c hc
  obtain ⟨i,hi,rfl⟩:=List.getElem_of_mem hc
  rw [bootV_cls]
  show i<14
  rw [hl] at hi;exact hi
 ·intro c hc n hn
  obtain ⟨i,hi,rfl⟩:=List.getElem_of_mem hc
  rw [bootV_cls] at hn
  cases hn
 ·intro p hp;cases hp
 ·have:bootV.cls.map (·.name)=List.range 14:=by kernel_rfl
  rw [this];exact List.nodup_range
end Kw
namespace Go.Proofs.YtmkdkplipbocjaaGreatDoor
open Kw
def RK (H:Heap) (b:Nat) (F:Foot) (s:SP) (t:TB):Prop:=∃ sb tb F1 F2,F=b :: (F1++F2)∧b∉F1∧b∉F2∧Disj F1 F2 ∧
 Blk H b #[.pointer (some ⟨sb,0,none⟩),.pointer (some ⟨tb,0,none⟩)]∧RSp H sb F1 s∧RTb H tb F2 t
theorem RK.lt {H:Heap}{b:Nat}{F:Foot}{s:SP}{t:TB} (h:RK H b F s t):∀ x∈F,x<H.size:=by
 obtain ⟨sb,tb,F1,F2,rfl,h1,h2,h3,hB,hS,hT⟩:=h
 intro x hx
 rcases List.mem_cons.1 hx with rfl | hx
 ·exact hB.lt
 ·rcases List.mem_append.1 hx with hx | hx
  ·exact hS.lt x hx
  ·exact hT.lt x hx
theorem RK.bmem {H:Heap}{b:Nat}{F:Foot}{s:SP}{t:TB} (h:RK H b F s t):b∈F:=by obtain ⟨_,_,_,_,rfl,_⟩:=h;simp
theorem RK.fr {H H':Heap}{b:Nat}{F G:Foot}{s:SP}{t:TB} (h:RK H b F s t) (hf:Fr G H H') (hd:Disj F G):RK H' b F s t:=by
 obtain ⟨sb,tb,F1,F2,rfl,h1,h2,h3,hB,hS,hT⟩:=h
 exact ⟨sb,tb,F1,F2,rfl,h1,h2,h3,hB.fr hf (hd b (by simp)),hS.fr hf (hd.mono (fun x hx=>by simp [hx]) fun _ h=>h),hT.fr hf (hd.mono (fun x hx=>by simp [hx]) fun _ h=>h)⟩
theorem RK.nil {H H':Heap}{b:Nat}{F:Foot}{s:SP}{t:TB} (h:RK H b F s t) (hf:Fr [] H H'):RK H' b F s t:=h.fr hf (Disj.nil_right _)
theorem RK.wfs {H:Heap}{b:Nat}{F:Foot}{s:SP}{t:TB} (h:RK H b F s t):WFS s:=by obtain ⟨_,_,_,_,_,_,_,_,_,hS,_⟩:=h;exact hS.wf
theorem RK.wft {H:Heap}{b:Nat}{F:Foot}{s:SP}{t:TB} (h:RK H b F s t):WFT t:=by obtain ⟨_,_,_,_,_,_,_,_,_,_,hT⟩:=h;exact hT.wf
theorem RK.sp {H:Heap}{b:Nat}{F:Foot}{s:SP}{t:TB} (h:RK H b F s t):∃ sb F1,cellH H ⟨b,0,none⟩=some (.pointer (some ⟨sb,0,none⟩))∧RSp H sb F1 s∧(∀ x∈F1,x∈F)∧b∉F1 ∧
  ∀ H' F1' s',RSp H' sb F1' s'→Up F1 H F1' H'→∃ F',RK H' b F' s' t∧Up F H F' H':=by
 have hlt:=h.lt
 obtain ⟨sb,tb,F1,F2,rfl,h1,h2,h3,hB,hS,hT⟩:=h
 refine ⟨sb,F1,hB.cell 0,hS,fun x hx=>by simp [hx],h1,fun H' F1' s' hS' hu=>⟨b :: (F1'++F2),⟨sb,tb,F1',F2,rfl,fun hx=>?_,h2,fun x hx hx2=>?_,hB.fr hu.1 h1,hS',hT.fr hu.1 h3.symm⟩,hu.1.mono fun x hx=>by simp [hx],fun x hx=>?_⟩⟩
 ·rcases hu.2 b hx with h4 | h4
  ·exact h1 h4
  ·have:=hlt b (by simp);omega
 ·rcases hu.2 x hx with h4 | h4
  ·exact h3 x h4 hx2
  ·have:=hlt x (by simp [hx2]);omega
 ·rcases List.mem_cons.1 hx with rfl | hx
  ·exact .inl (by simp)
  ·rcases List.mem_append.1 hx with hx | hx
   ·exact (hu.2 x hx).imp (fun h4=>by simp [h4]) id
   ·exact .inl (by simp [hx])
theorem RK.tb {H:Heap}{b:Nat}{F:Foot}{s:SP}{t:TB} (h:RK H b F s t):∃ tb F2,cellH H ⟨b,1,none⟩=some (.pointer (some ⟨tb,0,none⟩))∧RTb H tb F2 t∧(∀ x∈F2,x∈F)∧b∉F2 ∧
  ∀ H' F2' t',RTb H' tb F2' t'→Up F2 H F2' H'→∃ F',RK H' b F' s t'∧Up F H F' H':=by
 have hlt:=h.lt
 obtain ⟨sb,tb,F1,F2,rfl,h1,h2,h3,hB,hS,hT⟩:=h
 refine ⟨tb,F2,hB.cell 1,hT,fun x hx=>by simp [hx],h2,fun H' F2' t' hT' hu=>⟨b :: (F1++F2'),⟨sb,tb,F1,F2',rfl,h1,fun hx=>?_,fun x hx hx2=>?_,hB.fr hu.1 h2,hS.fr hu.1 h3,hT'⟩,hu.1.mono fun x hx=>by simp [hx],fun x hx=>?_⟩⟩
 ·rcases hu.2 b hx with h4 | h4
  ·exact h2 h4
  ·have:=hlt b (by simp);omega
 ·rcases hu.2 x hx2 with h4 | h4
  ·exact h3 x hx h4
  ·have:=hlt x (by simp [hx]);omega
 ·rcases List.mem_cons.1 hx with rfl | hx
  ·exact .inl (by simp)
  ·rcases List.mem_append.1 hx with hx | hx
   ·exact .inl (by simp [hx])
   ·exact (hu.2 x hx).imp (fun h4=>by simp [h4]) id
theorem RK.hp {H:Heap}{b:Nat}{F:Foot}{s:SP}{t:TB} (h:RK H b F s t):∃ sb hb F1,cellH H ⟨b,0,none⟩=some (.pointer (some ⟨sb,0,none⟩))∧cellH H ⟨sb,0,none⟩=some (.pointer (some ⟨hb,0,none⟩))∧RRep H hb F1 s.h∧(∀ x∈F1,x∈F)∧b∉F1 ∧
  ∀ H' F1' r',RRep H' hb F1' r'→Up F1 H F1' H'→∃ F',RK H' b F' { s with h:=r' } t∧Up F H F' H':=by
 obtain ⟨sb,F1,hc,hS,hsub,hbn,hup⟩:=h.sp
 obtain ⟨hb,F2,hR,c0,_,hsub2,_,hup2⟩:=hS.upd
 refine ⟨sb,hb,F2,hc,c0,hR,fun x hx=>hsub x (hsub2 x hx),fun hm=>hbn (hsub2 _ hm),fun H' F1' r' hR' hu=>?_⟩
 obtain ⟨F3,hS',hu'⟩:=hup2 H' F1' r' hR' hu
 exact hup H' F3 _ hS' hu'
def ktextW (t:TB) (w:Int):ByteArray:=if Int.tmod w 4≠2 then ⟨#[]⟩ else if h:0≤(w-2) / 4∧(w-2) / 4<t.texts.length then t.texts[((w-2) / 4).toNat]'(by omega) else ⟨#[]⟩
theorem ktextW_sym {t:TB} (hw:WFT t){n:Nat} (h:n<t.texts.length):ktextW t (symW n)=tx t n:=by
 unfold ktextW symW
 have e:(4*(n:Int)+2-2) / 4=n:=by omega
 rw [if_neg (by rw [Int.tmod_eq_emod_of_nonneg (by omega)];omega)]
 rw [dif_pos (by omega)]
 unfold tx
 rw [List.getD_eq_getElem?_getD,List.getElem?_eq_getElem h]
 simp only [Option.getD_some]
 congr 1
 omega
section
variable {H:Heap}{b:Nat}{F:Foot}{s:SP}{t:TB}{Q:QT}
theorem slot_r (hK:RK H b F s t){o i:Int} (h:Q (.int .i64 (kslot s.h o i)) H):callS PP n_k120 #[.pointer (some ⟨b,0,none⟩),.int .i64 o,.int .i64 i] Q H:=by
 obtain ⟨sb,hb,F1,hc,c0,hR,_⟩:=hK.hp
 apply k120_ok
 unfold k120 iV pV cS
 exact ⟨_,rfl,_,hc,_,rfl,_,c0,rat_c hR ⟨_,_,rfl,h⟩⟩
theorem text_r (hK:RK H b F s t){w:Int} (hw:I64 w) (h:Q (.string (ktextW t w)) H):callS PP n_k158 #[.pointer (some ⟨b,0,none⟩),.int .i64 w] Q H:=by
 apply k158_ok
 unfold k158 iV wW pV sV cS
 unfold ktextW at h
 rw [bneI,cond_dec]
 refine ite_i (fun h1=>?_) fun h1=>?_
 ·rw [if_pos h1] at h;exact h
 rw [if_neg h1] at h
 obtain ⟨tb,F2,hc,hT,_⟩:=hK.tb
 have hw1:=hw.1
 have hw2:=hw.2
 have h2:Int.tmod w 4=2:=Classical.byContradiction h1
 have hge:0≤w:=by
  rcases Int.lt_or_le w 0 with h3 | h3
  ·exfalso
   have h4:Int.tmod w 4≤0:=by
    have e:w=-(-w):=by omega
    rw [e,Int.neg_tmod,Int.tmod_eq_emod_of_nonneg (by omega)]
    omega
   omega
  ·exact h3
 have hm:w % 4=2:=by rw [←h2,Int.tmod_eq_emod_of_nonneg hge]
 have e1:IntKind.wrap .i64 (w-2)=w-2:=wrap64_id (by omega) (by omega)
 have e2:Int.tdiv (w-2) 4=(w-2) / 4:=Int.tdiv_eq_ediv_of_nonneg (by omega)
 have e3:IntKind.wrap .i64 ((w-2) / 4)=(w-2) / 4:=wrap64_id (by omega) (by omega)
 rw [e1,e2,e3]
 refine ⟨_,rfl,_,hc,ttext_c hT ?_⟩
 unfold textV
 split at h
 ·rename_i h5
  rw [dif_pos h5]
  exact ⟨_,_,rfl,h⟩
 ·rename_i h5
  rw [dif_neg h5]
  exact ⟨_,_,rfl,h⟩
theorem words_r (hK:RK H b F s t){o:Int} (h:∀ a l c G H',Own 1 H' a l c (intsV (kwords s.h o)) G→Fr [] H H'→(∀ x∈G,H.size≤x)→Q (.slice a l c) H'):callS PP n_k118 #[.pointer (some ⟨b,0,none⟩),.int .i64 o] Q H:=by
 have hs1:sliceInfo PP 108=some (1,8,some (.int .i64 0)):=by kernel_rfl
 have hn0:=size_nonneg (r:=s.h) o
 have hn1:=size_le hK.wfs.h o
 apply k118_ok
 unfold k118 A0 iV wW pV lV cS
 obtain ⟨sb,hb,F1,hc,c0,hR,_⟩:=hK.hp
 refine ⟨_,rfl,_,hc,_,rfl,_,c0,rsize_c hR ⟨_,_,_,rfl,?_⟩⟩
 show ∃(I11:List Value→Heap→Prop) (μ11:List Value→Heap→Nat),I11 [.slice none 0 0,.int .i64 0] H∧∀ w12 H2,I11 w12 H2→∀ _g:Nat→Value,∃ a13:Option Addr,∃ l13:Nat,∃ c13:Nat,∃ n14:Int,w12=[.slice a13 l13 c13,.int .i64 n14]∧cond (decide (n14<ksize s.h o)) _ _
 refine ⟨fun w H'=>∃(i:Nat) (a:Option Addr) (l' c:Nat) (G:Foot),w=[.slice a l' c,.int .i64 i]∧(i:Int)≤ksize s.h o∧Own 1 H' a l' c (intsV ((kwords s.h o).take i)) G∧Fr [] H H'∧(∀ x∈G,H.size≤x),fun w _=>match w with
  | [_,.int _ i]=>(ksize s.h o-i).toNat
  | _=>0,⟨0,none,0,0,[],rfl,hn0,by simpa [intsV] using Own.nil 1 H,Fr.refl _ _,by simp⟩,?_⟩
 rintro w H1 ⟨i,a1,l1,c1,G,rfl,hi,ho,hf1,hG⟩ _
 have hlen:(kwords s.h o).length=(ksize s.h o).toNat:=by simp [kwords]
 have hl1:l1=i:=by have:=ho.len;simp only [intsV,List.length_map,List.length_take] at this;omega
 refine ⟨_,_,_,_,rfl,?_⟩
 rw [cond_dec]
 refine ite_i (fun hlt=>?_) fun hlt=>?_
 ·have htk:(kwords s.h o).take (i+1)=(kwords s.h o).take i++[kslot s.h o i]:=by
   rw [List.take_add_one,List.getElem?_eq_getElem (by omega)];simp [kwords]
  have e:IntKind.wrap .i64 ((i:Int)+1)=((i+1:Nat):Int):=by rw [wrap64_id (by omega) (by omega)];omega
  refine slot_r (hK.nil hf1) ⟨_,rfl,?_⟩
  refine evS_append1 hs1 rfl (by kernel_rfl) ho rfl (by simp [oneC]) (by omega) (by decide) (by decide) fun a' c' G2 H3 g1 g2 g3=>⟨_,_,_,rfl,?_⟩
  have hfr:=Up.fresh hf1 g2 hG
  rw [e]
  refine ⟨⟨i+1,a',l1+1,c',G2,rfl,by omega,?_,hfr.1,hfr.2⟩,by simp;omega⟩
  rw [htk,intsV_append];exact g1
 ·rw [List.take_of_length_le (by omega)] at ho
  exact h _ _ _ _ H1 ho hf1 hG
end
theorem refOop_obj {o:Int} (h:1≤o):refOop (4*o)=o:=by
 unfold refOop;rw [if_pos (by omega)];omega
theorem I64_small {n:Int} (h0:-1000000000000≤n) (h1:n≤1000000000000):I64 n:=⟨by omega,by omega⟩
section
variable {H:Heap}{b:Nat}{F:Foot}{s:SP}{t:TB}{v:KV}{Q:QT}
theorem root_r (hK:RK H b F s t) (hv:KS s v){i:Int}{x:Int} (hx:kslot s.h 19 i=4*x) (h0:1≤x) (h1:x≤65536){Q:QT} (h:Q (.int .i64 x) H) :
  callS PP n_k120 #[.pointer (some ⟨b,0,none⟩),.int .i64 19,.int .i64 i] (fun v2 H1=>∃ n3:Int,v2=.int .i64 n3∧callS PP n_k119 #[.int .i64 n3] Q H1) H:=by
 refine slot_r hK ⟨_,rfl,?_⟩
 rw [hx]
 refine refOop13_c (I64_small (by omega) (by omega)) ?_
 rw [refOop_obj h0];exact h
theorem KS.s0 (h:KS s v):kslot s.h 19 0=4*v.clsA∧1≤v.clsA∧v.clsA≤65536:=by
 have hb:=h.view.all.bnd h.wf.h
 exact ⟨h.view.root.kslot (i:=0) (by simp [KV.rootW]),hb.1,hb.2.1⟩
theorem KS.s1 (h:KS s v):kslot s.h 19 1=4*v.globA∧1≤v.globA∧v.globA≤65536:=by
 have hb:=h.view.globs.bnd h.wf.h
 exact ⟨h.view.root.kslot (i:=1) (by simp [KV.rootW]),hb.1,hb.2.1⟩
def oopsK (v:KV):List Int:=v.cls.map (·.oop)
theorem all_r (hK:RK H b F s t) (hv:KS s v) (h:∀ a l c G H',Own 1 H' a l c (intsV (oopsK v)) G→Fr [] H H'→(∀ x∈G,H.size≤x)→Q (.slice a l c) H'):callS PP n_k40 #[.pointer (some ⟨b,0,none⟩)] Q H:=by
 have hs1:sliceInfo PP 66=some (1,8,some (.int .i64 0)):=by kernel_rfl
 have hm1:=hv.shape.many1
 obtain ⟨e0,b0,b1⟩:=KS.s0 hv
 apply k40_ok
 unfold k40 A0 iV wW pV lV cS
 refine root_r hK hv e0 b0 b1 ⟨_,rfl,words_r hK fun aw lw cw Gw H0 how hfw hGw=>⟨_,_,_,rfl,?_⟩⟩
 rw [show kwords s.h v.clsA=v.clsW from hv.view.all.kwords] at how
 have hlw:lw=v.cls.length:=by have:=how.len;simpa [intsV,KV.clsW] using this.symm
 have hlen:(oopsK v).length=v.cls.length:=by simp [oopsK]
 refine ⟨fun w H'=>∃(i:Nat) (a:Option Addr) (l' c:Nat) (G:Foot),w=[.slice a l' c,.int .i64 i]∧i≤v.cls.length∧Own 1 H' a l' c (intsV ((oopsK v).take i)) G∧Fr [] H0 H'∧(∀ x∈G,H0.size≤x),fun w _=>match w with
  | [_,.int _ i]=>(v.cls.length-i).toNat
  | _=>0,⟨0,none,0,0,[],rfl,Nat.zero_le _,by simpa [intsV] using Own.nil 1 H0,Fr.refl _ _,by simp⟩,?_⟩
 rintro w H1 ⟨i,a1,l1,c1,G,rfl,hi,ho,hf1,hG⟩ _
 have hl1:l1=i:=by have:=ho.len;simp only [intsV,List.length_map,List.length_take] at this;omega
 refine ⟨_,_,_,_,rfl,?_⟩
 rw [cond_dec]
 refine ite_i (fun hlt=>?_) fun hlt=>?_
 ·have hlt':i<v.cls.length:=by omega
  obtain ⟨p,rfl,hcell,hlt2⟩:=(how.rd.fr' hf1 (by simp)).int (i:=(i:Int)) (by omega) hlt
  rw [Int.toNat_natCast] at hcell hlt2
  have hx:v.clsW.getD i 0=4*(v.cls[i]).oop:=by simp [KV.clsW,hlt']
  rw [hx] at hcell
  have hb:=up_arr hv hlt'
  have htk:(oopsK v).take (i+1)=(oopsK v).take i++[(v.cls[i]).oop]:=by
   rw [List.take_add_one,List.getElem?_eq_getElem (by omega)];simp [oopsK]
  have e:IntKind.wrap .i64 ((i:Int)+1)=((i+1:Nat):Int):=by rw [wrap64_id (by omega) (by omega)];omega
  refine ⟨⟨by omega,hlt⟩,_,rfl,_,by rw [Int.toNat_natCast,Nat.mul_one];exact hcell,refOop13_c (I64_small (by omega) (by omega)) ⟨_,rfl,?_⟩⟩
  rw [refOop_obj hb.1]
  refine evS_append1 hs1 rfl (by kernel_rfl) ho rfl (by simp [oneC]) (by omega) (by decide) (by decide) fun a' c' G2 H3 g1 g2 g3=>⟨_,_,_,rfl,?_⟩
  have hfr:=Up.fresh hf1 g2 hG
  rw [e]
  refine ⟨⟨i+1,a',l1+1,c',G2,rfl,by omega,?_,hfr.1,hfr.2⟩,by simp;omega⟩
  rw [htk,intsV_append];exact g1
 ·rw [List.take_of_length_le (by omega)] at ho
  exact h _ _ _ _ H1 ho (hfw.trans hf1) fun x hx=>Nat.le_trans hfw.1 (hG x hx)
theorem rd_oops {a:Option Addr}{l c:Nat}{G:Foot} (ho:Own 1 H a l c (intsV (oopsK v)) G){H':Heap} (hf:Fr [] H H'){i:Nat} (hi:i<v.cls.length):∃ p,a=some p∧cellH H' (p.add (i*1))=some (.int .i64 (v.cls[i]).oop):=by
 have hl:l=v.cls.length:=by have:=ho.len;simpa [intsV,oopsK] using this.symm
 obtain ⟨p,hp,hcell,hlt2⟩:=(ho.rd.fr' hf (by simp)).int (i:=(i:Int)) (by omega) (by omega)
 rw [Int.toNat_natCast] at hcell
 refine ⟨p,hp,?_⟩
 rw [Nat.mul_one,hcell]
 simp [oopsK,hi]
def placeN (v:KV) (o:Int):Int:=match plK v o with
 | some i=>(i:Int)+1
 | none=>0
theorem place_r (hK:RK H b F s t) (hv:KS s v){o:Int} (h:∀ H',Fr [] H H'→Q (.int .i64 (placeN v o)) H'):callS PP n_k220 #[.pointer (some ⟨b,0,none⟩),.int .i64 o] Q H:=by
 have hm1:=hv.shape.many1
 apply k220_ok
 unfold k220 iV wW pV lV
 refine all_r hK hv fun a l c G H1 ho hf1 hG=>⟨_,_,_,rfl,?_⟩
 have hl:l=v.cls.length:=by have:=ho.len;simpa [intsV,oopsK] using this.symm
 refine ⟨fun w H'=>H'=H1∧∃ i:Nat,w=[.int .i64 i]∧i≤v.cls.length∧∀ j (hj:j<v.cls.length),j<i→(v.cls[j]).oop≠o,fun w _=>match w with
  | [.int _ i]=>(v.cls.length-i).toNat
  | _=>0,⟨rfl,0,rfl,Nat.zero_le _,fun j _ hj=>by omega⟩,?_⟩
 rintro w H2 ⟨rfl,i,rfl,hi,hall⟩ _
 refine ⟨_,rfl,?_⟩
 rw [cond_dec]
 refine ite_i (fun hlt=>?_) fun hlt=>?_
 ·have hlt':i<v.cls.length:=by omega
  obtain ⟨p,rfl,hcell⟩:=rd_oops ho (Fr.refl _ _) hlt'
  have e:IntKind.wrap .i64 ((i:Int)+1)=((i+1:Nat):Int):=by rw [wrap64_id (by omega) (by omega)];omega
  have hb:=(up_arr hv hlt').1
  refine ⟨⟨by omega,hlt⟩,_,rfl,_,by rw [Int.toNat_natCast];exact hcell,?_⟩
  rw [beqI,cond_dec]
  refine ite_i (fun he=>?_) fun he=>?_
  ·rw [cond_dec,if_pos (by omega),e]
   have:placeN v o=((i+1:Nat):Int):=by
    unfold placeN
    rw [←he,hv.idx hlt']
    simp
   rw [←this];exact h _ hf1
  ·rw [e]
   refine ⟨⟨rfl,i+1,rfl,by omega,fun j hj hji=>?_⟩,by simp;omega⟩
   rcases Nat.lt_or_ge j i with h5 | h5
   ·exact hall j hj h5
   ·have:j=i:=by omega
    subst this;exact he
 ·have:placeN v o=0:=by
   unfold placeN
   cases hp:plK v o with
   | none=>rfl
   | some j =>
    obtain ⟨hj,e⟩:=plK_some hp
    exact absurd e (hall j hj (by omega))
  rw [←this];exact h _ hf1
theorem up_r (hK:RK H b F s t) (hv:KS s v){i:Nat} (hi:i<v.cls.length) (h:Q (.int .i64 (superK v i)) H):callS PP n_k224 #[.pointer (some ⟨b,0,none⟩),.int .i64 (v.cls[i]).oop] Q H:=by
 have hb:=hv.upB hi
 apply k224_ok
 unfold k224 iV pV cS
 refine slot_r hK ⟨_,rfl,?_⟩
 rw [hv.c1 hi]
 refine refOop13_c (I64_small (by omega) (by omega)) ⟨_,rfl,?_⟩
 rw [refOop_obj hb.1,beqI,cond_dec]
 unfold superK at h
 rw [List.getElem?_eq_getElem hi] at h
 simp only at h
 refine ite_i (fun h1=>?_) fun h1=>?_
 ·rw [if_pos h1] at h;exact h
 ·rw [if_neg h1] at h;exact h
theorem name_r (hK:RK H b F s t) (hv:KAll s t v){i:Nat} (hi:i<v.cls.length){Q:QT} (h:Q (.string (tx t (v.cls[i]).name)) H) :
  callS PP n_k120 #[.pointer (some ⟨b,0,none⟩),.int .i64 (v.cls[i]).oop,.int .i64 0] (fun v2 H1=>∃ n3:Int,v2=.int .i64 n3∧callS PP n_k158 #[.pointer (some ⟨b,0,none⟩),.int .i64 n3] Q H1) H:=by
 have hn:=hv.names.name _ (List.getElem_mem hi)
 have h3:=hv.names.wf.m1
 have h4:=hv.names.wf.len
 refine slot_r hK ⟨_,rfl,?_⟩
 rw [hv.ks.c0 hi]
 refine text_r hK (I64_small (by unfold symW;omega) (by unfold symW;omega)) ?_
 rw [ktextW_sym hv.names.wf hn];exact h
theorem find_r (hK:RK H b F s t) (hv:KAll s t v){name:ByteArray} (h:∀ H',Fr [] H H'→Q (.tuple #[.int .i64 (findK v t name).1,.int .i64 (findK v t name).2]) H'):callS PP n_k110 #[.pointer (some ⟨b,0,none⟩),.string name] Q H:=by
 have hm1:=hv.ks.shape.many1
 apply k110_ok
 unfold k110 iV wW pV sV lV cS
 refine all_r hK hv.ks fun a l c G H1 ho hf1 hG=>⟨_,_,_,rfl,?_⟩
 have hl:l=v.cls.length:=by have:=ho.len;simpa [intsV,oopsK] using this.symm
 have hK1:=hK.nil hf1
 refine ⟨fun w H'=>H'=H1∧∃ i:Nat,w=[.int .i64 i]∧i≤v.cls.length∧∀ j (hj:j<v.cls.length),j<i→tx t (v.cls[j]).name≠name,fun w _=>match w with
  | [.int _ i]=>(v.cls.length-i).toNat
  | _=>0,⟨rfl,0,rfl,Nat.zero_le _,fun j _ hj=>by omega⟩,?_⟩
 rintro w H2 ⟨rfl,i,rfl,hi,hno⟩ _
 refine ⟨_,rfl,?_⟩
 rw [cond_dec]
 refine ite_i (fun hlt=>?_) fun hlt=>?_
 ·have hlt':i<v.cls.length:=by omega
  obtain ⟨p,rfl,hcell⟩:=rd_oops ho (Fr.refl _ _) hlt'
  have e:IntKind.wrap .i64 ((i:Int)+1)=((i+1:Nat):Int):=by rw [wrap64_id (by omega) (by omega)];omega
  refine ⟨⟨by omega,hlt⟩,_,rfl,_,by rw [Int.toNat_natCast];exact hcell,name_r hK1 hv hlt' ⟨_,rfl,?_⟩⟩
  rw [strEq_dec,cond_dec]
  refine ite_i (fun he=>?_) fun he=>?_
  ·have hfd:findK v t name=((v.cls[i]).oop,0):=by
    unfold findK
    have:v.cls.findIdx? (fun c=>decide (tx t c.name=name))=some i:=by
     rw [List.findIdx?_eq_some_iff_getElem]
     exact ⟨hlt',by simpa using he,fun j hj=>by simpa using hno j (by omega) hj⟩
    rw [this]
    simp [hlt']
   rw [hfd] at h
   exact ⟨⟨by omega,hlt⟩,_,rfl,_,by rw [Int.toNat_natCast];exact hcell,h _ hf1⟩
  ·rw [e]
   refine ⟨⟨rfl,i+1,rfl,by omega,fun j hj hji=>?_⟩,by simp;omega⟩
   rcases Nat.lt_or_ge j i with h1 | h1
   ·exact hno j hj h1
   ·have:j=i:=by omega
    subst this;exact he
 ·have hfd:findK v t name=(0,130):=by
   unfold findK
   have:v.cls.findIdx? (fun c=>decide (tx t c.name=name))=none:=by
    rw [List.findIdx?_eq_none_iff]
    intro c hc
    obtain ⟨j,hj,rfl⟩:=hv.ks.view.idx hc
    simpa using hno j hj (by omega)
   rw [this]
  rw [hfd] at h
  exact h _ hf1
theorem numbered_r (hK:RK H b F s t) (hv:KAll s t v){n:Int} (h:∀ H',Fr [] H H'→Q (.tuple #[.int .i64 (numberedK v n).1,.int .i64 (numberedK v n).2]) H'):callS PP n_k111 #[.pointer (some ⟨b,0,none⟩),.int .i64 n] Q H:=by
 have hm1:=hv.ks.shape.many1
 apply k111_ok
 unfold k111 iV wW pV lV
 unfold numberedK at h
 refine all_r hK hv.ks fun a l c G H1 ho hf1 hG=>⟨_,_,_,rfl,?_⟩
 have hl:l=v.cls.length:=by have:=ho.len;simpa [intsV,oopsK] using this.symm
 rw [cond_dec]
 refine ite_i (fun h1=>?_) fun h1=>?_
 ·rw [dif_neg (by omega)] at h;exact h _ hf1
 rw [cond_dec]
 refine ite_i (fun h2=>?_) fun h2=>?_
 ·rw [dif_neg (by omega)] at h;exact h _ hf1
 rw [dif_pos (by omega)] at h
 have e:IntKind.wrap .i64 (n-1)=((n-1).toNat:Nat):=by rw [wrap64_id (by omega) (by omega)];omega
 rw [e]
 obtain ⟨p,rfl,hcell⟩:=rd_oops ho (Fr.refl _ _) (i:=(n-1).toNat) (by omega)
 exact ⟨⟨by omega,by omega⟩,_,rfl,_,by rw [Int.toNat_natCast];exact hcell,h _ hf1⟩
theorem number_r (hK:RK H b F s t) (hv:KAll s t v){o:Int} (h:∀ H',Fr [] H H'→Q (match plK v o with | some i=>.tuple #[.int .i64 ((i:Int)+1),.int .i64 0] | none=>.tuple #[.int .i64 0,.int .i64 130]) H'):callS PP n_k189 #[.pointer (some ⟨b,0,none⟩),.int .i64 o] Q H:=by
 apply k189_ok
 unfold k189 iV pV
 refine place_r hK hv.ks fun H1 hf1=>⟨_,rfl,?_⟩
 have:=h H1 hf1
 unfold placeN
 cases hp:plK v o with
 | none=>rw [hp] at this;exact this
 | some i =>
  rw [hp] at this
  rw [beqI,cond_dec,if_neg (by simp only;omega)];exact this
theorem super_r (hK:RK H b F s t) (hv:KAll s t v){o:Int} (h:∀ H',Fr [] H H'→Q (match plK v o with | some i=>.tuple #[.int .i64 (superK v i),.int .i64 0] | none=>.tuple #[.int .i64 0,.int .i64 130]) H'):callS PP n_k191 #[.pointer (some ⟨b,0,none⟩),.int .i64 o] Q H:=by
 apply k191_ok
 unfold k191 iV pV cS
 refine place_r hK hv.ks fun H1 hf1=>⟨_,rfl,?_⟩
 have:=h H1 hf1
 unfold placeN
 cases hp:plK v o with
 | none=>rw [hp] at this;exact this
 | some i =>
  rw [hp] at this
  obtain ⟨hi,rfl⟩:=plK_some hp
  rw [beqI,cond_dec,if_neg (by simp only;omega)]
  exact up_r (hK.nil hf1) hv.ks hi ⟨_,rfl,this⟩
theorem of_r (hK:RK H b F s t) (hv:KAll s t v){w:Int} (h:Q (.tuple #[.int .i64 (ofK s.h w).1,.int .i64 (ofK s.h w).2]) H):callS PP n_k113 #[.pointer (some ⟨b,0,none⟩),.int .i64 w] Q H:=by
 have hk:=kind_cases w
 apply k113_ok
 unfold k113 iV pV cS
 unfold ofK at h
 refine ⟨fun x H'=>x=[]∧H'=H∧kindW w≠1,refIs_c ⟨_,rfl,?_⟩,?_⟩
 ·rw [cond_dec]
  refine ite_i (fun h1=>?_) fun h1=>⟨rfl,rfl,fun e=>h1 (by unfold isW;omega)⟩
  rw [bneI,cond_dec]
  refine ite_i (fun h2=>?_) fun h2=>⟨rfl,rfl,fun e=>h2 ?_⟩
  ·have h3:kindW w=1:=by
    have h4:w % 2≠0:=fun e=>h2 (Int.dvd_iff_tmod_eq_zero.1 (Int.dvd_of_emod_eq_zero e))
    unfold isW at h1
    omega
   rw [if_pos h3] at h;exact h
  ·intro e2
   have h4:w % 2=0:=Int.emod_eq_zero_of_dvd (Int.dvd_of_tmod_eq_zero e2)
   omega
 rintro x H1 ⟨rfl,rfl,h1⟩ _
 rw [if_neg h1] at h
 refine ⟨rfl,refIs_c ⟨_,rfl,?_⟩⟩
 rw [←decide_not,cond_dec]
 refine ite_i (fun h2=>?_) fun h2=>?_
 ·rw [if_neg (by unfold isW at h2;omega),if_neg (by unfold isW at h2;omega)] at h
  exact h
 have hw:isW w:=Classical.byContradiction h2
 unfold isW at hw
 have hge:0≤w:=by omega
 rw [beqI,cond_dec,Int.tmod_eq_emod_of_nonneg hge]
 refine ite_i (fun h3=>?_) fun h3=>?_
 ·rw [if_pos (by omega)] at h;exact h
 have h3':kindW w=3:=by omega
 rw [if_neg (by omega),if_pos h3'] at h
 obtain ⟨sb,hb,F1,hc,c0,hR,_⟩:=hK.hp
 have hro:refOop w=w / 4:=by unfold refOop;rw [if_pos (by omega)]
 refine ⟨_,rfl,_,hc,_,rfl,_,c0,refOop13_c (I64_small (by omega) (by omega)) ⟨_,rfl,⟨⟨c0,trivial⟩,⟨hc,trivial⟩,trivial⟩,rclass_c hR ?_⟩⟩
 rw [hro]
 unfold RH.clsAt at h ⊢
 cases ho:objAt s.h.objs (w / 4) with
 | none=>rw [ho] at h;exact ⟨_,_,rfl,trivial,h⟩
 | some x =>
  rw [ho] at h
  refine ⟨_,_,rfl,trivial,?_⟩
  have hcl:=hv.ks.gc x (objAt_some ho).1
  have hk2:=kind_cases x.cls
  simp only [show ((0:Int) != 0)=false from rfl,cond_false]
  refine refOop13_c (I64_small (by omega) (by omega)) ⟨_,rfl,?_⟩
  have hro2:refOop x.cls=x.cls / 4:=by unfold refOop;rw [if_pos (by omega)]
  rw [hro2]
  simp only [oopW,if_pos hcl] at h
  exact h
end
section
variable {H:Heap}{b:Nat}{F:Foot}{s:SP}{t:TB}{v:KV}{Q:QT}
theorem class_k (hK:PK H b F s t) (hv:KAll s t v){o:Int} (h:∀ H',Fr [] H H'→Q (.bool (plK v o).isSome) H'):callS PP n_k245 #[rd b,.int .i64 o] Q H:=by
 have hm1:=hv.ks.shape.many1
 apply k245_ok
 unfold k245 A0 iV wW pV cS
 have hf:Fr [] H (H.push (.cells #[.pointer (some ⟨b,0,none⟩)] 131)):=Fr.push _ _ _
 have hB:=Blk.new H #[.pointer (some ⟨b,0,none⟩)] 131
 refine ⟨_,hB.cell 0,num_k (hK.nil hf) fun H1 hf1=>⟨_,rfl,_,(hB.fr hf1 (by simp)).cell 0,?_⟩⟩
 have hF1:=hf.trans hf1
 refine root_k (hK.nil hF1) fun H2 hf2=>⟨_,rfl,?_⟩
 rw [hv.ks.root0]
 have hF2:=hF1.trans hf2
 have hB2:=(hB.fr hf1 (by simp)).fr hf2 (by simp)
 cases hp:plK v o with
 | some i =>
  rw [hp] at h
  obtain ⟨hi,he⟩:=plK_some hp
  have hb:=(up_arr hv.ks hi).1
  have hn:knum s.h o 6=(i:Int)+1:=by rw [←he];exact hv.ks.num hi
  rw [hn,cond_dec,if_pos (by omega),cond_dec,if_pos (by omega)]
  refine ⟨_,hB2.cell 0,size_k (hK.nil hF2) fun H3 hf3=>⟨_,rfl,?_⟩⟩
  rw [hv.ks.size0,cond_dec,if_pos (by omega)]
  refine ⟨_,(hB2.fr hf3 (by simp)).cell 0,oop_k (hK.nil (hF2.trans hf3)) fun H4 hf4=>⟨_,rfl,?_⟩⟩
  have e:IntKind.wrap .i64 ((i:Int)+1-1)=(i:Nat):=by rw [wrap64_id (by omega) (by omega)];omega
  rw [e,(hv.ks.clsAt hi).2,he]
  have:=h H4 ((hF2.trans hf3).trans hf4)
  simpa using this
 | none =>
  rw [hp] at h
  rw [cond_dec]
  refine ite_i (fun h1=>?_) fun h1=>h _ hF2
  rw [cond_dec]
  refine ite_i (fun h2=>?_) fun h2=>h _ hF2
  refine ⟨_,hB2.cell 0,size_k (hK.nil hF2) fun H3 hf3=>⟨_,rfl,?_⟩⟩
  rw [hv.ks.size0,cond_dec]
  refine ite_i (fun h3=>?_) fun h3=>h _ (hF2.trans hf3)
  refine ⟨_,(hB2.fr hf3 (by simp)).cell 0,oop_k (hK.nil (hF2.trans hf3)) fun H4 hf4=>⟨_,rfl,?_⟩⟩
  have hi:(knum s.h o 6-1).toNat<v.cls.length:=by omega
  have e:IntKind.wrap .i64 (knum s.h o 6-1)=((knum s.h o 6-1).toNat:Nat):=by rw [wrap64_id (by omega) (by omega)];omega
  have hne:=plK_none hp _ hi
  rw [e,(hv.ks.clsAt hi).2]
  have:=h H4 ((hF2.trans hf3).trans hf4)
  rw [beqI,decide_eq_false hne];exact this
theorem look_k (hK:PK H b F s t) (hv:KAll s t v){o:Int} (h1:∀ i,plK v o=some i→∀ H',Fr [] H H'→Q (.tuple #[rd b,.int .i64 0]) H') (h2:plK v o=none→∀ H',Fr [] H H'→Q (.tuple #[.agg #[.pointer none],.int .i64 130]) H'):callS PP n_k177 #[.pointer (some ⟨b,0,none⟩),.int .i64 o] Q H:=by
 apply k177_ok
 unfold k177 A0 iV pV cS;dsimp only [shH]
 have hf:Fr [] H (H.push (.cells #[.pointer none] 131)):=Fr.push _ _ _
 have hB:=Blk.new H #[.pointer none] 131
 have hK1:=hK.nil hf
 generalize (H.push (.cells #[.pointer none] 131))=H1 at hf hB hK1 ⊢
 refine there_c hK1 ⟨_,rfl,?_⟩
 simp only [Bool.not_true,cond_false]
 rw [locB]
 have hf1:Fr [] H1 (H1.push (.cells #[.pointer (some ⟨b,0,none⟩)] 131)):=Fr.push _ _ _
 have hB1:=Blk.new H1 #[.pointer (some ⟨b,0,none⟩)] 131
 refine ⟨Wr_push.2 (by simp),_,hB1.cell 0,class_k (hK1.nil hf1) hv fun H2 hf2=>⟨_,rfl,?_⟩⟩
 have hB2:=(hB.fr hf1 (by simp)).fr hf2 (by simp)
 have hF2:=(hf.trans hf1).trans hf2
 have hset:∀ x,Fr [] H (setH H2 ⟨H.size,0,none⟩ x):=fun x=>Fr.late hF2 (Nat.le_refl _)
 cases hp:plK v o with
 | none =>
  simp only [Option.isSome_none,Bool.not_false,cond_true]
  exact ⟨hB2.wr (by simp),_,(hB2.set 0 _).cell 0,h2 hp _ (hset _)⟩
 | some i =>
  simp only [Option.isSome_some,Bool.not_true,cond_false]
  exact ⟨_,(hB1.fr hf2 (by simp)).cell 0,hB2.wr (by simp),_,(hB2.set 0 _).cell 0,h1 i hp _ (hset _)⟩
theorem number_k (hK:PK H b F s t) (hv:KAll s t v){o:Int} (h:∀ H',Fr [] H H'→Q (match plK v o with | some i=>.tuple #[.int .i64 ((i:Int)+1),.int .i64 0] | none=>.tuple #[.int .i64 0,.int .i64 130]) H'):callS PP n_k188 #[.pointer (some ⟨b,0,none⟩),.int .i64 o] Q H:=by
 apply k188_ok
 unfold k188 A0 iV pV cS;dsimp only [shH]
 refine look_k hK hv (fun i hp H1 hf=>?_) fun hp H1 hf=>?_
 ·refine ⟨_,_,rfl,Wr_push.2 (by simp),?_⟩
  rw [hp] at h
  simp only [show ((0:Int) != 0)=false from rfl,cond_false]
  rw [locB]
  have hf1:Fr [] H1 (H1.push (.cells #[.pointer (some ⟨b,0,none⟩)] 131)):=Fr.push _ _ _
  obtain ⟨hi,he⟩:=plK_some hp
  refine ⟨_,(Blk.new H1 _ _).cell 0,num_k (hK.nil (hf.trans hf1)) fun H2 hf2=>⟨_,rfl,?_⟩⟩
  have hn:knum s.h o 6=(i:Int)+1:=by rw [←he];exact hv.ks.num hi
  rw [hn];exact h _ ((hf.trans hf1).trans hf2)
 ·refine ⟨_,_,rfl,Wr_push.2 (by simp),?_⟩
  rw [hp] at h
  simp only [show ((130:Int) != 0)=true from rfl,cond_true]
  rw [locB]
  exact h _ hf.more
theorem ksuper_k (hK:PK H b F s t) (hv:KAll s t v){o:Int} (h:∀ H',Fr [] H H'→Q (match plK v o with | some i=>.tuple #[.int .i64 (superK v i),.int .i64 0] | none=>.tuple #[.int .i64 0,.int .i64 130]) H'):callS PP n_k190 #[.pointer (some ⟨b,0,none⟩),.int .i64 o] Q H:=by
 apply k190_ok
 unfold k190 A0 iV pV cS;dsimp only [shH]
 refine look_k hK hv (fun i hp H1 hf=>?_) fun hp H1 hf=>?_
 ·refine ⟨_,_,rfl,Wr_push.2 (by simp),?_⟩
  rw [hp] at h
  simp only [show ((0:Int) != 0)=false from rfl,cond_false]
  rw [locB]
  have hf1:Fr [] H1 (H1.push (.cells #[.pointer (some ⟨b,0,none⟩)] 131)):=Fr.push _ _ _
  obtain ⟨hi,he⟩:=plK_some hp
  refine ⟨_,(Blk.new H1 _ _).cell 0,super_k (hK.nil (hf.trans hf1)) fun H2 hf2=>⟨_,rfl,?_⟩⟩
  have hn:koop s.h o 1=(v.cls[i]).up:=by rw [←he];exact hv.ks.up hi
  have:=h _ ((hf.trans hf1).trans hf2)
  simp only [superK,List.getElem?_eq_getElem hi] at this
  rw [hn];exact this
 ·refine ⟨_,_,rfl,Wr_push.2 (by simp),?_⟩
  rw [hp] at h
  simp only [show ((130:Int) != 0)=true from rfl,cond_true]
  rw [locB]
  exact h _ hf.more
theorem layout_k (hK:PK H b F s t) (hv:KAll s t v){o:Int} (h:∀ H',Fr [] H H'→Q (match plK v o with | some i=>.tuple #[.int .i64 (infoK v t i).lay,.int .i64 0] | none=>.tuple #[.int .i64 0,.int .i64 130]) H'):callS PP n_k192 #[.pointer (some ⟨b,0,none⟩),.int .i64 o] Q H:=by
 apply k192_ok
 unfold k192 A0 iV pV cS;dsimp only [shH]
 refine look_k hK hv (fun i hp H1 hf=>?_) fun hp H1 hf=>?_
 ·refine ⟨_,_,rfl,Wr_push.2 (by simp),?_⟩
  rw [hp] at h
  simp only [show ((0:Int) != 0)=false from rfl,cond_false]
  rw [locB]
  have hf1:Fr [] H1 (H1.push (.cells #[.pointer (some ⟨b,0,none⟩)] 131)):=Fr.push _ _ _
  obtain ⟨hi,he⟩:=plK_some hp
  refine ⟨_,(Blk.new H1 _ _).cell 0,num_k (hK.nil (hf.trans hf1)) fun H2 hf2=>⟨_,rfl,?_⟩⟩
  have hn:knum s.h o 5=(infoK v t i).lay:=by
   rw [←he,hv.ks.layN hi]
   unfold infoK
   rw [List.getElem?_eq_getElem hi]
  rw [hn];exact h _ ((hf.trans hf1).trans hf2)
 ·refine ⟨_,_,rfl,Wr_push.2 (by simp),?_⟩
  rw [hp] at h
  simp only [show ((130:Int) != 0)=true from rfl,cond_true]
  rw [locB]
  exact h _ hf.more
theorem count_ks (hK:PK H b F s t) (hv:KS s v) (h:∀ H',Fr [] H H'→Q (.int .i64 (v.cls.length:Int)) H'):callS PP n_k70 #[.pointer (some ⟨b,0,none⟩)] Q H:=by
 apply k70_ok
 unfold k70 A0 iV pV cS;dsimp only [shH]
 refine there_c hK ⟨_,rfl,?_⟩
 simp only [Bool.not_true,cond_false]
 rw [locB]
 have hf1:Fr [] H (H.push (.cells #[.pointer (some ⟨b,0,none⟩)] 131)):=Fr.push _ _ _
 have hB:=Blk.new H #[.pointer (some ⟨b,0,none⟩)] 131
 refine ⟨Wr_push.2 (by simp),_,hB.cell 0,_,hB.cell 0,root_k (hK.nil hf1) fun H2 hf2=>⟨_,rfl,⟨⟨(hB.fr hf2 (by simp)).cell 0,trivial⟩,trivial⟩,?_⟩⟩
 rw [hv.root0]
 refine size_k (hK.nil (hf1.trans hf2)) fun H3 hf3=>⟨_,rfl,trivial,?_⟩
 rw [hv.size0];exact h _ ((hf1.trans hf2).trans hf3)
theorem count_k (hK:PK H b F s t) (hv:KAll s t v) (h:∀ H',Fr [] H H'→Q (.int .i64 (v.cls.length:Int)) H'):callS PP n_k70 #[.pointer (some ⟨b,0,none⟩)] Q H:=count_ks hK hv.ks h
theorem count_nil (h:Q (.int .i64 0) H):callS PP n_k70 #[.pointer none] Q H:=by
 apply k70_ok
 unfold k70 A0 iV pV cS;dsimp only [shH]
 exact there_nil ⟨_,rfl,h⟩
theorem numbered_k (hK:PK H b F s t) (hv:KAll s t v){n:Int} (h:∀ H',Fr [] H H'→Q (.tuple #[.int .i64 (numberedK v n).1,.int .i64 (numberedK v n).2]) H'):callS PP n_k14 #[.pointer (some ⟨b,0,none⟩),.int .i64 n] Q H:=by
 have hm1:=hv.ks.shape.many1
 apply k14_ok
 unfold k14 A0 iV wW pV cS;dsimp only [shH]
 unfold numberedK at h
 refine there_c hK ⟨_,rfl,?_⟩
 simp only [Bool.not_true,cond_false]
 rw [locB]
 have hf1:Fr [] H (H.push (.cells #[.pointer (some ⟨b,0,none⟩)] 131)):=Fr.push _ _ _
 have hB:=Blk.new H #[.pointer (some ⟨b,0,none⟩)] 131
 refine ⟨Wr_push.2 (by simp),_,hB.cell 0,root_k (hK.nil hf1) fun H2 hf2=>⟨_,rfl,?_⟩⟩
 rw [hv.ks.root0,cond_dec]
 have hF2:=hf1.trans hf2
 refine ite_i (fun h1=>?_) fun h1=>?_
 ·rw [dif_neg (by omega)] at h;exact h _ hF2
 have hB2:=hB.fr hf2 (by simp)
 refine ⟨_,hB2.cell 0,size_k (hK.nil hF2) fun H3 hf3=>⟨_,rfl,?_⟩⟩
 rw [hv.ks.size0,cond_dec]
 refine ite_i (fun h2=>?_) fun h2=>?_
 ·rw [dif_neg (by omega)] at h;exact h _ (hF2.trans hf3)
 rw [dif_pos (by omega)] at h
 refine ⟨_,(hB2.fr hf3 (by simp)).cell 0,oop_k (hK.nil (hF2.trans hf3)) fun H4 hf4=>⟨_,rfl,?_⟩⟩
 have e:IntKind.wrap .i64 (n-1)=((n-1).toNat:Nat):=by rw [wrap64_id (by omega) (by omega)];omega
 rw [e,(hv.ks.clsAt (by omega)).2]
 exact h _ ((hF2.trans hf3).trans hf4)
theorem kfind_k (hK:PK H b F s t) (hv:KAll s t v){name:ByteArray} (h:∀ H',Fr [] H H'→Q (.tuple #[.int .i64 (findK v t name).1,.int .i64 (findK v t name).2]) H'):callS PP n_k66 #[.pointer (some ⟨b,0,none⟩),.string name] Q H:=by
 have hm1:=hv.ks.shape.many1
 apply k66_ok
 unfold k66 A0 iV wW pV sV cS;dsimp only [shH]
 refine there_c hK ⟨_,rfl,?_⟩
 simp only [Bool.not_true,cond_false]
 rw [locB]
 have hf1:Fr [] H (H.push (.cells #[.pointer (some ⟨b,0,none⟩)] 131)):=Fr.push _ _ _
 have hB:=Blk.new H #[.pointer (some ⟨b,0,none⟩)] 131
 refine ⟨Wr_push.2 (by simp),_,hB.cell 0,root_k (hK.nil hf1) fun H2 hf2=>⟨_,rfl,?_⟩⟩
 rw [hv.ks.root0]
 have hF2:=hf1.trans hf2
 have hB2:=hB.fr hf2 (by simp)
 refine ⟨_,hB2.cell 0,size_k (hK.nil hF2) fun H3 hf3=>⟨_,rfl,?_⟩⟩
 rw [hv.ks.size0]
 have hF3:=hF2.trans hf3
 have hB3:=hB2.fr hf3 (by simp)
 refine ⟨fun w H'=>∃ i:Nat,w=[.int .i64 i]∧i≤v.cls.length∧Fr [] H3 H'∧∀ j (hj:j<v.cls.length),j<i→tx t (v.cls[j]).name≠name,fun w _=>match w with
  | [.int _ i]=>(v.cls.length-i).toNat
  | _=>0,⟨0,rfl,Nat.zero_le _,Fr.refl _ _,fun j _ hj=>by omega⟩,?_⟩
 rintro w H4 ⟨i,rfl,hi,hf4,hno⟩ _
 have hF4:=hF3.trans hf4
 have hB4:=hB3.fr hf4 (by simp)
 refine ⟨_,rfl,?_⟩
 rw [cond_dec]
 refine ite_i (fun hlt=>?_) fun hlt=>?_
 ·have hlt':i<v.cls.length:=by omega
  refine ⟨_,hB4.cell 0,oop_k (hK.nil hF4) fun H5 hf5=>⟨_,rfl,_,(hB4.fr hf5 (by simp)).cell 0,?_⟩⟩
  rw [(hv.ks.clsAt hlt').2]
  refine text_k (hK.nil (hF4.trans hf5)) fun H6 hf6=>⟨_,rfl,?_⟩
  rw [hv.name hlt',strEq_dec,cond_dec]
  refine ite_i (fun he=>?_) fun he=>?_
  ·have hfd:findK v t name=((v.cls[i]).oop,0):=by
    unfold findK
    have:v.cls.findIdx? (fun c=>decide (tx t c.name=name))=some i:=by
     rw [List.findIdx?_eq_some_iff_getElem]
     exact ⟨hlt',by simpa using he,fun j hj=>by simpa using hno j (by omega) hj⟩
    rw [this]
    simp [hlt']
   rw [hfd] at h
   exact h _ ((hF4.trans hf5).trans hf6)
  ·have e:IntKind.wrap .i64 ((i:Int)+1)=((i+1:Nat):Int):=by rw [wrap64_id (by omega) (by omega)];omega
   rw [e]
   refine ⟨⟨i+1,rfl,by omega,(hf4.trans hf5).trans hf6,fun j hj hji=>?_⟩,by simp;omega⟩
   rcases Nat.lt_or_ge j i with h1 | h1
   ·exact hno j hj h1
   ·have:j=i:=by omega
    subst this;exact he
 ·have hfd:findK v t name=(0,130):=by
   unfold findK
   have:v.cls.findIdx? (fun c=>decide (tx t c.name=name))=none:=by
    rw [List.findIdx?_eq_none_iff]
    intro c hc
    obtain ⟨j,hj,rfl⟩:=hv.ks.view.idx hc
    simpa using hno j hj (by omega)
   rw [this]
  rw [hfd] at h
  exact h _ hF4
theorem kfind_nil {name:ByteArray} (h:Q (.tuple #[.int .i64 0,.int .i64 2]) H):callS PP n_k66 #[.pointer none,.string name] Q H:=by
 apply k66_ok
 unfold k66 A0 iV wW pV sV cS;dsimp only [shH]
 exact there_nil ⟨_,rfl,h⟩
end
section
variable {H:Heap}{b:Nat}{F:Foot}{s:SP}{t:TB}{v:KV}{Q:QT}
theorem words_k (hK:PK H b F s t){o:Int} (h:∀ a l c G H',Own 1 H' a l c (intsV (kwords s.h o)) G→Fr [] H H'→(∀ x∈G,H.size≤x)→Q (.slice a l c) H'):callS PP n_k95 #[rd b,.int .i64 o] Q H:=by
 have hs1:sliceInfo PP 108=some (1,8,some (.int .i64 0)):=by kernel_rfl
 have hn0:=size_nonneg (r:=s.h) o
 have hn1:=size_le hK.wfs.h o
 apply k95_ok
 unfold k95 A0 iV wW pV lV cS
 have hf:Fr [] H (H.push (.cells #[.pointer (some ⟨b,0,none⟩)] 131)):=Fr.push _ _ _
 refine ⟨_,(Blk.new _ _ _).cell 0,size_k (hK.nil hf) fun H0 hf0=>⟨_,rfl,?_⟩⟩
 have hB0:=(Blk.new H #[.pointer (some ⟨b,0,none⟩)] 131).fr hf0 (by simp)
 refine ⟨fun w H'=>∃(i:Nat) (a:Option Addr) (l' c:Nat) (G:Foot),w=[.slice a l' c,.int .i64 i]∧(i:Int)≤ksize s.h o∧Own 1 H' a l' c (intsV ((kwords s.h o).take i)) G∧Fr [] H0 H'∧(∀ x∈G,H0.size≤x),fun w _=>match w with
  | [_,.int _ i]=>(ksize s.h o-i).toNat
  | _=>0,⟨0,none,0,0,[],rfl,hn0,by simpa [intsV] using Own.nil 1 H0,Fr.refl _ _,by simp⟩,?_⟩
 rintro w H1 ⟨i,a1,l1,c1,G,rfl,hi,ho,hf1,hG⟩ _
 have hlen:(kwords s.h o).length=(ksize s.h o).toNat:=by simp [kwords]
 have hl1:l1=i:=by have:=ho.len;simp only [intsV,List.length_map,List.length_take] at this;omega
 have hF1:Fr [] H H1:=(hf.trans hf0).trans hf1
 refine ⟨_,_,_,_,rfl,?_⟩
 rw [cond_dec]
 refine ite_i (fun hlt=>?_) fun hlt=>?_
 ·have htk:(kwords s.h o).take (i+1)=(kwords s.h o).take i++[kslot s.h o i]:=by
   rw [List.take_add_one,List.getElem?_eq_getElem (by omega)];simp [kwords]
  have e:IntKind.wrap .i64 ((i:Int)+1)=((i+1:Nat):Int):=by rw [wrap64_id (by omega) (by omega)];omega
  refine ⟨_,(hB0.fr hf1 (by simp)).cell 0,slot_k (hK.nil hF1) fun H2 hf2=>⟨_,rfl,?_⟩⟩
  refine evS_append1 hs1 rfl (by kernel_rfl) (ho.fr hf2 (by simp)) rfl (by simp [oneC]) (by omega) (by decide) (by decide) fun a' c' G2 H3 g1 g2 g3=>⟨_,_,_,rfl,?_⟩
  have hfr:=Up.fresh (hf1.trans hf2) g2 hG
  rw [e]
  refine ⟨⟨i+1,a',l1+1,c',G2,rfl,by omega,?_,hfr.1,hfr.2⟩,by simp;omega⟩
  rw [htk,intsV_append];exact g1
 ·rw [List.take_of_length_le (by omega)] at ho
  exact h _ _ _ _ H1 ho hF1 fun x hx=>Nat.le_trans (hf.trans hf0).1 (hG x hx)
theorem globals_k (hK:PK H b F s t) (hv:KAll s t v) (h:∀ a l c G H',Own 1 H' a l c (strsV (globsK v t)) G→Fr [] H H'→(∀ x∈G,H.size≤x)→Q (.slice a l c) H'):callS PP n_k71 #[.pointer (some ⟨b,0,none⟩)] Q H:=by
 have hs1:sliceInfo PP 37=some (1,16,some (.string (⟨#[]⟩:ByteArray))):=by kernel_rfl
 have hg:=hv.ks.shape.globs
 apply k71_ok
 unfold k71 A0 iV wW pV sV lV cS;dsimp only [shH]
 refine there_c hK ⟨_,rfl,?_⟩
 simp only [Bool.not_true,cond_false]
 rw [locB]
 have hf1:Fr [] H (H.push (.cells #[.pointer (some ⟨b,0,none⟩)] 131)):=Fr.push _ _ _
 have hB:=Blk.new H #[.pointer (some ⟨b,0,none⟩)] 131
 refine ⟨Wr_push.2 (by simp),_,hB.cell 0,root_k (hK.nil hf1) fun H2 hf2=>⟨_,rfl,?_⟩⟩
 rw [hv.ks.root1]
 have hF2:=hf1.trans hf2
 have hB2:=hB.fr hf2 (by simp)
 refine ⟨_,hB2.cell 0,size_k (hK.nil hF2) fun H0 hf0=>⟨_,rfl,?_⟩⟩
 rw [hv.ks.size1]
 have hF0:=hF2.trans hf0
 have hB0:=hB2.fr hf0 (by simp)
 have ed:IntKind.wrap .i64 (Int.tdiv (2*(v.glob.length:Int)) 2)=v.glob.length:=by
  rw [show Int.tdiv (2*(v.glob.length:Int)) 2=v.glob.length by rw [Int.tdiv_eq_ediv_of_nonneg (by omega)];omega]
  exact wrap64_id (by omega) (by omega)
 have hlen:(globsK v t).length=v.glob.length:=by simp [globsK]
 refine ⟨fun w H'=>∃(i:Nat) (a:Option Addr) (l' c:Nat) (G:Foot),w=[.slice a l' c,.int .i64 i]∧i≤v.glob.length∧Own 1 H' a l' c (strsV ((globsK v t).take i)) G∧Fr [] H0 H'∧(∀ x∈G,H0.size≤x),fun w _=>match w with
  | [_,.int _ i]=>(v.glob.length-i).toNat
  | _=>0,⟨0,none,0,0,[],rfl,Nat.zero_le _,by simpa [strsV] using Own.nil 1 H0,Fr.refl _ _,by simp⟩,?_⟩
 rintro w H1 ⟨i,a1,l1,c1,G,rfl,hi,ho,hf3,hG⟩ _
 have hl1:l1=i:=by have:=ho.len;simp only [strsV,List.length_map,List.length_take] at this;omega
 have hF1:Fr [] H H1:=hF0.trans hf3
 refine ⟨_,_,_,_,rfl,?_⟩
 rw [ed,cond_dec]
 refine ite_i (fun hlt=>?_) fun hlt=>?_
 ·have hlt':i<v.glob.length:=by omega
  have htk:(globsK v t).take (i+1)=(globsK v t).take i++[tx t v.glob[i].1]:=by
   rw [List.take_add_one,List.getElem?_eq_getElem (by omega)];simp [globsK]
  have e:IntKind.wrap .i64 ((i:Int)+1)=((i+1:Nat):Int):=by rw [wrap64_id (by omega) (by omega)];omega
  have e2:IntKind.wrap .i64 (2*(i:Int))=((2*i:Nat):Int):=by rw [wrap64_id (by omega) (by omega)];omega
  rw [e2]
  refine ⟨_,(hB0.fr hf3 (by simp)).cell 0,text_k (hK.nil hF1) fun H2 hf4=>⟨_,rfl,?_⟩⟩
  rw [hv.gname hlt']
  refine evS_append1 hs1 rfl (by kernel_rfl) (ho.fr hf4 (by simp)) rfl (by simp [oneC]) (by omega) (by decide) (by decide) fun a' c' G2 H3 g1 g2 g3=>⟨_,_,_,rfl,?_⟩
  have hfr:=Up.fresh (hf3.trans hf4) g2 hG
  rw [e]
  refine ⟨⟨i+1,a',l1+1,c',G2,rfl,by omega,?_,hfr.1,hfr.2⟩,by simp;omega⟩
  rw [htk,strsV_append];exact g1
 ·rw [List.take_of_length_le (by omega)] at ho
  exact h _ _ _ _ H1 ho hF1 fun x hx=>Nat.le_trans hF0.1 (hG x hx)
theorem globals_nil (h:Q (.slice none 0 0) H):callS PP n_k71 #[.pointer none] Q H:=by
 apply k71_ok
 unfold k71 A0 iV wW pV sV lV cS;dsimp only [shH]
 exact there_nil ⟨_,rfl,h⟩
theorem value_k (hK:PK H b F s t) (hv:KAll s t v){n:Int} (h:∀ H',Fr [] H H'→Q (.tuple #[.int .i64 (valueK v n).1,.int .i64 (valueK v n).2]) H'):callS PP n_k68 #[.pointer (some ⟨b,0,none⟩),.int .i64 n] Q H:=by
 have hg:=hv.ks.shape.globs
 apply k68_ok
 unfold k68 A0 iV wW pV cS;dsimp only [shH]
 unfold valueK at h
 refine there_c hK ⟨_,rfl,?_⟩
 simp only [Bool.not_true,cond_false]
 rw [locB]
 have hf1:Fr [] H (H.push (.cells #[.pointer (some ⟨b,0,none⟩)] 131)):=Fr.push _ _ _
 have hB:=Blk.new H #[.pointer (some ⟨b,0,none⟩)] 131
 refine ⟨Wr_push.2 (by simp),_,hB.cell 0,root_k (hK.nil hf1) fun H2 hf2=>⟨_,rfl,?_⟩⟩
 rw [hv.ks.root1,cond_dec]
 have hF2:=hf1.trans hf2
 refine ite_i (fun h1=>?_) fun h1=>?_
 ·rw [dif_neg (by omega)] at h;exact h _ hF2
 have hB2:=hB.fr hf2 (by simp)
 refine ⟨_,hB2.cell 0,size_k (hK.nil hF2) fun H3 hf3=>⟨_,rfl,?_⟩⟩
 have ed:IntKind.wrap .i64 (Int.tdiv (2*(v.glob.length:Int)) 2)=v.glob.length:=by
  rw [show Int.tdiv (2*(v.glob.length:Int)) 2=v.glob.length by rw [Int.tdiv_eq_ediv_of_nonneg (by omega)];omega]
  exact wrap64_id (by omega) (by omega)
 rw [hv.ks.size1,ed,cond_dec]
 refine ite_i (fun h2=>?_) fun h2=>?_
 ·rw [dif_neg (by omega)] at h;exact h _ (hF2.trans hf3)
 rw [dif_pos (by omega)] at h
 have e:IntKind.wrap .i64 (IntKind.wrap .i64 (2*n)+1)=((2*n.toNat+1:Nat):Int):=by rw [wrap64_id (n:=2*n) (by omega) (by omega),wrap64_id (by omega) (by omega)];omega
 rw [e]
 refine ⟨_,(hB2.fr hf3 (by simp)).cell 0,slot_k (hK.nil (hF2.trans hf3)) fun H4 hf4=>⟨_,rfl,?_⟩⟩
 rw [(hv.ks.globAt (by omega)).2]
 exact h _ ((hF2.trans hf3).trans hf4)
theorem value_nil {n:Int} (h:Q (.tuple #[.int .i64 0,.int .i64 2]) H):callS PP n_k68 #[.pointer none,.int .i64 n] Q H:=by
 apply k68_ok
 unfold k68 A0 iV wW pV cS;dsimp only [shH]
 exact there_nil ⟨_,rfl,h⟩
theorem setValue_k (hK:PK H b F s t) (hv:KAll s t v){n w:Int} (h:∀ H' F',PK H' b F' (setValueK s v n w).2 t→Up F H F' H'→Q (.int .i64 (setValueK s v n w).1) H'):callS PP n_k69 #[.pointer (some ⟨b,0,none⟩),.int .i64 n,.int .i64 w] Q H:=by
 have hg:=hv.ks.shape.globs
 apply k69_ok
 unfold k69 iV wW pV cS
 unfold setValueK at h
 refine value_k hK hv fun H1 hf1=>⟨_,_,rfl,?_⟩
 unfold valueK
 by_cases hn:0≤n∧n<v.glob.length
 ·rw [dif_pos hn]
  rw [if_neg (by omega)] at h
  simp only [show ((0:Int) != 0)=false from rfl,cond_false]
  have hK1:=hK.nil hf1
  refine kind_c hK1.kinds ⟨_,rfl,?_⟩
  rw [beqI,cond_dec]
  refine ite_i (fun hw=>?_) fun hw=>?_
  ·rw [if_pos (by unfold isW;omega)] at h
   exact h _ _ hK1 ⟨hf1.of_nil,fun x hx=>.inl hx⟩
  rw [if_neg (by unfold isW;omega)] at h
  obtain ⟨sb,F1,hc,hS,hsub,hbF,hup,_⟩:=hK1.sp
  refine ⟨_,rfl,_,hc,psHeap_c hS fun hb F2 hR hsub2 hup2=>⟨_,rfl,root_k hK1 fun H3 hf3=>⟨_,rfl,?_⟩⟩⟩
  rw [hv.ks.root1]
  have e:IntKind.wrap .i64 (IntKind.wrap .i64 (2*n)+1)=2*n+1:=by rw [wrap64_id (n:=2*n) (by omega) (by omega),wrap64_id (by omega) (by omega)]
  rw [e]
  refine put_c (hR.fr hf3 (Disj.nil_right _) (by simp)) (fun o ho=>?_) fun H4 hR4 hf4=>⟨_,rfl,?_⟩
  ·obtain ⟨x,h1,h2,_⟩:=hv.ks.view.globs
   rw [h1] at ho;cases ho;exact h2
  ·have hf34:Fr F2 H1 H4:=hf3.of_nil.trans hf4
   have hS4:=hup2 H4 _ hR4 hf34
   obtain ⟨F',hK4,hu⟩:=hup H4 F1 _ hS4 ⟨hf34.mono hsub2,fun x hx=>.inl hx⟩
   exact h _ _ hK4 ⟨hf1.of_nil.trans hu.1,fun x hx=>(hu.2 x hx).imp id fun h=>Nat.le_trans hf1.1 h⟩
 ·rw [dif_neg hn]
  rw [if_pos (by omega)] at h
  simp only [show ((1:Int) != 0)=true from rfl,cond_true]
  exact h _ _ (hK.nil hf1) ⟨hf1.of_nil,fun x hx=>.inl hx⟩
theorem setValue_nil {n w:Int} (h:Q (.int .i64 2) H):callS PP n_k69 #[.pointer none,.int .i64 n,.int .i64 w] Q H:=by
 apply k69_ok
 unfold k69 iV wW pV cS
 exact value_nil ⟨_,_,rfl,h⟩
theorem of_k (hK:PK H b F s t) (hv:KAll s t v){w:Int} (h:Q (.tuple #[.int .i64 (ofK s.h w).1,.int .i64 (ofK s.h w).2]) H):callS PP n_k112 #[.pointer (some ⟨b,0,none⟩),.int .i64 w] Q H:=by
 apply k112_ok
 unfold k112 iV pV cS
 unfold ofK at h
 refine there_c hK ⟨_,rfl,?_⟩
 simp only [Bool.not_true,cond_false]
 refine kind_c hK.kinds ⟨_,rfl,?_⟩
 rw [beqI,beqI,beqI,cond_dec]
 refine ite_i (fun h1=>?_) fun h1=>?_
 ·rw [if_pos h1] at h;exact h
 rw [if_neg h1] at h
 rw [cond_dec]
 refine ite_i (fun h2=>?_) fun h2=>?_
 ·rw [if_pos h2] at h;exact h
 rw [if_neg h2] at h
 rw [cond_dec]
 refine ite_i (fun h3=>?_) fun h3=>?_
 ·rw [if_pos h3] at h
  refine oop_c hK.kinds ?_
  unfold ofW
  rw [if_pos h3]
  obtain ⟨sb,F1,hc,hS,_⟩:=hK.sp
  refine ⟨_,_,rfl,_,rfl,_,hc,psHeap_c hS fun hb F2 hR _ _=>⟨_,rfl,hclass_c hR ?_⟩⟩
  unfold RH.clsAt at h ⊢
  cases ho:objAt s.h.objs (w / 4) with
  | none=>rw [ho] at h;exact ⟨_,_,rfl,h⟩
  | some x =>
   rw [ho] at h
   refine ⟨_,_,rfl,?_⟩
   have hc:=hv.ks.gc x (objAt_some ho).1
   simp only [show ((0:Int) != 0)=false from rfl,cond_false]
   refine oop_c hK.kinds ?_
   unfold ofW
   rw [if_pos hc]
   refine ⟨_,_,rfl,?_⟩
   simp only [oopW,if_pos hc] at h
   exact h
 ·rw [if_neg h3] at h;exact h
end
section
variable {H:Heap}{b:Nat}{F:Foot}{s:SP}{t:TB}{v:KV}{Q:QT}
theorem ktexts_own (hv:KAll s t v){i:Nat} (hi:i<v.cls.length):ktexts s.h t (v.cls[i]).ownA=(v.cls[i]).own.map (tx t):=by
 unfold ktexts
 rw [hv.ks.ownL hi,Int.toNat_natCast]
 apply List.ext_getElem (by simp)
 intro j h1 h2
 simp only [List.getElem_map,List.getElem_range]
 exact hv.ownT hi (by simpa using h2)
theorem fields_k (hv:KAll s t v):∀ (i:Nat){H:Heap}{Q:QT} (hK:PK H b F s t) (hi:i<v.cls.length) (h:∀ a l c G H',Own 1 H' a l c (strsV ((fieldsK v i).map (tx t))) G→Fr [] H H'→(∀ x∈G,H.size≤x)→Q (.slice a l c) H'),callS PP n_k202 #[rd b,.int .i64 (v.cls[i]).oop] Q H:=by
 intro i
 induction i using Nat.strongRecOn with
 | ind i ih =>
  intro H Q hK hi h
  have hs1:sliceInfo PP 37=some (1,16,some (.string (⟨#[]⟩:ByteArray))):=by kernel_rfl
  have hm1:=hv.ks.shape.many1
  have hb:=up_arr hv.ks hi
  have hfl:=fields_len hv.ks i hi
  apply k202_ok
  unfold k202 A0 iV pV lV cS
  rw [beqI,cond_dec,if_neg (by omega)]
  have hf:Fr [] H (H.push (.cells #[.pointer (some ⟨b,0,none⟩)] 131)):=Fr.push _ _ _
  have hB:=Blk.new H #[.pointer (some ⟨b,0,none⟩)] 131
  refine ⟨_,hB.cell 0,_,hB.cell 0,_,hB.cell 0,_,hB.cell 0,super_k (hK.nil hf) fun H1 hf1=>⟨_,rfl,?_⟩⟩
  have hB1:=hB.fr hf1 (by simp)
  have hF1:=hf.trans hf1
  refine ⟨⟨⟨hB1.cell 0,trivial⟩,⟨hB1.cell 0,trivial⟩,⟨hB1.cell 0,trivial⟩,trivial⟩,?_⟩
  have es:(if koop s.h (v.cls[i]).oop 1=1 then 0 else koop s.h (v.cls[i]).oop 1)=superK v i:=by
   rw [hv.ks.up hi];unfold superK;rw [List.getElem?_eq_getElem hi]
  rw [es]
  have fin:∀ (l:List Nat) (hl:fieldsK v i=l++(v.cls[i]).own) (a:Option Addr) (n c:Nat) (G:Foot) (H2:Heap),Own 1 H2 a n c (strsV (l.map (tx t))) G→Fr [] H1 H2→(∀ x∈G,H1.size≤x) →
    ∃ a10 l10 c10,Value.slice a n c=.slice a10 l10 c10∧((cellH H2 ⟨H.size,0,none⟩=some (.pointer (some ⟨b,0,none⟩))∧True)∧((cellH H2 ⟨H.size,0,none⟩=some (.pointer (some ⟨b,0,none⟩))∧True)∧True))∧callS PP n_k76 #[rd b,.int .i64 (v.cls[i]).oop,.int .i64 2] (fun v11 H3=>∃ n12:Int,v11=.int .i64 n12∧((cellH H3 ⟨H.size,0,none⟩=some (.pointer (some ⟨b,0,none⟩))∧True)∧True)∧callS PP n_k178 #[rd b,.int .i64 n12] (fun v13 H4=>∃ a14:Option Addr,∃ l14:Nat,∃ c14:Nat,v13=.slice a14 l14 c14∧True∧evS PP (Builtin.append_ #[37,37] 37 #[.slice a10 l10 c10,.slice a14 l14 c14]) (fun v15 H5=>∃ a16:Option Addr,∃ l16:Nat,∃ c16:Nat,v15=.slice a16 l16 c16∧True∧Q (.slice a16 l16 c16) H5) H4) H3) H2:=by
   intro l hl a n c G H2 ho hf2 hG
   have hB2:=hB1.fr hf2 (by simp)
   refine ⟨_,_,_,rfl,⟨⟨hB2.cell 0,trivial⟩,⟨hB2.cell 0,trivial⟩,trivial⟩,oop_k (hK.nil (hF1.trans hf2)) fun H3 hf3=>⟨_,rfl,⟨⟨(hB2.fr hf3 (by simp)).cell 0,trivial⟩,trivial⟩,?_⟩⟩
   rw [hv.ks.ownO hi]
   refine texts_k (hK.nil ((hF1.trans hf2).trans hf3)) fun a3 l3 c3 G3 H4 ho3 hf4 hG3=>⟨_,_,_,rfl,trivial,?_⟩
   rw [ktexts_own hv hi] at ho3
   have hlen:n+l3≤8192*(i+1):=by
    have h1:=ho.len
    have h2:=ho3.len
    rw [hl,List.length_append] at hfl
    simp only [strsV,List.length_map] at h1 h2
    omega
   refine evS_append hs1 rfl (by kernel_rfl) (ho.fr (hf3.trans hf4) (by simp)) ho3.rd strsV_one (by omega) (by decide) (by decide) fun a' c' G4 H5 g1 g2 g3=>⟨_,_,_,rfl,trivial,?_⟩
   have hfr:=Up.fresh ((hf2.trans hf3).trans hf4) g2 hG
   refine h _ _ _ G4 H5 ?_ (hF1.trans hfr.1) fun x hx=>Nat.le_trans hF1.1 (hfr.2 x hx)
   rw [hl,List.map_append,strsV_append];exact g1
  rcases hv.ks.upI hi with ⟨h0,e0,_⟩ | ⟨j,hj,hlt,e0,_,e⟩
  ·rw [e0]
   show callS PP n_k202 #[rd b,.int .i64 0] _ H1
   apply k202_ok
   unfold k202 A0 iV pV lV cS
   simp only [show ((0:Int) == 0)=true from rfl,cond_true]
   subst h0
   exact fin [] (by rw [hv.ks.fields0 hi];rfl) none 0 0 [] _ (by simpa [strsV] using Own.nil 1 _) (Fr.push _ _ _) (by simp)
  ·rw [e0]
   exact ih j hlt (hK.nil hF1) hj fun a n c G H2 ho hf2 hG=>fin (fieldsK v j) (hv.ks.fieldsS hi hlt e) a n c G H2 ho hf2 hG
theorem kfields_k (hK:PK H b F s t) (hv:KAll s t v){o:Int} (h1:∀ i,plK v o=some i→∀ a l c G H',Own 1 H' a l c (strsV ((fieldsK v i).map (tx t))) G→Fr [] H H'→(∀ x∈G,H.size≤x)→Q (.tuple #[.slice a l c,.int .i64 0]) H')
  (h2:plK v o=none→∀ H',Fr [] H H'→Q (.tuple #[.slice none 0 0,.int .i64 130]) H'):callS PP n_k101 #[.pointer (some ⟨b,0,none⟩),.int .i64 o] Q H:=by
 apply k101_ok
 unfold k101 A0 iV pV lV cS;dsimp only [shH]
 refine look_k hK hv (fun i hp H1 hf=>?_) fun hp H1 hf=>?_
 ·refine ⟨_,_,rfl,Wr_push.2 (by simp),?_⟩
  simp only [show ((0:Int) != 0)=false from rfl,cond_false]
  rw [locB]
  have hf1:Fr [] H1 (H1.push (.cells #[.pointer (some ⟨b,0,none⟩)] 131)):=Fr.push _ _ _
  obtain ⟨hi,he⟩:=plK_some hp
  refine ⟨_,(Blk.new H1 _ _).cell 0,?_⟩
  rw [←he]
  refine fields_k hv i (hK.nil (hf.trans hf1)) hi fun a l c G H2 ho hf2 hG=>⟨_,_,_,rfl,h1 i hp _ _ _ G H2 ho ((hf.trans hf1).trans hf2) fun x hx=>Nat.le_trans (hf.trans hf1).1 (hG x hx)⟩
 ·refine ⟨_,_,rfl,Wr_push.2 (by simp),?_⟩
  simp only [show ((130:Int) != 0)=true from rfl,cond_true]
  rw [locB]
  exact h2 hp _ hf.more
theorem under_k (hK:PK H b F s t) (hv:KAll s t v){o:Int} (h1:∀ i,plK v o=some i→∀ a l c G H',Own 1 H' a l c (intsV (underK v o)) G→Fr [] H H'→(∀ x∈G,H.size≤x)→Q (.slice a l c) H')
  (h2:plK v o=none→∀ H',Fr [] H H'→Q (.slice none 0 0) H'):callS PP n_k72 #[.pointer (some ⟨b,0,none⟩),.int .i64 o] Q H:=by
 have hs1:sliceInfo PP 66=some (1,8,some (.int .i64 0)):=by kernel_rfl
 have hmi:mapInfo PP 236=some (.int .i64,some (.bool false)):=by kernel_rfl
 have hm1:=hv.ks.shape.many1
 apply k72_ok
 unfold k72 A0 iV wW pV lV cS;dsimp only [shH]
 refine look_k hK hv (fun i hp H1 hf=>?_) fun hp H1 hf=>?_
 rotate_left
 ·refine ⟨_,_,rfl,Wr_push.2 (by simp),?_⟩
  simp only [show ((130:Int) != 0)=true from rfl,cond_true]
  rw [locB]
  exact h2 hp _ hf.more
 refine ⟨_,_,rfl,Wr_push.2 (by simp),?_⟩
 simp only [show ((0:Int) != 0)=false from rfl,cond_false]
 rw [locB]
 have hf1:Fr [] H1 (H1.push (.cells #[.pointer (some ⟨b,0,none⟩)] 131)):=Fr.push _ _ _
 have hB:=Blk.new H1 #[.pointer (some ⟨b,0,none⟩)] 131
 have hF1:=hf.trans hf1
 refine ⟨_,hB.cell 0,root_k (hK.nil hF1) fun H2 hf2=>⟨_,rfl,?_⟩⟩
 rw [hv.ks.root0]
 have hB2:=hB.fr hf2 (by simp)
 have hF2:=hF1.trans hf2
 have ho0:∀ p∈([]:List (Key × Value)),p.1.of (.int .i64):=by simp
 refine evS_mapUpdate (k:=.int o) hmi trivial ho0 (MapAt.new H2) fun H3 hM3 hf3=>?_
 have hm3:∀ x,setK ([]:List (Key × Value)) x (.bool true)=[(x,.bool true)]:=fun x=>rfl
 rw [hm3] at hM3
 have hfm:Fr [] H2 H3:=⟨Nat.le_trans (by simp) hf3.1,fun x hx _=>by rw [hf3.2 x (by simp;omega) (by simp;omega),(Fr.push [] H2 (.map #[] 0)).2 x hx (by simp)]⟩
 have hB3:=hB2.fr hfm (by simp)
 have hF3:=hF2.trans hfm
 have hbl:H1.size<H2.size:=hB2.lt
 refine ⟨_,hB3.cell 0,size_k (hK.nil hF3) fun H4 hf4=>⟨_,rfl,?_⟩⟩
 rw [hv.ks.size0]
 have hB4:=hB3.fr hf4 (by simp)
 have hM4:=hM3.fr hf4 (by simp)
 let D:CV:=⟨0,0,0,[],0,0,0,[],[],0⟩
 let f:Nat→Bool:=fun i=>decide (Und v o (v.cls.getD i D).oop)
 let pre:Nat→List Int:=fun n=>((List.range n).filter f).map fun i:Nat=>(i:Int)+1
 have hpre:∀ n,pre (n+1)=pre n++if f n then [(n:Int)+1] else []:=by
  intro n
  simp only [pre,List.range_succ,List.filter_append,List.map_append]
  congr 1
  by_cases hfn:f n <;> simp [hfn]
 have hprel:∀ n,(pre n).length≤n:=fun n=>by simp only [pre,List.length_map];exact Nat.le_trans (List.length_filter_le _ _) (by simp)
 have hend:pre v.cls.length=underK v o:=rfl
 let okM:Nat→List (Key × Value)→Prop:=fun n es=>(∀ p∈es,p.1.of (.int .i64))∧∀ x:Int,(getK es (.int x)).getD (.bool false)=.bool (decide (x=o∨∃ j,∃ hj:j<v.cls.length,j<n∧(v.cls[j]).oop=x∧Und v o x))
 refine ⟨fun w H'=>∃(i:Nat) (a:Option Addr) (l' c:Nat) (G:Foot) (es:List (Key × Value)),w=[.slice a l' c,.int .i64 i]∧i≤v.cls.length∧Own 1 H' a l' c (intsV (pre i)) G∧MapAt H' H2.size es∧okM i es∧Fr [] H2 H'∧(∀ x∈G,H2.size<x),fun w _=>match w with
  | [_,.int _ i]=>(v.cls.length-i).toNat
  | _=>0,⟨0,none,0,0,[],_,rfl,Nat.zero_le _,by simpa [intsV,pre] using Own.nil 1 H4,hM4,⟨by simp [Key.of],fun x=>?_⟩,hfm.trans hf4,by simp⟩,?_⟩
 ·unfold getK
  by_cases hx:x=o
  ·subst hx;simp
  ·rw [if_neg (by simpa using hx)]
   have:¬ (x=o∨∃ j,∃ hj:j<v.cls.length,j<0∧(v.cls[j]).oop=x∧Und v o x):=by
    rintro (h | ⟨j,_,hj,_⟩)
    ·exact hx h
    ·omega
   rw [decide_eq_false this];rfl
 rintro w H5 ⟨i,a1,l1,c1,G,es,rfl,hi,ho,hM,⟨hok1,hok2⟩,hf5,hG⟩ _
 have hl1:l1≤i:=by have h1:=ho.len;have h2:=hprel i;simp only [intsV,List.length_map] at h1;omega
 have hF5:=hF2.trans hf5
 have hB5:=hB2.fr hf5 (by simp)
 refine ⟨_,_,_,_,rfl,?_⟩
 rw [cond_dec]
 refine ite_i (fun hlt=>?_) fun hlt=>?_
 rotate_left
 ·have:i=v.cls.length:=by omega
  subst this
  rw [hend] at ho
  exact h1 _ hp _ _ _ G H5 ho hF5 fun x hx=>by have:=hG x hx;have:=hF2.1;omega
 have hlt':i<v.cls.length:=by omega
 have e:IntKind.wrap .i64 ((i:Int)+1)=((i+1:Nat):Int):=by rw [wrap64_id (by omega) (by omega)];omega
 have hgd:v.cls.getD i D=v.cls[i]:=by simp [hlt']
 have hui:=und_iff hv.ks (o:=o) hlt'
 refine ⟨_,hB5.cell 0,oop_k (hK.nil hF5) fun H6 hf6=>⟨_,rfl,?_⟩⟩
 rw [(hv.ks.clsAt hlt').2]
 have hM6:=hM.fr hf6 (by simp)
 have hB6:=hB5.fr hf6 (by simp)
 have hF6:=hF5.trans hf6
 have hstep:∀ x:Int,(x=o∨∃ j,∃ hj:j<v.cls.length,j<i+1∧(v.cls[j]).oop=x∧Und v o x)↔((x=o∨∃ j,∃ hj:j<v.cls.length,j<i∧(v.cls[j]).oop=x∧Und v o x)∨((v.cls[i]).oop=x∧Und v o x)):=by
  intro x
  constructor
  ·rintro (h | ⟨j,hj,hji,h3,h4⟩)
   ·exact .inl (.inl h)
   ·by_cases hjj:j=i
    ·subst hjj;exact .inr ⟨h3,h4⟩
    ·exact .inl (.inr ⟨j,hj,by omega,h3,h4⟩)
  ·rintro ((h | ⟨j,hj,hji,h3,h4⟩) | ⟨h3,h4⟩)
   ·exact .inl h
   ·exact .inr ⟨j,hj,by omega,h3,h4⟩
   ·exact .inr ⟨i,hlt',by omega,h3,h4⟩
 have yes:∀ (hU:Und v o (v.cls[i]).oop) (H7:Heap) (_:MapAt H7 H2.size es) (_:Fr [] H5 H7){K:Value→Heap→Prop} (_:∀ a' n' c' G' es' H9,Own 1 H9 a' n' c' (intsV (pre (i+1))) G'→MapAt H9 H2.size es'→okM (i+1) es'→Fr [] H2 H9→(∀ x∈G',H2.size<x)→K (.slice a' n' c') H9),
   evS PP (Instr.mapUpdate 236 (.map (some H2.size)) (.int .i64 (v.cls[i]).oop) (.bool true)) (fun _ H8=>evS PP (Builtin.append_ #[66,66] 66 #[.slice a1 l1 c1,.slice (some (⟨H8.size,0,none⟩:Addr)) 1 1]) K (H8.push (.cells #[.int .i64 (IntKind.wrap .i64 ((i:Int)+1))] 3))) H7:=by
  intro hU H7 hM7 hf7 K hk
  refine evS_mapUpdate (k:=.int (v.cls[i]).oop) hmi trivial hok1 hM7 fun H8 hM8 hf8=>?_
  have hnG:H2.size∉G:=fun hm=>by have:=hG _ hm;omega
  have ho8:Own 1 H8 a1 l1 c1 (intsV (pre i)) G:=(ho.fr hf7 (by simp)).fr hf8 (fun x hx hn=>by simp only [List.mem_singleton] at hn;subst hn;exact hnG hx)
  refine evS_append1 hs1 rfl (by kernel_rfl) ho8 rfl (by simp [oneC]) (by omega) (by decide) (by decide) fun a' c' G2 H9 g1 g2 g3=>?_
  have hsz:H2.size<H8.size:=by have:=hM7.lt;have:=hf8.1;omega
  have hnG2:H2.size∉G2:=fun hm=>by
   rcases g2.2 _ hm with h3 | h3
   ·exact hnG h3
   ·omega
  refine hk _ _ _ G2 _ H9 ?_ (hM8.fr g2.1 hnG) ⟨?_,fun x=>?_⟩ ?_ ?_
  ·have hfi:f i=true:=by simp only [f,hgd];simpa using hU
   rw [hpre,hfi,e] at *
   simp only [if_pos,intsV_append]
   exact g1
  ·intro p hp
   have:∀ (es:List (Key × Value)),(∀ p∈es,p.1.of (.int .i64))→∀ p∈setK es (.int (v.cls[i]).oop) (.bool true),p.1.of (.int .i64):=by
    intro es
    induction es with
    | nil=>intro _ p hp;simp [setK] at hp;subst hp;trivial
    | cons q es ih =>
     intro hes p hp
     unfold setK at hp
     split at hp
     ·rcases List.mem_cons.1 hp with rfl | hp
      ·trivial
      ·exact hes p (by simp [hp])
     ·rcases List.mem_cons.1 hp with rfl | hp
      ·exact hes _ (by simp)
      ·exact ih (fun p hp=>hes p (by simp [hp])) p hp
   exact this es hok1 p hp
  ·rw [getK_setK]
   by_cases hx:x=(v.cls[i]).oop
   ·subst hx
    rw [if_pos rfl]
    have:(v.cls[i]).oop=o∨∃ j,∃ hj:j<v.cls.length,j<i+1∧(v.cls[j]).oop=(v.cls[i]).oop∧Und v o (v.cls[i]).oop:=.inr ⟨i,hlt',by omega,rfl,hU⟩
    rw [decide_eq_true this];rfl
   ·rw [if_neg (by simpa using hx),hok2 x]
    congr 1
    rw [decide_eq_decide,hstep x]
    constructor
    ·exact .inl
    ·rintro (h | ⟨h,_⟩)
     ·exact h
     ·exact absurd h.symm hx
  ·have hfx:Fr [] H2 H8:=⟨Nat.le_of_lt hsz,fun x hx _=>by rw [hf8.2 x (by have:=hf7.1;have:=hf5.1;omega) (by simp;omega),hf7.2 x (by have:=hf5.1;omega) (by simp),hf5.2 x hx (by simp)]⟩
   exact ⟨Nat.le_trans hfx.1 g2.1.1,fun x hx hn=>by rw [g2.1.2 x (by omega) (fun hm=>by have:=hG _ hm;omega),hfx.2 x hx hn]⟩
  ·intro x hx
   rcases g2.2 x hx with h3 | h3
   ·exact hG x h3
   ·omega
 refine evS_lookup (k:=.int (v.cls[i]).oop) hmi trivial hok1 hM6 ?_
 simp only [Bool.false_eq_true,if_false]
 rw [hok2]
 refine ⟨_,rfl,?_⟩
 rw [cond_dec]
 refine ite_i (fun hin=>?_) fun hin=>?_
 ·have hU:Und v o (v.cls[i]).oop:=by
   rcases hin with h | ⟨_,_,_,_,h⟩
   ·rw [h];exact .self
   ·exact h
  refine yes hU H6 hM6 hf6 fun a' n' c' G' es' H9 g1 g2 g3 g4 g5=>⟨_,_,_,rfl,?_⟩
  rw [e]
  exact ⟨⟨i+1,a',n',c',G',es',rfl,by omega,g1,g2,g3,g4,g5⟩,by simp;omega⟩
 ·refine ⟨_,hB6.cell 0,super_k (hK.nil hF6) fun H7 hf7=>⟨_,rfl,?_⟩⟩
  have es':(if koop s.h (v.cls[i]).oop 1=1 then 0 else koop s.h (v.cls[i]).oop 1)=superK v i:=by
   rw [hv.ks.up hlt'];unfold superK;rw [List.getElem?_eq_getElem hlt']
  rw [es']
  refine evS_lookup (k:=.int (superK v i)) hmi trivial hok1 (hM6.fr hf7 (by simp)) ?_
  simp only [Bool.false_eq_true,if_false]
  rw [hok2]
  refine ⟨_,rfl,?_⟩
  rw [cond_dec]
  have hsup:(superK v i=o∨∃ j,∃ hj:j<v.cls.length,j<i∧(v.cls[j]).oop=superK v i∧Und v o (superK v i))↔(superK v i≠0∧Und v o (superK v i)):=by
   obtain ⟨hpi,hpe⟩:=plK_some hp
   have ho1:=(up_arr hv.ks hpi).1
   rw [hpe] at ho1
   constructor
   ·rintro (h | ⟨j,hj,_,h3,h4⟩)
    ·rw [h];exact ⟨by omega,.self⟩
    ·have:=(up_arr hv.ks hj).1
     exact ⟨by omega,h4⟩
   ·rintro ⟨h3,h4⟩
    rcases hv.ks.upI hlt' with ⟨_,h5,_⟩ | ⟨j,hj,hji,h5,_,_⟩
    ·exact absurd h5 h3
    ·exact .inr ⟨j,hj,hji,h5.symm,h4⟩
  refine ite_i (fun hin2=>?_) fun hin2=>?_
  ·have hU:Und v o (v.cls[i]).oop:=hui.2 (.inr (hsup.1 hin2))
   refine yes hU H7 (hM6.fr hf7 (by simp)) (hf6.trans hf7) fun a' n' c' G' es' H9 g1 g2 g3 g4 g5=>⟨_,_,_,rfl,?_⟩
   rw [e]
   exact ⟨⟨i+1,a',n',c',G',es',rfl,by omega,g1,g2,g3,g4,g5⟩,by simp;omega⟩
  ·have hnU:¬ Und v o (v.cls[i]).oop:=fun hU=>by
    rcases hui.1 hU with h | h
    ·exact hin (.inl h)
    ·exact hin2 (hsup.2 h)
   have hfi:f i=false:=by simp only [f,hgd];simpa using hnU
   rw [e]
   have hf67:=hf6.trans hf7
   refine ⟨⟨i+1,a1,l1,c1,G,es,rfl,by omega,?_,hM.fr hf67 (by simp),⟨hok1,fun x=>?_⟩,hf5.trans hf67,hG⟩,by simp;omega⟩
   ·rw [hpre,hfi]
    simpa using ho.fr hf67 (by simp)
   ·rw [hok2 x]
    congr 1
    rw [decide_eq_decide,hstep x]
    constructor
    ·exact .inl
    ·rintro (h | ⟨h,h'⟩)
     ·exact h
     ·rw [←h] at h';exact absurd h' hnU
end
abbrev infoTail (R0 LC:Addr) (Q:QT) (H6:Heap):Prop :=
 ∃ s36:ByteArray,cellH H6 LC=some (.string s36)∧∃ s37:ByteArray,cellH H6 (LC.add 1)=some (.string s37)∧∃ a38:Option Addr,∃ l38:Nat,∃ c38:Nat,cellH H6 (LC.add 2)=some (.slice a38 l38 c38)∧∃ n39:Int,cellH H6 (LC.add 3)=some (.int .i64 n39) ∧
 Wr H6 R0∧Wr (setH H6 R0 (.string s36)) (R0.add 1)∧Wr (setH (setH H6 R0 (.string s36)) (R0.add 1) (.string s37)) (R0.add 2)∧Wr (setH (setH (setH H6 R0 (.string s36)) (R0.add 1) (.string s37)) (R0.add 2) (.slice a38 l38 c38)) (R0.add 3) ∧
 ∃ s40:ByteArray,cellH (setH (setH (setH (setH H6 R0 (.string s36)) (R0.add 1) (.string s37)) (R0.add 2) (.slice a38 l38 c38)) (R0.add 3) (.int .i64 n39)) R0=some (.string s40) ∧
 ∃ s41:ByteArray,cellH (setH (setH (setH (setH H6 R0 (.string s36)) (R0.add 1) (.string s37)) (R0.add 2) (.slice a38 l38 c38)) (R0.add 3) (.int .i64 n39)) (R0.add 1)=some (.string s41) ∧
 ∃ a42:Option Addr,∃ l42:Nat,∃ c42:Nat,cellH (setH (setH (setH (setH H6 R0 (.string s36)) (R0.add 1) (.string s37)) (R0.add 2) (.slice a38 l38 c38)) (R0.add 3) (.int .i64 n39)) (R0.add 2)=some (.slice a42 l42 c42) ∧
 ∃ n43:Int,cellH (setH (setH (setH (setH H6 R0 (.string s36)) (R0.add 1) (.string s37)) (R0.add 2) (.slice a38 l38 c38)) (R0.add 3) (.int .i64 n39)) (R0.add 3)=some (.int .i64 n43) ∧
 Q (.tuple #[.agg #[.string s40,.string s41,.slice a42 l42 c42,.int .i64 n43],.int .i64 0]) (setH (setH (setH (setH H6 R0 (.string s36)) (R0.add 1) (.string s37)) (R0.add 2) (.slice a38 l38 c38)) (R0.add 3) (.int .i64 n39))
abbrev infoMid (R0 LC RD:Addr) (o:Int) (Q:QT) (H:Heap):Prop :=
 ∃ p22:Option Addr,cellH H RD=some (.pointer p22)∧callS PP n_k180 #[.agg #[.pointer p22],.int .i64 o] (fun v23 H6=>∃ n24:Int,v23=.int .i64 n24∧cond (decide (n24 > 0)) (∃ p25:Option Addr,cellH H6 RD=some (.pointer p25) ∧
  callS PP n_k176 #[.agg #[.pointer p25],.int .i64 n24,.int .i64 0] (fun v26 H7=>∃ s27:ByteArray,v26=.string s27∧Wr H7 (LC.add 1)∧infoTail R0 LC Q (setH H7 (LC.add 1) (.string s27))) H6) (infoTail R0 LC Q H6)) H
section
variable {H:Heap}{b:Nat}{F:Foot}{s:SP}{t:TB}{v:KV}{Q:QT}
theorem info_tail {r0 lc:Nat}{nm sup:ByteArray}{a:Option Addr}{l c:Nat}{ly:Int}{cs:Array Value} (hLC:Blk H lc #[.string nm,.string sup,.slice a l c,.int .i64 ly]) (hR0:Blk H r0 cs) (hsz:cs.size=4)
  (h:∀ H',Fr [r0] H H'→Q (.tuple #[.agg #[.string nm,.string sup,.slice a l c,.int .i64 ly],.int .i64 0]) H'):infoTail ⟨r0,0,none⟩ ⟨lc,0,none⟩ Q H:=by
 obtain ⟨x0,x1,x2,x3,rfl⟩:∃ x0 x1 x2 x3,cs=#[x0,x1,x2,x3]:=by
  obtain ⟨l⟩:=cs
  match l,hsz with
  | [x0,x1,x2,x3],_=>exact ⟨_,_,_,_,rfl⟩
 obtain ⟨w0,w1,w2,w3,hB,hf⟩:=st4 hR0 (o:=0) (by omega) (.string nm) (.string sup) (.slice a l c) (.int .i64 ly)
 exact ⟨_,hLC.cell 0,_,hLC.cell 1,_,_,_,hLC.cell 2,_,hLC.cell 3,w0,w1,w2,w3,_,hB.cell 0,_,hB.cell 1,_,_,_,hB.cell 2,_,hB.cell 3,h _ hf⟩
theorem info_mid {r0 lc rb:Nat}{nm:ByteArray}{a:Option Addr}{l c:Nat}{ly:Int}{cs:Array Value} (hK:PK H b F s t) (hv:KAll s t v){i:Nat} (hi:i<v.cls.length) (hLC:Blk H lc #[.string nm,.string ⟨#[]⟩,.slice a l c,.int .i64 ly]) (hRD:Blk H rb #[.pointer (some ⟨b,0,none⟩)]) (hR0:Blk H r0 cs) (hsz:cs.size=4) (hne:lc≠r0)
  (h:∀ H',Fr [lc,r0] H H'→Q (.tuple #[.agg #[.string nm,.string (infoK v t i).sup,.slice a l c,.int .i64 ly],.int .i64 0]) H'):infoMid ⟨r0,0,none⟩ ⟨lc,0,none⟩ ⟨rb,0,none⟩ (v.cls[i]).oop Q H:=by
 refine ⟨_,hRD.cell 0,super_k hK fun H6 hf6=>⟨_,rfl,?_⟩⟩
 have es:(if koop s.h (v.cls[i]).oop 1=1 then 0 else koop s.h (v.cls[i]).oop 1)=superK v i:=by
  rw [hv.ks.up hi];unfold superK;rw [List.getElem?_eq_getElem hi]
 rw [es]
 rw [cond_dec]
 have hsup:(infoK v t i).sup=match upIdx v i with
  | some j=>match v.cls[j]? with
   | some d=>tx t d.name
   | none=>⟨#[]⟩
  | none=>⟨#[]⟩:=by unfold infoK;rw [List.getElem?_eq_getElem hi] <;> rfl
 rcases hv.ks.upI hi with ⟨_,e0,e1⟩ | ⟨j,hj,hlt,e0,_,e1⟩
 ·rw [e1] at hsup
  simp only at hsup
  rw [e0,if_neg (by decide)]
  rw [hsup] at h
  exact info_tail (hLC.fr hf6 (by simp)) (hR0.fr hf6 (by simp)) hsz fun H' hf=>h H' ((hf6.of_nil).trans (hf.mono (by simp)))
 ·rw [e1] at hsup
  simp only [List.getElem?_eq_getElem hj] at hsup
  have hb:=(up_arr hv.ks hj).1
  rw [e0,if_pos (by omega)]
  refine ⟨_,(hRD.fr hf6 (by simp)).cell 0,text_k (hK.nil hf6) fun H7 hf7=>⟨_,rfl,?_⟩⟩
  have hL7:=(hLC.fr hf6 (by simp)).fr hf7 (by simp)
  rw [hv.name hj,←hsup]
  refine ⟨hL7.wr (o:=1) (by simp),?_⟩
  have hfl:Fr [lc] H7 (setH H7 ⟨lc,1,none⟩ (.string (infoK v t i).sup)):=Fr.set (by simp)
  exact info_tail (hL7.set 1 (.string (infoK v t i).sup)) (((hR0.fr hf6 (by simp)).fr hf7 (by simp)).fr hfl (by simpa using Ne.symm hne)) hsz fun H' hf=>h H' ((((hf6.trans hf7).of_nil).trans (hfl.mono (by simp))).trans (hf.mono (by simp)))
theorem kinfo_k (hK:PK H b F s t) (hv:KAll s t v){o:Int} (h1:∀ i,plK v o=some i→∀ a l c G H',Own 1 H' a l c (strsV (infoK v t i).own) G→Fr [] H H'→(∀ x∈G,H.size≤x)→Q (.tuple #[.agg #[.string (infoK v t i).name,.string (infoK v t i).sup,.slice a l c,.int .i64 (infoK v t i).lay],.int .i64 0]) H')
  (h2:plK v o=none→∀ H',Fr [] H H'→Q (.tuple #[.agg #[.string ⟨#[]⟩,.string ⟨#[]⟩,.slice none 0 0,.int .i64 0],.int .i64 130]) H'):callS PP n_k67 #[.pointer (some ⟨b,0,none⟩),.int .i64 o] Q H:=by
 apply k67_ok
 unfold k67 A0 iV pV sV lV cS;dsimp only [shH]
 have hf0:Fr [] H (H.push (.cells #[.string (⟨#[]⟩:ByteArray),.string (⟨#[]⟩:ByteArray),.slice none 0 0,.int .i64 0] 121)):=Fr.push _ _ _
 have hR0:=Blk.new H #[.string (⟨#[]⟩:ByteArray),.string (⟨#[]⟩:ByteArray),.slice none 0 0,.int .i64 0] 121
 have hK0:=hK.nil hf0
 generalize (H.push (.cells #[.string (⟨#[]⟩:ByteArray),.string (⟨#[]⟩:ByteArray),.slice none 0 0,.int .i64 0] 121))=H0 at hf0 hR0 hK0 ⊢
 refine look_k hK0 hv (fun i hp H1 hf1=>?_) fun hp H1 hf1=>?_
 rotate_left
 ·refine ⟨_,_,rfl,Wr_push.2 (by simp),?_⟩
  simp only [show ((130:Int) != 0)=true from rfl,cond_true]
  rw [locB]
  have hf2:Fr [] H1 (H1.push (.cells #[.pointer none] 131)):=Fr.push _ _ _
  have hR2:=(hR0.fr hf1 (by simp)).fr hf2 (by simp)
  obtain ⟨w0,w1,w2,w3,hB,hf⟩:=st4 hR2 (o:=0) (by simp) (.string ⟨#[]⟩) (.string ⟨#[]⟩) (.slice none 0 0) (.int .i64 0)
  refine ⟨w0,w1,w2,w3,_,hB.cell 0,_,hB.cell 1,_,_,_,hB.cell 2,_,hB.cell 3,h2 hp _ ?_⟩
  exact (Up.fresh ((hf0.trans hf1).trans hf2) (F:=[H.size]) (F':=[H.size]) ⟨hf,fun _ h=>.inl h⟩ (by simp)).1
 refine ⟨_,_,rfl,Wr_push.2 (by simp),?_⟩
 simp only [show ((0:Int) != 0)=false from rfl,cond_false]
 rw [locB]
 have hfr:Fr [] H1 (H1.push (.cells #[.pointer (some ⟨b,0,none⟩)] 131)):=Fr.push _ _ _
 have hRD:=Blk.new H1 #[.pointer (some ⟨b,0,none⟩)] 131
 have hR1:=(hR0.fr hf1 (by simp)).fr hfr (by simp)
 have hF1:=(hf0.trans hf1).trans hfr
 have hK1:=hK.nil hF1
 have hlt1:H.size<H1.size:=(hR0.fr hf1 (by simp)).lt
 generalize (H1.push (.cells #[.pointer (some ⟨b,0,none⟩)] 131))=HR at hfr hRD hR1 hF1 hK1 ⊢
 obtain ⟨hi,rfl⟩:=plK_some hp
 have hI:infoK v t i=⟨tx t (v.cls[i]).name,(infoK v t i).sup,(v.cls[i]).own.map (tx t),(v.cls[i]).lay⟩:=by
  unfold infoK;rw [List.getElem?_eq_getElem hi]
 have en:(infoK v t i).name=tx t (v.cls[i]).name:=by rw [hI]
 have eo:(infoK v t i).own=(v.cls[i]).own.map (tx t):=by rw [hI]
 have el:(infoK v t i).lay=(v.cls[i]).lay:=by rw [hI]
 have hq:=h1 i hp
 rw [en,eo,el] at hq
 have fin:∀ (H9:Heap) (lc:Nat) (a:Option Addr) (l c:Nat) (G:Foot),Fr [] HR H9→Blk H9 lc #[.string ⟨#[]⟩,.string ⟨#[]⟩,.slice none 0 0,.int .i64 0]→HR.size≤lc→Own 1 H9 a l c (strsV ((v.cls[i]).own.map (tx t))) G→(∀ x∈G,HR.size≤x)→lc∉G →
   Wr H9 ⟨lc,0,none⟩∧Wr (setH H9 ⟨lc,0,none⟩ (.string (tx t (v.cls[i]).name))) ⟨lc,1,none⟩∧Wr (setH (setH H9 ⟨lc,0,none⟩ (.string (tx t (v.cls[i]).name))) ⟨lc,1,none⟩ (.string ⟨#[]⟩)) ⟨lc,2,none⟩∧Wr (setH (setH (setH H9 ⟨lc,0,none⟩ (.string (tx t (v.cls[i]).name))) ⟨lc,1,none⟩ (.string ⟨#[]⟩)) ⟨lc,2,none⟩ (.slice a l c)) ⟨lc,3,none⟩∧True ∧
   infoMid ⟨H.size,0,none⟩ ⟨lc,0,none⟩ ⟨H1.size,0,none⟩ (v.cls[i]).oop Q (setH (setH (setH (setH H9 ⟨lc,0,none⟩ (.string (tx t (v.cls[i]).name))) ⟨lc,1,none⟩ (.string ⟨#[]⟩)) ⟨lc,2,none⟩ (.slice a l c)) ⟨lc,3,none⟩ (.int .i64 (v.cls[i]).lay)):=by
  intro H9 lc a l c G hf9 hL hlc ho hG hn
  obtain ⟨w0,w1,w2,w3,hB,hf⟩:=st4 hL (o:=0) (by simp) (.string (tx t (v.cls[i]).name)) (.string ⟨#[]⟩) (.slice a l c) (.int .i64 (v.cls[i]).lay)
  have hlR:H1.size<HR.size:=hRD.lt
  refine ⟨w0,w1,w2,w3,trivial,info_mid (F:=F) ?_ hv hi hB ((hRD.fr hf9 (by simp)).fr hf (by simp;omega)) ((hR1.fr hf9 (by simp)).fr hf (by simp;omega)) (by simp) (by omega) fun H' hf'=>?_⟩
  ·have:=Up.fresh (hF1.trans hf9) (F:=[lc]) (F':=[lc]) ⟨hf,fun _ h=>.inl h⟩ (by have:=hF1.1;simp;omega)
   exact hK.nil this.1
  ·have hall:Fr [lc,H.size] H9 H':=(hf.mono (by simp)).trans hf'
   have:=Up.fresh (hF1.trans hf9) (F:=[lc,H.size]) (F':=[lc,H.size]) ⟨hall,fun _ h=>.inl h⟩ (by have:=hF1.1;simp;omega)
   refine hq a l c G H' (ho.fr hall fun x hx hm=>?_) this.1 fun x hx=>Nat.le_trans hF1.1 (hG x hx)
   simp only [List.mem_cons,List.not_mem_nil,or_false] at hm
   rcases hm with rfl | rfl
   ·exact hn hx
   ·have:=hG _ hx;omega
 have rdc:∀ {H9:Heap},Fr [] HR H9→cellH H9 ⟨H1.size,0,none⟩=some (.pointer (some ⟨b,0,none⟩)):=fun hf=>(hRD.fr hf (by simp)).cell 0
 have r0:=rdc (Fr.refl [] HR)
 have eown:=ktexts_own hv hi
 have eoo:=hv.ks.ownO hi
 have eln:=hv.ks.layN hi
 have enm:=hv.name hi
 refine ⟨_,r0,_,r0,_,r0,_,r0,?_,?_⟩
 ·refine text_k hK1 fun H2 f2=>⟨_,rfl,⟨⟨rdc f2,trivial⟩,⟨rdc f2,trivial⟩,⟨rdc f2,trivial⟩,trivial⟩,?_,?_⟩
  ·refine oop_k (hK1.nil f2) fun H3 f3=>?_
   have F3:=f2.trans f3
   refine ⟨_,rfl,⟨⟨rdc F3,trivial⟩,⟨rdc F3,trivial⟩,trivial⟩,?_,?_⟩
   ·rw [eoo]
    refine texts_k (hK1.nil F3) fun a l c G H4 ho f4 hG=>?_
    have F4:=F3.trans f4
    rw [eown] at ho
    have hG':∀ x∈G,HR.size≤x:=fun x hx=>Nat.le_trans F3.1 (hG x hx)
    refine ⟨_,_,_,rfl,⟨⟨rdc F4,trivial⟩,trivial⟩,?_,?_⟩
    ·refine num_k (hK1.nil F4) fun H5 f5=>⟨_,rfl,trivial,trivial,?_⟩
     rw [enm,eln]
     have F5:=F4.trans f5
     have fp:Fr [] H5 (H5.push (.cells #[.string (⟨#[]⟩:ByteArray),.string (⟨#[]⟩:ByteArray),.slice none 0 0,.int .i64 0] 121)):=Fr.push _ _ _
     exact fin _ H5.size a l c G (F5.trans fp) (Blk.new _ _ _) F5.1 (ho.fr (f5.trans fp) (by simp)) hG' fun hm=>by have:=(ho.fr f5 (by simp)).lt _ hm;omega
    ·have fp:Fr [] H4 (H4.push (.cells #[.string (⟨#[]⟩:ByteArray),.string (⟨#[]⟩:ByteArray),.slice none 0 0,.int .i64 0] 121)):=Fr.push _ _ _
     have F5:=F4.trans fp
     refine ⟨⟨⟨rdc F5,trivial⟩,trivial⟩,num_k (hK1.nil F5) fun H5 f5=>⟨_,rfl,trivial,?_⟩⟩
     rw [enm,eln]
     exact fin _ H4.size a l c G (F5.trans f5) ((Blk.new _ _ _).fr f5 (by simp)) F4.1 (ho.fr (fp.trans f5) (by simp)) hG' fun hm=>by have:=ho.lt _ hm;omega
   ·have fp:Fr [] H3 (H3.push (.cells #[.string (⟨#[]⟩:ByteArray),.string (⟨#[]⟩:ByteArray),.slice none 0 0,.int .i64 0] 121)):=Fr.push _ _ _
    have F4:=F3.trans fp
    have hL:=Blk.new H3 #[.string (⟨#[]⟩:ByteArray),.string (⟨#[]⟩:ByteArray),.slice none 0 0,.int .i64 0] 121
    refine ⟨⟨⟨rdc F4,trivial⟩,⟨rdc F4,trivial⟩,trivial⟩,?_⟩
    rw [eoo]
    refine texts_k (hK1.nil F4) fun a l c G H5 ho f5 hG=>⟨_,_,_,rfl,⟨⟨rdc (F4.trans f5),trivial⟩,trivial⟩,num_k (hK1.nil (F4.trans f5)) fun H6 f6=>⟨_,rfl,trivial,?_⟩⟩
    rw [eown] at ho
    rw [enm,eln]
    exact fin _ H3.size a l c G ((F4.trans f5).trans f6) ((hL.fr f5 (by simp)).fr f6 (by simp)) F3.1 (ho.fr f6 (by simp)) (fun x hx=>Nat.le_trans F4.1 (hG x hx)) fun hm=>by have:=hG _ hm;have:=hL.lt;omega
  ·have fp:Fr [] H2 (H2.push (.cells #[.string (⟨#[]⟩:ByteArray),.string (⟨#[]⟩:ByteArray),.slice none 0 0,.int .i64 0] 121)):=Fr.push _ _ _
   have F3:=f2.trans fp
   have hL:=Blk.new H2 #[.string (⟨#[]⟩:ByteArray),.string (⟨#[]⟩:ByteArray),.slice none 0 0,.int .i64 0] 121
   refine ⟨⟨⟨rdc F3,trivial⟩,⟨rdc F3,trivial⟩,⟨rdc F3,trivial⟩,trivial⟩,oop_k (hK1.nil F3) fun H4 f4=>?_⟩
   have F4:=F3.trans f4
   refine ⟨_,rfl,⟨⟨rdc F4,trivial⟩,⟨rdc F4,trivial⟩,trivial⟩,?_⟩
   rw [eoo]
   refine texts_k (hK1.nil F4) fun a l c G H5 ho f5 hG=>⟨_,_,_,rfl,⟨⟨rdc (F4.trans f5),trivial⟩,trivial⟩,num_k (hK1.nil (F4.trans f5)) fun H6 f6=>⟨_,rfl,trivial,?_⟩⟩
   rw [eown] at ho
   rw [enm,eln]
   exact fin _ H2.size a l c G ((F4.trans f5).trans f6) (((hL.fr f4 (by simp)).fr f5 (by simp)).fr f6 (by simp)) f2.1 (ho.fr f6 (by simp)) (fun x hx=>Nat.le_trans F4.1 (hG x hx)) fun hm=>by have:=hG _ hm;have:=(hL.fr f4 (by simp)).lt;omega
 ·have fp:Fr [] HR (HR.push (.cells #[.string (⟨#[]⟩:ByteArray),.string (⟨#[]⟩:ByteArray),.slice none 0 0,.int .i64 0] 121)):=Fr.push _ _ _
  have hL:=Blk.new HR #[.string (⟨#[]⟩:ByteArray),.string (⟨#[]⟩:ByteArray),.slice none 0 0,.int .i64 0] 121
  refine ⟨⟨⟨rdc fp,trivial⟩,⟨rdc fp,trivial⟩,⟨rdc fp,trivial⟩,⟨rdc fp,trivial⟩,trivial⟩,text_k (hK1.nil fp) fun H2 f2=>?_⟩
  have F2:=fp.trans f2
  refine ⟨_,rfl,⟨⟨rdc F2,trivial⟩,⟨rdc F2,trivial⟩,⟨rdc F2,trivial⟩,trivial⟩,oop_k (hK1.nil F2) fun H4 f4=>?_⟩
  have F4:=F2.trans f4
  refine ⟨_,rfl,⟨⟨rdc F4,trivial⟩,⟨rdc F4,trivial⟩,trivial⟩,?_⟩
  rw [eoo]
  refine texts_k (hK1.nil F4) fun a l c G H5 ho f5 hG=>⟨_,_,_,rfl,⟨⟨rdc (F4.trans f5),trivial⟩,trivial⟩,num_k (hK1.nil (F4.trans f5)) fun H6 f6=>⟨_,rfl,trivial,?_⟩⟩
  rw [eown] at ho
  rw [enm,eln]
  exact fin _ HR.size a l c G ((F4.trans f5).trans f6) ((((hL.fr f2 (by simp)).fr f4 (by simp)).fr f5 (by simp)).fr f6 (by simp)) (Nat.le_refl _) (ho.fr f6 (by simp)) (fun x hx=>Nat.le_trans F4.1 (hG x hx)) fun hm=>by have:=hG _ hm;have:=((hL.fr f2 (by simp)).fr f4 (by simp)).lt;omega
theorem look_nil {o:Int} (h:∀ H',Fr [] H H'→Q (.tuple #[.agg #[.pointer none],.int .i64 2]) H'):callS PP n_k177 #[.pointer none,.int .i64 o] Q H:=by
 apply k177_ok
 unfold k177 A0 iV pV cS;dsimp only [shH]
 have hf:Fr [] H (H.push (.cells #[.pointer none] 131)):=Fr.push _ _ _
 have hB:=Blk.new H #[.pointer none] 131
 refine there_nil ⟨_,rfl,?_⟩
 simp only [Bool.not_false,cond_true]
 exact ⟨hB.wr (by simp),_,(hB.set 0 _).cell 0,h _ (Fr.late hf (Nat.le_refl _))⟩
theorem kinfo_nil {o:Int} (h:∀ H',Fr [] H H'→Q (.tuple #[.agg #[.string ⟨#[]⟩,.string ⟨#[]⟩,.slice none 0 0,.int .i64 0],.int .i64 2]) H'):callS PP n_k67 #[.pointer none,.int .i64 o] Q H:=by
 apply k67_ok
 unfold k67 A0 iV pV sV lV cS;dsimp only [shH]
 have hf0:Fr [] H (H.push (.cells #[.string (⟨#[]⟩:ByteArray),.string (⟨#[]⟩:ByteArray),.slice none 0 0,.int .i64 0] 121)):=Fr.push _ _ _
 have hR0:=Blk.new H #[.string (⟨#[]⟩:ByteArray),.string (⟨#[]⟩:ByteArray),.slice none 0 0,.int .i64 0] 121
 generalize (H.push (.cells #[.string (⟨#[]⟩:ByteArray),.string (⟨#[]⟩:ByteArray),.slice none 0 0,.int .i64 0] 121))=H0 at hf0 hR0 ⊢
 refine look_nil fun H1 hf1=>?_
 refine ⟨_,_,rfl,Wr_push.2 (by simp),?_⟩
 simp only [show ((2:Int) != 0)=true from rfl,cond_true]
 rw [locB]
 have hf2:Fr [] H1 (H1.push (.cells #[.pointer none] 131)):=Fr.push _ _ _
 have hR2:=(hR0.fr hf1 (by simp)).fr hf2 (by simp)
 obtain ⟨w0,w1,w2,w3,hB,hf⟩:=st4 hR2 (o:=0) (by simp) (.string ⟨#[]⟩) (.string ⟨#[]⟩) (.slice none 0 0) (.int .i64 0)
 refine ⟨w0,w1,w2,w3,_,hB.cell 0,_,hB.cell 1,_,_,_,hB.cell 2,_,hB.cell 3,h _ ?_⟩
 exact (Up.fresh ((hf0.trans hf1).trans hf2) (F:=[H.size]) (F':=[H.size]) ⟨hf,fun _ h=>.inl h⟩ (by simp)).1
theorem under_nil {o:Int} (h:∀ H',Fr [] H H'→Q (.slice none 0 0) H'):callS PP n_k72 #[.pointer none,.int .i64 o] Q H:=by
 apply k72_ok
 unfold k72 A0 iV wW pV lV cS;dsimp only [shH]
 refine look_nil fun H1 hf=>⟨_,_,rfl,Wr_push.2 (by simp),?_⟩
 simp only [show ((2:Int) != 0)=true from rfl,cond_true]
 rw [locB]
 exact h _ hf.more
end
theorem gB_get {s:ByteArray}{i:Nat} (h:i<s.size):s[i]?=some s[i]∧(s[i]).toNat=gB s i:=by
 have:s[i]?=some s[i]:=by simp [h]
 exact ⟨this,by rw [gB_some this]⟩
section
variable {H:Heap}{b:Nat}{F:Foot}{s:SP}{t:TB}{v:KV}{Q:QT}
theorem named_k {x:ByteArray}{lo up:Nat} (h:∀ H',Fr [] H H'→Q (.bool (decide (nameOk lo up x))) H'):callS PP n_k91 #[.string x,.int .u8 lo,.int .u8 up] Q H:=by
 apply k91_ok
 unfold k91 iV wW sV lV
 have no:¬ nameOk lo up x→∀ H',Fr [] H H'→Q (.bool false) H':=fun hn H' hf=>by have:=h H' hf;rw [decide_eq_false hn] at this;exact this
 rw [strEq_dec,cond_dec]
 refine ite_i (fun h1=>no (fun hn=>?_) _ (Fr.refl _ _)) fun h1=>?_
 ·have:=hn.1;rw [h1] at this;exact absurd this (by decide)
 have hpos:0<x.size:=by
  rcases Nat.eq_zero_or_pos x.size with h0 | h0
  ·exfalso;apply h1
   obtain ⟨d⟩:=x
   have:d=#[]:=Array.eq_empty_of_size_eq_zero h0
   rw [this]
  ·exact h0
 rw [cond_dec]
 refine ite_i (fun h2=>no (fun hn=>by have:=hn.2.1;omega) _ (Fr.refl _ _)) fun h2=>?_
 obtain ⟨g1,g2⟩:=gB_get hpos
 refine ⟨_,⟨Int.le_refl 0,g1⟩,?_⟩
 rw [g2,cond_dec]
 refine ite_i (fun h3=>no (fun hn=>by have:=hn.2.2.1;omega) _ (Fr.refl _ _)) fun h3=>⟨_,⟨Int.le_refl 0,g1⟩,?_⟩
 rw [g2,cond_dec]
 refine ite_i (fun h4=>no (fun hn=>by have:=hn.2.2.2.1;omega) _ (Fr.refl _ _)) fun h4=>?_
 refine evS_bytes (e:=5) (by kernel_rfl) (by kernel_rfl) (by kernel_rfl) fun cap H0 hf0 hcell=>⟨_,_,_,rfl,?_⟩
 refine ⟨fun w H'=>H'=H0∧∃ i:Nat,w=[.int .i64 i]∧i≤x.size∧∀ j,j<i→alnum (gB x j),fun w _=>match w with
  | [.int _ i]=>(x.size-i).toNat
  | _=>0,⟨rfl,0,rfl,Nat.zero_le _,fun j hj=>by omega⟩,?_⟩
 rintro w H1 ⟨rfl,i,rfl,hi,hall⟩ _
 refine ⟨_,rfl,?_⟩
 rw [cond_dec]
 refine ite_i (fun hlt=>?_) fun hlt=>?_
 ·have hlt':i<x.size:=by omega
  have e:IntKind.wrap .i64 ((i:Int)+1)=((i+1:Nat):Int):=by rw [wrap64_id (by omega) (by omega)];omega
  have hc:=hcell i hlt'
  have hgb:((x[i]?.getD 0).toNat:Int)=(gB x i:Int):=rfl
  rw [hgb] at hc
  refine ⟨⟨by omega,hlt⟩,_,rfl,_,by rw [Int.toNat_natCast,Nat.mul_one,add_none,Nat.zero_add];exact hc,?_⟩
  have go:alnum (gB x i)→(True∧∃ i_1:Nat,[Value.int .i64 (IntKind.wrap .i64 ((i:Int)+1))]=[.int .i64 i_1]∧i_1≤x.size∧∀ j,j<i_1→alnum (gB x j))∧((x.size:Int)-(IntKind.wrap .i64 ((i:Int)+1))).toNat<((x.size:Int)-(i:Int)).toNat:=fun ha=>by
   rw [e]
   refine ⟨⟨trivial,i+1,rfl,by omega,fun j hj=>?_⟩,by omega⟩
   rcases Nat.lt_or_ge j i with h5 | h5
   ·exact hall j h5
   ·have:j=i:=by omega
    rw [this];exact ha
  have bad:¬ alnum (gB x i)→Q (.bool false) H1:=fun ha=>no (fun hn=>ha (hn.2.2.2.2 i hlt')) _ hf0
  simp only [cond_dec]
  refine ite_i (fun c1=>ite_i (fun c2=>ite_i (fun c3=>bad (by unfold alnum;omega)) fun c3=>ite_i (fun c4=>bad (by unfold alnum;omega)) fun c4=>go (by unfold alnum;omega)) fun c2=>ite_i (fun c3=>ite_i (fun c4=>bad (by unfold alnum;omega)) fun c4=>ite_i (fun c5=>bad (by unfold alnum;omega)) fun c5=>go (by unfold alnum;omega)) fun c3=>go (by unfold alnum;omega)) fun c1=>ite_i (fun c2=>ite_i (fun c3=>ite_i (fun c4=>bad (by unfold alnum;omega)) fun c4=>ite_i (fun c5=>bad (by unfold alnum;omega)) fun c5=>go (by unfold alnum;omega)) fun c3=>ite_i (fun c4=>ite_i (fun c5=>bad (by unfold alnum;omega)) fun c5=>ite_i (fun c6=>bad (by unfold alnum;omega)) fun c6=>go (by unfold alnum;omega)) fun c4=>go (by unfold alnum;omega)) fun c2=>go (by unfold alnum;omega)
 ·have:i=x.size:=by omega
  subst this
  have:=h H1 hf0
  have hok:nameOk lo up x:=⟨hpos,by omega,by omega,by omega,hall⟩
  rw [decide_eq_true hok] at this
  exact this
theorem field_k {x:ByteArray} (h:∀ H',Fr [] H H'→Q (.bool (decide (fieldOk x))) H'):callS PP n_k203 #[.string x] Q H:=by
 apply k203_ok
 unfold k203 sV cS
 have no:¬ fieldOk x→Q (.bool false) H:=fun hn=>by have:=h H (Fr.refl _ _);rw [decide_eq_false hn] at this;exact this
 simp only [strEq_dec,cond_dec]
 refine ite_i (fun h1=>no fun hn=>hn.1 (.inl h1)) fun h1=>ite_i (fun h2=>no fun hn=>hn.1 (.inr (.inl h2))) fun h2=>ite_i (fun h3=>no fun hn=>hn.1 (.inr (.inr (.inl h3)))) fun h3=>ite_i (fun h4=>no fun hn=>hn.1 (.inr (.inr (.inr (.inl h4))))) fun h4=>ite_i (fun h5=>no fun hn=>hn.1 (.inr (.inr (.inr (.inr h5))))) fun h5=>?_
 refine named_k (lo:=97) (up:=122) fun H' hf=>⟨_,rfl,?_⟩
 have:=h H' hf
 have e:decide (fieldOk x)=decide (nameOk 97 122 x):=by
  rw [decide_eq_decide]
  unfold fieldOk resvd
  constructor
  ·exact fun h=>h.2
  ·exact fun hn=>⟨fun h=>by rcases h with h | h | h | h | h <;> contradiction,hn⟩
 rw [e] at this;exact this
theorem contains_k {a:Option Addr}{l c:Nat}{xs:List ByteArray}{x:ByteArray} (hk:Rd 1 H a l (strsV xs)) (hlk:l≤1000000000000000) (h:Q (.bool (decide (x∈xs))) H):callS PP n_k204 #[.slice a l c,.string x] Q H:=by
 have hl:l=xs.length:=by have:=hk.1;simpa [strsV] using this.symm
 apply k204_ok
 unfold k204 iV sV lV
 apply k259_ok
 unfold k259 iV wW sV
 refine ⟨fun w H'=>H'=H∧∃ i:Nat,w=[.int .i64 i]∧i≤l∧∀ j (hj:j<xs.length),j<i→xs[j]≠x,fun w _=>match w with
  | [.int _ i]=>(l-i).toNat
  | _=>0,⟨rfl,0,rfl,Nat.zero_le _,fun j _ hj=>by omega⟩,?_⟩
 rintro w H1 ⟨rfl,i,rfl,hi,hall⟩ _
 refine ⟨_,rfl,?_⟩
 rw [cond_dec]
 refine ite_i (fun hlt=>?_) fun hlt=>?_
 ·obtain ⟨p,hlt2,rfl,hcell⟩:=hk.str (i:=(i:Int)) (by omega) hlt
  simp only [Int.toNat_natCast] at hcell hlt2
  have e:IntKind.wrap .i64 ((i:Int)+1)=((i+1:Nat):Int):=by rw [wrap64_id (by omega) (by omega)];omega
  refine ⟨⟨by omega,hlt⟩,_,rfl,_,by rw [Int.toNat_natCast,Nat.mul_one];exact hcell,?_⟩
  rw [strEq_dec,cond_dec]
  refine ite_i (fun he=>⟨_,rfl,?_⟩) fun he=>?_
  ·rw [decide_eq_true (show x∈xs by rw [he];exact List.getElem_mem _)] at h
   rw [decide_eq_true (show (i:Int) ≥ 0 by omega)];exact h
  ·rw [e]
   refine ⟨⟨rfl,i+1,rfl,by omega,fun j hj hji=>?_⟩,by simp;omega⟩
   rcases Nat.lt_or_ge j i with h5 | h5
   ·exact hall j hj h5
   ·have:j=i:=by omega
    subst this;exact fun e=>he e.symm
 ·refine ⟨_,rfl,?_⟩
  have:x∉xs:=fun hm=>by
   obtain ⟨j,hj,he⟩:=List.getElem_of_mem hm
   exact hall j hj (by omega) he
  rw [decide_eq_false this] at h
  exact h
theorem taken_k (hK:PK H b F s t) (hv:KAll s t v){name:ByteArray} (h:∀ H',Fr [] H H'→Q (.bool (decide (takenK v t name))) H'):callS PP n_k92 #[.pointer (some ⟨b,0,none⟩),.string name] Q H:=by
 have hg:=hv.ks.shape.globs
 apply k92_ok
 unfold k92 iV pV sV lV cS
 refine kfind_k hK hv fun H1 hf1=>⟨_,_,rfl,?_⟩
 rw [beqI,cond_dec]
 refine ite_i (fun h1=>?_) fun h1=>?_
 ·have:=h H1 hf1
  rw [decide_eq_true (show takenK v t name from .inl h1)] at this
  exact this
 ·refine globals_k (hK.nil hf1) hv fun a l c G H2 ho hf2 hG=>⟨_,_,_,rfl,contains_k ho.rd ?_ ⟨_,rfl,?_⟩⟩
  ·have:=ho.len
   simp only [strsV,globsK,List.length_map] at this
   omega
  ·have:=h H2 (hf1.trans hf2)
   have e:decide (takenK v t name)=decide (name∈globsK v t):=by
    rw [decide_eq_decide];unfold takenK
    exact ⟨fun h=>h.resolve_left h1,.inr⟩
   rw [e] at this;exact this
theorem definable_k (hK:PK H b F s t) (hv:KAll s t v){name sup:ByteArray}{a:Option Addr}{l c:Nat}{own:List ByteArray} (hk:Rd 1 H a l (strsV own)) (hlc:l≤c) (hlk:l≤1000000000000000)
  (h:∀ H',Fr [] H H'→Q (.tuple #[.int .i64 (defK v t name sup own).1,.int .i64 (defK v t name sup own).2]) H'):callS PP n_k87 #[.pointer (some ⟨b,0,none⟩),.string name,.string sup,.slice a l c] Q H:=by
 have hm1:=hv.ks.shape.many1
 have hl:l=own.length:=by have:=hk.1;simpa [strsV] using this.symm
 apply k87_ok
 unfold k87 A0 iV wW pV sV lV cS;dsimp only [shH]
 unfold defK at h
 refine named_k (lo:=65) (up:=90) fun H1 hf1=>⟨_,rfl,?_⟩
 rw [←decide_not,cond_dec]
 refine ite_i (fun h1=>?_) fun h1=>?_
 ·rw [if_pos h1] at h;exact h H1 hf1
 rw [if_neg h1] at h
 refine taken_k (hK.nil hf1) hv fun H2 hf2=>⟨_,rfl,?_⟩
 have hF2:=hf1.trans hf2
 rw [cond_dec]
 refine ite_i (fun h2=>?_) fun h2=>?_
 ·rw [if_pos h2] at h;exact h H2 hF2
 rw [if_neg h2] at h
 refine kfind_k (hK.nil hF2) hv fun H3 hf3=>⟨_,_,rfl,?_⟩
 have hF3:=hF2.trans hf3
 rw [bneI,cond_dec]
 refine ite_i (fun h3=>?_) fun h3=>?_
 ·rw [if_pos h3] at h;exact h H3 hF3
 rw [if_neg h3] at h
 rcases findK_cases v t sup with ⟨e,_⟩ | ⟨j,hj,e,_⟩
 ·rw [e] at h3;simp at h3
 have hfl:=fields_len hv.ks j hj
 rw [e] at h ⊢
 simp only [hv.ks.idx hj] at h
 rw [locB]
 have hf4:Fr [] H3 (H3.push (.cells #[.pointer (some ⟨b,0,none⟩)] 131)):=Fr.push _ _ _
 have hB:=Blk.new H3 #[.pointer (some ⟨b,0,none⟩)] 131
 have hF4:=hF3.trans hf4
 generalize (H3.push (.cells #[.pointer (some ⟨b,0,none⟩)] 131))=H4 at hf4 hB hF4 ⊢
 have hW:Wr (H3.push (.cells #[.pointer none] 131)) ⟨H3.size,0,none⟩:=Wr_push.2 (by simp)
 refine ⟨hW,fun w H'=>w=[]∧Fr [] H4 H'∧¬ (1≤j∧j<14),⟨_,hB.cell 0,num_k (hK.nil hF4) fun H5 hf5=>⟨_,rfl,?_⟩⟩,?_⟩
 ·rw [hv.ks.num hj,cond_dec]
  refine ite_i (fun h4=>?_) fun h4=>⟨rfl,hf5,by omega⟩
  rw [cond_dec]
  refine ite_i (fun h5=>?_) fun h5=>⟨rfl,hf5,by omega⟩
  rw [if_pos (by omega)] at h
  exact h H5 (hF4.trans hf5)
 rintro w H5 ⟨rfl,hf5,h4⟩ _
 rw [if_neg h4] at h
 have hF5:=hF4.trans hf5
 refine ⟨rfl,_,(hB.fr hf5 (by simp)).cell 0,fields_k hv j (hK.nil hF5) hj fun a6 l6 c6 G H6 ho6 hf6 hG=>⟨_,_,_,rfl,?_⟩⟩
 have hF6:=hF5.trans hf6
 have hl6:l6=(fieldsK v j).length:=by have:=ho6.len;simpa [strsV] using this.symm
 refine ⟨fun w H'=>∃ i:Nat,w=[.int .i64 i]∧i≤l∧Fr [] H6 H'∧ownE ((fieldsK v j).map (tx t)) (own.take i) (own.drop i)=ownE ((fieldsK v j).map (tx t)) [] own,fun w _=>match w with
  | [.int _ i]=>(l-i).toNat
  | _=>0,⟨0,rfl,Nat.zero_le _,Fr.refl _ _,by simp⟩,?_⟩
 rintro w H7 ⟨i,rfl,hi,hf7,hown⟩ _
 have hF7:=hF6.trans hf7
 refine ⟨_,rfl,?_⟩
 rw [cond_dec]
 refine ite_i (fun hlt=>?_) fun hlt=>?_
 ·have hlt':i<own.length:=by omega
  obtain ⟨p,hlt2,rfl,hcell⟩:=(hk.fr' hF7 (by simp)).str (i:=(i:Int)) (by omega) hlt
  simp only [Int.toNat_natCast] at hcell hlt2
  have e1:IntKind.wrap .i64 ((i:Int)+1)=((i+1:Nat):Int):=by rw [wrap64_id (by omega) (by omega)];omega
  have ed:own.drop i=own[i] :: own.drop (i+1):=List.drop_eq_getElem_cons hlt'
  have et:own.take (i+1)=own.take i++[own[i]]:=by rw [List.take_add_one];simp [hlt']
  rw [ed] at hown
  rw [ownE] at hown
  refine ⟨⟨by omega,hlt⟩,_,rfl,_,by rw [Int.toNat_natCast,Nat.mul_one];exact hcell,field_k fun H8 hf8=>⟨_,rfl,?_⟩⟩
  rw [←decide_not,cond_dec]
  refine ite_i (fun h5=>?_) fun h5=>?_
  ·rw [if_pos h5] at hown
   rw [if_pos (by rw [←hown];decide),←hown] at h
   exact h H8 (hF7.trans hf8)
  rw [if_neg h5] at hown
  have hF8:=hF7.trans hf8
  refine ⟨⟨by omega,by omega⟩,contains_k (xs:=own.take i) ?_ (by simp;omega) ⟨_,rfl,?_⟩⟩
  ·have:=hk.fr' hF8 (by simp)
   refine ⟨by simp [strsV];omega,(fun hn=>by cases hn),fun q hq k hk'=>?_⟩
   rw [Int.toNat_natCast] at hk'
   have h6:=this.2.2 q hq k (by omega)
   rw [h6]
   simp only [strsV,List.getElem?_map]
   rw [List.getElem?_take_of_lt (by omega)]
  rw [cond_dec]
  refine ite_i (fun h6=>?_) fun h6=>?_
  ·rw [if_pos h6] at hown
   rw [if_pos (by rw [←hown];decide),←hown] at h
   exact h H8 hF8
  rw [if_neg h6] at hown
  refine contains_k ((ho6.fr hf7 (by simp)).fr hf8 (by simp)).rd (by omega) ⟨_,rfl,?_⟩
  rw [cond_dec]
  refine ite_i (fun h7=>?_) fun h7=>?_
  ·rw [if_pos h7] at hown
   rw [if_pos (by rw [←hown];decide),←hown] at h
   exact h H8 hF8
  rw [if_neg h7] at hown
  rw [e1]
  exact ⟨⟨i+1,rfl,by omega,hf7.trans hf8,by rw [et];exact hown⟩,by simp;omega⟩
 ·have hil:i=own.length:=by omega
  rw [hil,List.drop_length] at hown
  have h0:ownE ((fieldsK v j).map (tx t)) [] own=0:=by rw [←hown];rfl
  rw [if_neg (by rw [h0];decide)] at h
  have ew:IntKind.wrap .i64 ((l6:Int)+(l:Int))=(l6:Int)+l:=wrap64_id (by omega) (by omega)
  rw [ew,cond_dec]
  refine ite_i (fun h5=>?_) fun h5=>?_
  ·rw [if_pos (by omega)] at h;exact h H7 hF7
  rw [if_neg (by omega)] at h
  refine count_k (hK.nil hF7) hv fun H8 hf8=>⟨_,rfl,?_⟩
  rw [cond_dec]
  refine ite_i (fun h6=>?_) fun h6=>?_
  ·rw [if_pos (by omega)] at h;exact h H8 (hF7.trans hf8)
  rw [if_neg (by omega)] at h
  exact h H8 (hF7.trans hf8)
end
structure PM (H:Heap) (mb b:Nat) (F:Foot) (s:SP) (t:TB) (cnt mk kp:Int):Prop where
 k:PK H b F s t
 m:Blk H mb #[.pointer (some ⟨b,0,none⟩),.int .i64 cnt,.int .i64 mk,.int .i64 kp]
 out:mb∉F
theorem Up.out {F F':Foot}{H H':Heap} (h:Up F H F' H'){x:Nat} (hx:x∉F) (hl:x<H.size):x∉F':=fun hm=>by
 rcases h.2 x hm with h1 | h1
 ·exact hx h1
 ·omega
theorem PM.up {H H':Heap}{mb b:Nat}{F F':Foot}{s s':SP}{t t':TB}{cnt mk kp:Int} (h:PM H mb b F s t cnt mk kp) (hk:PK H' b F' s' t') (hu:Up F H F' H'):PM H' mb b F' s' t' cnt mk kp :=
 ⟨hk,h.m.fr hu.1 h.out,Up.out hu h.out h.m.lt⟩
theorem PM.nil {H H':Heap}{mb b:Nat}{F:Foot}{s:SP}{t:TB}{cnt mk kp:Int} (h:PM H mb b F s t cnt mk kp) (hf:Fr [] H H'):PM H' mb b F s t cnt mk kp:=⟨h.k.nil hf,h.m.fr hf (by simp),h.out⟩
theorem Up.of_nil {F:Foot}{H H':Heap} (h:Fr [] H H'):Up F H F H':=⟨Kw.Fr.of_nil h,fun _ h=>.inl h⟩
theorem put_fmt {r:RH} (k i w j:Int){y:RO} (h:objAt (r.put k i w).2.objs j=some y):∃ x,objAt r.objs j=some x∧y.fmt=x.fmt:=by
 unfold RH.put at h
 split at h
 ·exact ⟨y,h,rfl⟩
 split at h
 ·exact ⟨y,h,rfl⟩
 split at h
 ·exact ⟨y,h,rfl⟩
 ·simp only at h
  rw [objAt_updO (f:=setO i w) (fun o=>rfl)] at h
  cases hx:objAt r.objs j with
  | none=>rw [hx] at h;cases h
  | some x =>
   rw [hx] at h
   simp only [Option.map_some,Option.some.injEq] at h
   refine ⟨x,rfl,?_⟩
   rw [←h]
   split <;> rfl
section
variable {H:Heap}{mb b:Nat}{F:Foot}{s:SP}{t:TB}{v:KV}{cnt mk kp:Int}{Q:QT}
theorem msymbol_k (hM:PM H mb b F s t cnt mk kp){x:ByteArray} (h:∀ H' F',PM H' mb b F' s (t.add x).2 cnt mk kp→Up F H F' H'→Q (.tuple #[.int .i64 (if (t.add x).1.2=0 then 4*(t.add x).1.1+2 else 0),.int .i64 (t.add x).1.2]) H'):callS PP n_k93 #[.pointer (some ⟨mb,0,none⟩),.string x] Q H:=by
 apply k93_ok
 unfold k93 iV pV sV cS
 obtain ⟨tb,F2,hc,hT,hsub,hnb,hup,_⟩:=hM.k.tb
 refine ⟨_,rfl,_,hM.m.cell 0,_,rfl,_,hc,ptAdd_c hT fun H1 F1 hT1 hu1=>⟨_,_,rfl,?_⟩⟩
 obtain ⟨F',hK',hu'⟩:=hup H1 F1 _ hT1 hu1
 have hM':=hM.up hK' hu'
 rw [bneI,cond_dec]
 refine ite_i (fun h1=>?_) fun h1=>?_
 ·have:=h _ _ hM' hu'
  rw [if_neg h1] at this;exact this
 ·have hz:(t.add x).1.2=0:=Classical.byContradiction h1
  obtain ⟨n,e1,e2,_⟩:=add_ok x hz
  have hw:=hK'.wft
  have h2:=(tx_some e2).2
  have h3:=hw.m1
  have h4:=hw.len
  rw [e1]
  refine sym_c ⟨by omega,by omega⟩ ⟨_,_,rfl,?_⟩
  have:=h _ _ hM' hu'
  rw [if_pos hz,e1,hz] at this;exact this
theorem mmake_k (hM:PM H mb b F s t cnt mk kp){cls:Int} (hcls:1≤cls∧cls≤65536){a:Option Addr}{l c:Nat}{ws:List Int} (hk:Rd 1 H a l (intsV ws)) (hd:∀ p,a=some p→p.block∉F) (hlk:l≤1000000000)
  (h:∀ H' F',PM H' mb b F' (s.make cls ws).2 t cnt mk kp→Up F H F' H'→Q (.tuple #[.int .i64 (s.make cls ws).1.1,.int .i64 (s.make cls ws).1.2]) H'):callS PP n_k206 #[.pointer (some ⟨mb,0,none⟩),.int .i64 cls,.slice a l c] Q H:=by
 have hl:l=ws.length:=by have:=hk.1;simpa [intsV] using this.symm
 apply k206_ok
 unfold k206 A0 iV wW pV lV cS
 unfold SP.make at h
 obtain ⟨sb,F1,hc,hS,hsub,hnb,_,hup⟩:=hM.k.sp
 refine ⟨_,rfl,_,hM.m.cell 0,_,rfl,_,hc,object_c hcls ⟨_,rfl,⟨⟨hc,trivial⟩,⟨hM.m.cell 0,trivial⟩,trivial⟩,?_⟩⟩
 rw [hl]
 refine psAlloc_c hS fun H1 hS1 hf1=>⟨_,_,rfl,trivial,?_⟩
 have hfF:=hf1.mono hsub
 have hu':Up F H F H1:=⟨hfF,fun _ h=>.inl h⟩
 have hM':=hM.up (hup H1 _ hS1 hf1) hu'
 have hd':=hk.fr' hfF hd
 rw [bneI,cond_dec]
 refine ite_i (fun h1=>?_) fun h1=>?_
 ·rw [if_pos h1] at h;exact h _ _ hM' hu'
 rw [if_neg h1] at h
 have hz:(s.alloc (4*cls) ws.length 0).1.2=0:=Classical.byContradiction h1
 obtain ⟨o,e1,o1,o2,_,_,harr,_⟩:=salloc_ok hM.k.wfs hz
 rw [if_pos hz]
 rw [e1] at h ⊢
 have e2:4*o / 4=o:=by omega
 rw [e2] at h
 generalize (s.alloc (4*cls) ws.length 0).2=s1 at *
 have hk3:kindW (4*o)=3:=by have:=kind_cases (4*o);omega
 refine oop_c hM'.k.kinds ?_
 unfold ofW
 rw [if_pos hk3]
 simp only [e2]
 refine ⟨_,_,rfl,?_⟩
 refine ⟨fun w H'=>∃(i:Nat) (r:RH),w=[.int .i64 i]∧i≤ws.length∧PM H' mb b F { s1 with h:=r } t cnt mk kp∧Fr F H1 H'∧r.lay o i (ws.drop i)=s1.h.lay o 0 ws∧∀ x,objAt r.objs o=some x→x.fmt=0,fun w _=>match w with
  | [.int _ i]=>(ws.length-i).toNat
  | _=>0,⟨0,s1.h,rfl,Nat.zero_le _,hM',Fr.refl _ _,rfl,fun x hx=>by obtain ⟨y,h2,h3,_⟩:=harr;rw [h2] at hx;cases hx;exact h3⟩,?_⟩
 rintro w H4 ⟨i,r,rfl,hi,hM4,hf4,hlay,hfmt⟩ _
 refine ⟨_,rfl,?_⟩
 rw [cond_dec]
 refine ite_i (fun hlt=>?_) fun hlt=>?_
 ·obtain ⟨p,rfl,hcell,hlt2⟩:=(hd'.fr' hf4 hd).int (i:=(i:Int)) (by omega) (by omega)
  rw [Int.toNat_natCast] at hcell hlt2
  have hx:ws.getD i 0=ws[i]:=by simp [hlt2]
  rw [hx] at hcell
  have ed:ws.drop i=ws[i] :: ws.drop (i+1):=List.drop_eq_getElem_cons hlt2
  have e:IntKind.wrap .i64 ((i:Int)+1)=((i+1:Nat):Int):=by rw [wrap64_id (by omega) (by omega)];omega
  obtain ⟨sb4,F4,hc4,hS4,hsub4,_,_,hup4⟩:=hM4.k.sp
  refine ⟨⟨by omega,hlt⟩,_,rfl,_,by rw [Int.toNat_natCast,Nat.mul_one];exact hcell,_,rfl,_,hM4.m.cell 0,_,rfl,_,hc4,psHeap_c hS4 fun hb F5 hR hsub5 hup5=>⟨_,rfl,put_c hR hfmt fun H6 hR6 hf6=>⟨_,rfl,?_⟩⟩⟩
  have hS6:=hup5 H6 _ hR6 hf6
  have hK6:=hup4 H6 _ hS6 (hf6.mono hsub5)
  have hf6':Fr F H4 H6:=(hf6.mono hsub5).mono hsub4
  have hM6:=hM4.up hK6 ⟨hf6',fun _ h=>.inl h⟩
  rw [e]
  refine ⟨⟨i+1,(r.put o i ws[i]).2,rfl,by omega,hM6,hf4.trans hf6',?_,fun x hx=>?_⟩,by simp;omega⟩
  ·rw [←hlay,ed]
   simp only [RH.lay]
   congr 1
   all_goals omega
  ·obtain ⟨y,h2,h3⟩:=put_fmt o i ws[i] o hx
   rw [h3];exact hfmt y h2
 ·have hil:i=ws.length:=by omega
  subst hil
  rw [List.drop_length] at hlay
  simp only [RH.lay] at hlay
  rw [hlay] at hM4
  obtain ⟨sb4,F4,hc4,hS4,hsub4,_,hup4,_⟩:=hM4.k.sp
  refine ⟨_,rfl,_,hM4.m.cell 0,_,rfl,_,hc4,?_⟩
  have fp:Fr [] H4 (H4.push (.cells #[.int .i64 (4*o)] 36)):=Fr.push _ _ _
  have hM5:=hM4.nil fp
  obtain ⟨sb5,F5,hc5,hS5,hsub5,_,hup5,_⟩:=hM5.k.sp
  have hsb:sb5=sb4:=by
   have:cellH (H4.push (.cells #[.int .i64 (4*o)] 36)) ⟨b,0,none⟩=cellH H4 ⟨b,0,none⟩:=cellH_push_lt (hM4.k.lt b hM4.k.bmem)
   rw [this,hc4] at hc5
   simpa using hc5.symm
  subst hsb
  refine psKeep_c hS5 (ws:=[4*o]) ?_ (by omega) fun H7 F7 hS7 hu7=>⟨_,rfl,?_⟩
  ·refine ⟨rfl,(fun h=>by cases h),fun p hp k hk=>?_⟩
   cases hp
   have:k=0:=by omega
   subst this
   rw [add_none]
   exact (Blk.new H4 _ _).cell 0
  ·obtain ⟨F',hK7,hu7'⟩:=hup5 H7 F7 _ hS7 hu7
   have hM7:=hM5.up hK7 hu7'
   exact h H7 F' hM7 ((hu'.trans ⟨hf4,fun _ h=>.inl h⟩).trans ((Up.of_nil fp).trans hu7'))
theorem marray_k (hM:PM H mb b F s t cnt mk kp){a:Option Addr}{l c:Nat}{ws:List Int} (hk:Rd 1 H a l (intsV ws)) (hd:∀ p,a=some p→p.block∉F) (hlk:l≤1000000000)
  (h:∀ H' F',PM H' mb b F' (s.array ws).2 t cnt mk kp→Up F H F' H'→Q (.tuple #[.int .i64 (s.array ws).1.1,.int .i64 (s.array ws).1.2]) H'):callS PP n_k94 #[.pointer (some ⟨mb,0,none⟩),.slice a l c] Q H:=by
 have hl:l=ws.length:=by have:=hk.1;simpa [intsV] using this.symm
 apply k94_ok
 unfold k94 iV pV lV cS
 unfold SP.array at h
 rw [beqI,cond_dec]
 refine ite_i (fun h0=>?_) fun h0=>?_
 ·have:ws=[]:=List.eq_nil_of_length_eq_zero (by omega)
  rw [if_pos this] at h
  exact object_c (by decide) ⟨_,rfl,h H F hM (Up.refl _ _)⟩
 ·have:ws≠[]:=fun e=>h0 (by rw [hl,e];rfl)
  rw [if_neg this] at h
  exact mmake_k hM (by decide) hk hd hlk fun H' F' hM' hu=>⟨_,_,rfl,h H' F' hM' hu⟩
end
def Out (H:Heap) (a:Option Addr) (F:Foot):Prop:=∀ p,a=some p→p.block<H.size∧p.block∉F
theorem Out.up {H H':Heap}{a:Option Addr}{F F':Foot} (h:Out H a F) (hu:Up F H F' H'):Out H' a F':=fun p hp=>⟨Nat.lt_of_lt_of_le (h p hp).1 hu.1.1,Up.out hu (h p hp).2 (h p hp).1⟩
theorem Out.rd {H H':Heap}{a:Option Addr}{F F':Foot}{l:Nat}{ys:List Value} (h:Out H a F) (hu:Up F H F' H') (hk:Rd 1 H a l ys):Rd 1 H' a l ys:=hk.fr' hu.1 fun p hp=>(h p hp).2
def Outs (H:Heap) (a:Option Addr) (l:Nat) (F:Foot):Prop:=l=0∨Out H a F
theorem Outs.up {H H':Heap}{a:Option Addr}{l:Nat}{F F':Foot} (h:Outs H a l F) (hu:Up F H F' H'):Outs H' a l F':=h.imp id fun h=>h.up hu
theorem Outs.rd {H H':Heap}{a:Option Addr}{F F':Foot}{l:Nat}{ys:List Value} (h:Outs H a l F) (hu:Up F H F' H') (hk:Rd 1 H a l ys):Rd 1 H' a l ys:=by
 rcases h with h | h
 ·subst h
  exact ⟨hk.1,hk.2.1,fun p _ i hi=>by simp at hi⟩
 ·exact h.rd hu hk
theorem Own.out {H:Heap}{a:Option Addr}{l c:Nat}{xs:List Value}{F G:Foot} (h:Own 1 H a l c xs G) (hd:Disj G F):Out H a F:=fun p hp=>by
 have hlt:=h.lt
 rcases h.2.2 with ⟨h1,_⟩ | ⟨b',cs,h1,rfl,_⟩
 ·rw [h1] at hp;cases hp
 ·rw [h1] at hp;cases hp
  exact ⟨hlt _ (by simp),hd _ (by simp)⟩
theorem cell_fr {F:Foot}{H H':Heap}{b o:Nat} (hf:Fr F H H') (hb:b∉F) (hl:b<H.size):cellH H' ⟨b,o,none⟩=cellH H ⟨b,o,none⟩:=by
 unfold cellH;rw [hf.2 b hl hb]
theorem rd_new {H:Heap}{cs:List Int}{t:TypeId}:Rd 1 (H.push (.cells (intsV cs).toArray t)) (some ⟨H.size,0,none⟩) cs.length (intsV cs):=by
 refine ⟨by simp [intsV],(fun h=>by cases h),fun p hp k hk=>?_⟩
 cases hp
 rw [add_none,Nat.zero_add,(Blk.new H _ _).cell]
 simp
section
variable {H:Heap}{mb b:Nat}{F:Foot}{s:SP}{t:TB}{v:KV}{cnt mk kp:Int}{Q:QT}
theorem begin_k (hK:PK H b F s t) (h:∀ H' mb,PM H' mb b F s t t.texts.length s.h.mark s.stack.length→Fr [] H H'→Q (.pointer (some ⟨mb,0,none⟩)) H'):callS PP n_k88 #[.pointer (some ⟨b,0,none⟩)] Q H:=by
 apply k88_ok
 unfold k88 A0 iV pV lV cS
 obtain ⟨tb,F2,hc2,hT,_⟩:=hK.tb
 obtain ⟨sb,F1,hc,hS,_⟩:=hK.sp
 refine ⟨_,rfl,_,hc2,_,rfl,_,hc,_,rfl,_,hc,ptCount_c hT ⟨_,rfl,⟨⟨hc,trivial⟩,⟨hc,trivial⟩,trivial⟩,psHeap_c hS fun hb F3 hR _ _=>⟨_,rfl,⟨⟨hc,trivial⟩,trivial⟩,hmarked_c hR ⟨_,rfl,⟨⟨hc,trivial⟩,trivial⟩,?_⟩⟩⟩⟩
 refine psKept_c hS fun a c H1 _ hf=>⟨_,_,_,rfl,trivial,trivial,?_⟩
 have hf2:=hf.more (o:=.cells #[.pointer (some ⟨b,0,none⟩),.int .i64 (t.texts.length:Int),.int .i64 s.h.mark,.int .i64 (s.stack.length:Int)] 146)
 refine h _ H1.size ⟨hK.nil hf2,Blk.new _ _ _,fun hm=>?_⟩ hf2
 have:=(hK.nil hf).lt _ hm
 omega
theorem end_k (hM:PM H mb b F s t cnt mk kp) (hkp:0≤kp∧kp≤1000000){e:Int} (h:∀ H',PK H' b F (kEnd s t mk cnt kp e).1 (kEnd s t mk cnt kp e).2→Fr F H H'→Q (.int .i64 e) H'):callS PP n_k90 #[.pointer (some ⟨mb,0,none⟩),.int .i64 e] Q H:=by
 have hmany:=hM.k.wfs.many
 apply k90_ok
 unfold k90 iV wW pV lV cS
 unfold kEnd at h
 obtain ⟨sb,F1,hc,hS,hsub,hbF1,_,hup⟩:=hM.k.sp
 refine ⟨_,rfl,_,hM.m.cell 0,_,rfl,_,hc,_,rfl,_,hM.m.cell 3,psKept_c hS fun a c H1 _ hf=>⟨_,_,_,rfl,⟨⟨(hM.m.fr hf (by simp)).cell 3,trivial⟩,trivial⟩,?_⟩⟩
 have ew:IntKind.wrap .i64 ((s.stack.length:Int)-kp)=(s.stack.length:Int)-kp:=wrap64_id (by omega) (by omega)
 rw [ew]
 refine psDrop_c (hS.nilfr hf) ⟨by omega,by omega⟩ fun H2 hS2 hf2=>⟨_,rfl,trivial,?_⟩
 have hf12:Fr F1 H H2:=hf.of_nil.trans hf2
 have hfF:Fr F H H2:=hf12.mono hsub
 have hM2:=hM.up (hup H2 _ hS2 hf12) ⟨hfF,fun _ h=>.inl h⟩
 rw [beqI,cond_dec]
 refine ite_i (fun h1=>?_) fun h1=>?_
 ·rw [if_pos h1] at h;exact h H2 hM2.k hfF
 rw [if_neg h1] at h
 obtain ⟨tb,F3,hc3,hT,hsub3,hbF3,_,hup3⟩:=hM2.k.tb
 refine ⟨_,rfl,_,hM2.m.cell 0,_,rfl,_,hc3,_,rfl,_,hM2.m.cell 1,ptBack_c hT fun H3 hT3 hf3=>⟨_,rfl,trivial,?_⟩⟩
 have hf3':Fr F H2 H3:=hf3.mono hsub3
 have hM3:=hM2.up (hup3 H3 _ hT3 hf3) ⟨hf3',fun _ h=>.inl h⟩
 rw [bneI,cond_dec]
 refine ite_i (fun h2=>?_) fun h2=>?_
 ·rw [if_neg h2] at h
  obtain ⟨sb4,F4,hc4,hS4,hsub4,_,_,hup4⟩:=hM3.k.sp
  have hsb:sb4=sb:=by
   have hbl:=hM.k.lt b hM.k.bmem
   have e1:cellH H3 ⟨b,0,none⟩=some (.pointer (some ⟨sb,0,none⟩)):=by
    rw [cell_fr hf3 hbF3 (Nat.lt_of_lt_of_le hbl hf12.1),cell_fr hf12 hbF1 hbl,hc]
   rw [hc4] at e1;simpa using e1
  subst hsb
  refine ⟨_,rfl,_,hM3.m.cell 2,psHeap_c hS4 fun hb F5 hR hsub5 hup5=>⟨_,rfl,⟨⟨hM3.m.cell 2,trivial⟩,trivial⟩,mark_c hR fun H5 hR5 hf5=>⟨_,rfl,trivial,?_⟩⟩⟩
  have hS5:=hup5 H5 _ hR5 hf5
  have hK5:=hup4 H5 _ hS5 (hf5.mono hsub5)
  have:=h H5 ?_ ((hfF.trans hf3').trans ((hf5.mono hsub5).mono hsub4))
  ·exact this
  ·have ed:(s.drop ((s.stack.length:Int)-kp)).2.h=s.h:=by unfold SP.drop;split <;> rfl
   simp only [ed] at hK5
   exact hK5
 ·have h24:e=24:=Classical.byContradiction h2
  rw [if_pos h24] at h
  refine h H3 ?_ (hfF.trans hf3')
  have ed:(s.drop ((s.stack.length:Int)-kp)).2.h=s.h:=by unfold SP.drop;split <;> rfl
  have hK3:=hM3.k
  generalize (s.drop ((s.stack.length:Int)-kp)).2=s' at *
  cases s'
  simp only at ed
  subst ed
  exact hK3
theorem KS.words {s:SP}{v:KV} (h:KS s v):kwords s.h v.clsA=v.clsW:=h.view.all.kwords
theorem mappend_k {H0:Heap} (hM:PM H0 mb b F s t cnt mk kp) (hf:Fr [] H0 H){a a2:Option Addr}{l c c2 l2:Nat}{G:Foot}{ws xs:List Int}{Q:QT} (ho:Own 1 H a l c (intsV ws) G) (hG:∀ x∈G,H0.size≤x) (hws:ws.length≤8192) (h2:Rd 1 H a2 l2 (intsV xs)) (hxs:l2≤8192)
  (h:∀ H' F',PM H' mb b F' (s.array (ws++xs)).2 t cnt mk kp→Up F H0 F' H'→Q (.tuple #[.int .i64 (s.array (ws++xs)).1.1,.int .i64 (s.array (ws++xs)).1.2]) H') :
  evS PP (Builtin.append_ #[108,108] 108 #[.slice a l c,.slice a2 l2 c2]) (fun v H'=>∃ a3:Option Addr,∃ l3:Nat,∃ c3:Nat,v=.slice a3 l3 c3∧True∧callS PP n_k94 #[.pointer (some ⟨mb,0,none⟩),.slice a3 l3 c3] Q H') H:=by
 have hs1:sliceInfo PP 108=some (1,8,some (.int .i64 0)):=by kernel_rfl
 have hl:l=ws.length:=by have:=ho.len;simpa [intsV] using this.symm
 have hlt:=hM.k.lt
 refine evS_append hs1 rfl (by kernel_rfl) ho h2 intsV_one (by omega) (by decide) (by decide) fun a' c' G' H' g1 g2 g3=>⟨_,_,_,rfl,trivial,?_⟩
 obtain ⟨hf',hG'⟩:=Up.fresh hf g2 hG
 have ho':Out H' a' F:=Own.out g1 fun x hx hm=>by have:=hG' x hx;have:=hlt x hm;omega
 rw [←intsV_append] at g1
 exact marray_k (hM.nil hf') g1.rd (fun p hp=>(ho' p hp).2) (by omega) fun H2 F' hM2 hu=>h H2 F' hM2 ((Up.of_nil hf').trans hu)
theorem mdefine3_k (hM:PM H mb b F s t cnt mk kp) (hk:KS s v){c:Int} (hc:1≤c∧c≤65536) (hst:s.stack.length<65000)
  (h:∀ H' F',PM H' mb b F' (kDef3 s t v.clsW (4*c)).2.1 t cnt mk kp→Up F H F' H'→Q (.tuple #[.int .i64 (kDef3 s t v.clsW (4*c)).1.1,.int .i64 (kDef3 s t v.clsW (4*c)).1.2]) H') :
  ∃ J37:List Value→Heap→Prop,(∃ q38,(some ⟨mb,0,none⟩:Option Addr)=some q38∧∃ p39:Option Addr,cellH H q38=some (.pointer p39)∧∃ q40,(some ⟨mb,0,none⟩:Option Addr)=some q40∧∃ p41:Option Addr,cellH H q40=some (.pointer p41)∧(callS PP 74 #[.agg #[.pointer p41],.int .i64 0] (fun v42 H12=>∃ n43:Int,v42=.int .i64 n43∧((cellH H12 q38=some (.pointer p39)∧True)∧True)∧(callS PP 95 #[.agg #[.pointer p39],.int .i64 n43] (fun v44 H13=>∃ a45:Option Addr,∃ l45:Nat,∃ c45:Nat,v44=.slice a45 l45 c45∧True∧True∧evS PP (Builtin.append_ #[108,108] 108 #[.slice a45 l45 c45,.slice (some (⟨H13.size,0,none⟩:Addr)) 1 1]) (fun v46 H14=>∃ a47:Option Addr,∃ l47:Nat,∃ c47:Nat,v46=.slice a47 l47 c47∧True∧callS PP 94 #[.pointer (some ⟨mb,0,none⟩:Option Addr),.slice a47 l47 c47] (fun v48 H15=>∃ n49:Int,∃ n50:Int,v48=.tuple #[.int .i64 n49,.int .i64 n50]∧True∧J37 [.int .i64 n50,.int .i64 n49] H15) H14) (H13.push (.cells #[.int .i64 (4*c)] 36))) H12)∧(((cellH (H12.push (.cells #[.int .i64 (4*c)] 36)) q38=some (.pointer p39)∧True)∧True)∧callS PP 95 #[.agg #[.pointer p39],.int .i64 n43] (fun v51 H16=>∃ a52:Option Addr,∃ l52:Nat,∃ c52:Nat,v51=.slice a52 l52 c52∧True∧evS PP (Builtin.append_ #[108,108] 108 #[.slice a52 l52 c52,.slice (some (⟨H12.size,0,none⟩:Addr)) 1 1]) (fun v53 H17=>∃ a54:Option Addr,∃ l54:Nat,∃ c54:Nat,v53=.slice a54 l54 c54∧True∧callS PP 94 #[.pointer (some ⟨mb,0,none⟩:Option Addr),.slice a54 l54 c54] (fun v55 H18=>∃ n56:Int,∃ n57:Int,v55=.tuple #[.int .i64 n56,.int .i64 n57]∧True∧J37 [.int .i64 n57,.int .i64 n56] H18) H17) H16) (H12.push (.cells #[.int .i64 (4*c)] 36)))) H)∧(((cellH (H.push (.cells #[.int .i64 (4*c)] 36)) q40=some (.pointer p41)∧True)∧((cellH (H.push (.cells #[.int .i64 (4*c)] 36)) q38=some (.pointer p39)∧True)∧True))∧callS PP 74 #[.agg #[.pointer p41],.int .i64 0] (fun v58 H19=>∃ n59:Int,v58=.int .i64 n59∧((cellH H19 q38=some (.pointer p39)∧True)∧True)∧callS PP 95 #[.agg #[.pointer p39],.int .i64 n59] (fun v60 H20=>∃ a61:Option Addr,∃ l61:Nat,∃ c61:Nat,v60=.slice a61 l61 c61∧True∧evS PP (Builtin.append_ #[108,108] 108 #[.slice a61 l61 c61,.slice (some (⟨H.size,0,none⟩:Addr)) 1 1]) (fun v62 H21=>∃ a63:Option Addr,∃ l63:Nat,∃ c63:Nat,v62=.slice a63 l63 c63∧True∧callS PP 94 #[.pointer (some ⟨mb,0,none⟩:Option Addr),.slice a63 l63 c63] (fun v64 H22=>∃ n65:Int,∃ n66:Int,v64=.tuple #[.int .i64 n65,.int .i64 n66]∧True∧J37 [.int .i64 n66,.int .i64 n65] H22) H21) H20) H19) (H.push (.cells #[.int .i64 (4*c)] 36))))∧∀ w67 H23,J37 w67 H23→∀ _g:Nat→Value,∃ n68:Int,∃ n69:Int,w67=[.int .i64 n68,.int .i64 n69]∧cond (n68 != 0) (Q (.tuple #[.int .i64 0,.int .i64 n68]) H23) (∃ q70,(some ⟨mb,0,none⟩:Option Addr)=some q70∧∃ p71:Option Addr,cellH H23 q70=some (.pointer p71)∧∃ q72,p71=some q72∧∃ p73:Option Addr,cellH H23 q72=some (.pointer p73)∧callS PP 96 #[.pointer p73,.int .i64 0,.int .i64 n69] (fun v74 H24=>∃ n75:Int,v74=.int .i64 n75∧callS PP 183 #[.int .i64 (4*c)] (fun v76 H25=>∃ n77:Int,∃ n78:Int,v76=.tuple #[.int .i64 n77,.int .i64 n78]∧Q (.tuple #[.int .i64 n77,.int .i64 n78]) H25) H24) H23):=by
 have hm1:=hk.shape.many1
 have hcw:v.clsW.length≤8192:=by simp [KV.clsW];omega
 have hws:∀ w∈v.clsW++[4*c],isW w:=fun w hw=>by
  rcases List.mem_append.1 hw with hw | hw
  ·exact clsW_words hk w hw
  ·simp only [List.mem_singleton] at hw;rw [hw];exact isW_obj hc.1 hc.2
 obtain ⟨h1,h2,⟨m,h3,h3'⟩,h4⟩:=array_ok hk (by omega) hws
 refine ⟨fun w H'=>∃ F',w=[.int .i64 (s.array (v.clsW++[4*c])).1.2,.int .i64 (s.array (v.clsW++[4*c])).1.1]∧PM H' mb b F' (s.array (v.clsW++[4*c])).2 t cnt mk kp∧Up F H F' H',?_,?_⟩
 ·have hB:=hM.m
  have mc:∀ {H':Heap},Fr [] H H'→cellH H' ⟨mb,0,none⟩=some (.pointer (some ⟨b,0,none⟩)):=fun hf=>(hB.fr hf (by simp)).cell 0
  have one:∀ {H':Heap},Rd 1 (H'.push (.cells #[.int .i64 (4*c)] 36)) (some ⟨H'.size,0,none⟩) 1 (intsV [4*c]):=fun {H'}=>rd_new (H:=H') (cs:=[4*c])
  refine ⟨_,rfl,_,hB.cell 0,_,rfl,_,hB.cell 0,?_,?_⟩
  ·refine root_k hM.k fun H12 f12=>⟨_,rfl,⟨⟨mc f12,trivial⟩,trivial⟩,?_,?_⟩
   ·rw [hk.root0]
    refine words_k (hM.k.nil f12) fun a l cc G H13 ho f13 hG=>⟨_,_,_,rfl,trivial,trivial,?_⟩
    rw [KS.words hk] at ho
    have fp:=(Fr.push [] H13 (.cells #[.int .i64 (4*c)] 36))
    refine mappend_k hM ((f12.trans f13).trans fp) (ho.fr fp (by simp)) (fun x hx=>Nat.le_trans f12.1 (hG x hx)) hcw one (by decide) fun H' F' hM' hu=>⟨_,_,rfl,trivial,F',rfl,hM',hu⟩
   ·have fp:=(Fr.push [] H12 (.cells #[.int .i64 (4*c)] 36))
    refine ⟨⟨⟨mc (f12.trans fp),trivial⟩,trivial⟩,?_⟩
    rw [hk.root0]
    refine words_k (hM.k.nil (f12.trans fp)) fun a l cc G H13 ho f13 hG=>⟨_,_,_,rfl,trivial,?_⟩
    rw [KS.words hk] at ho
    refine mappend_k hM ((f12.trans fp).trans f13) ho (fun x hx=>Nat.le_trans (f12.trans fp).1 (hG x hx)) hcw (one.fr' f13 (by simp)) (by decide) fun H' F' hM' hu=>⟨_,_,rfl,trivial,F',rfl,hM',hu⟩
  ·have fp:=(Fr.push [] H (.cells #[.int .i64 (4*c)] 36))
   refine ⟨⟨⟨mc fp,trivial⟩,⟨mc fp,trivial⟩,trivial⟩,?_⟩
   refine root_k (hM.k.nil fp) fun H12 f12=>⟨_,rfl,⟨⟨mc (fp.trans f12),trivial⟩,trivial⟩,?_⟩
   rw [hk.root0]
   refine words_k (hM.k.nil (fp.trans f12)) fun a l cc G H13 ho f13 hG=>⟨_,_,_,rfl,trivial,?_⟩
   rw [KS.words hk] at ho
   refine mappend_k hM ((fp.trans f12).trans f13) ho (fun x hx=>Nat.le_trans (fp.trans f12).1 (hG x hx)) hcw (one.fr' (f12.trans f13) (by simp)) (by decide) fun H' F' hM' hu=>⟨_,_,rfl,trivial,F',rfl,hM',hu⟩
 ·rintro w H23 ⟨F',rfl,hM',hu⟩ _
  unfold kDef3 at h
  refine ⟨_,_,rfl,?_⟩
  rw [bneI,cond_dec]
  refine ite_i (fun he=>?_) fun he=>?_
  ·rw [if_pos he] at h;exact h _ _ hM' hu
  rw [if_neg he] at h
  obtain ⟨sb,F1,hcs,hS,hsub,_,_,hup⟩:=hM'.k.sp
  refine ⟨_,rfl,_,hM'.m.cell 0,_,rfl,_,hcs,psSetRoot_c hS (fun o ho=>?_) fun H4 hS4 hf4=>⟨_,rfl,?_⟩⟩
  ·obtain ⟨x,hx1,hx2,_⟩:=h1.view.root
   rw [h1.king] at ho
   rw [hx1] at ho;cases ho;exact hx2
  have hK4:=hup H4 _ hS4 hf4
  have hu4:Up F' H23 F' H4:=⟨hf4.mono hsub,fun _ h=>.inl h⟩
  have hM4:=hM'.up hK4 hu4
  refine oop_c hM4.k.kinds ?_
  unfold ofW
  rw [if_pos (show kindW (4*c)=3 by have:=kind_cases (4*c);omega)]
  exact ⟨_,_,rfl,h _ _ hM4 (hu.trans hu4)⟩
theorem mdefine2_k (hM:PM H mb b F s t cnt mk kp) (hk:KS s v){n up l:Int} (hn:isW n) (hup:1≤up∧up≤65536) (hl:isW l) (hst:s.stack.length<64000){n27 n31:Int} (e27:n27=72) (e31:n31=1)
  {n29:Int} (e29:n29=4*up){n33:Int} (e33:n33=2*((v.cls.length:Int)+1)+1)
  (h:∀ H' F',PM H' mb b F' (kDef2 s t v.clsW n up l).2.1 t cnt mk kp→Up F H F' H'→Q (.tuple #[.int .i64 (kDef2 s t v.clsW n up l).1.1,.int .i64 (kDef2 s t v.clsW n up l).1.2]) H') :
  callS PP 206 #[.pointer (some ⟨mb,0,none⟩:Option Addr),.int .i64 12,.slice (some (⟨H.size,0,none⟩:Addr)) 7 7] (fun v34 H11=>∃ n35:Int,∃ n36:Int,v34=.tuple #[.int .i64 n35,.int .i64 n36]∧cond (n36 != 0) (Q (.tuple #[.int .i64 0,.int .i64 n36]) H11) (∃ J37:List Value→Heap→Prop,(∃ q38,(some ⟨mb,0,none⟩:Option Addr)=some q38∧∃ p39:Option Addr,cellH H11 q38=some (.pointer p39)∧∃ q40,(some ⟨mb,0,none⟩:Option Addr)=some q40∧∃ p41:Option Addr,cellH H11 q40=some (.pointer p41)∧(callS PP 74 #[.agg #[.pointer p41],.int .i64 0] (fun v42 H12=>∃ n43:Int,v42=.int .i64 n43∧((cellH H12 q38=some (.pointer p39)∧True)∧True)∧(callS PP 95 #[.agg #[.pointer p39],.int .i64 n43] (fun v44 H13=>∃ a45:Option Addr,∃ l45:Nat,∃ c45:Nat,v44=.slice a45 l45 c45∧True∧True∧evS PP (Builtin.append_ #[108,108] 108 #[.slice a45 l45 c45,.slice (some (⟨H13.size,0,none⟩:Addr)) 1 1]) (fun v46 H14=>∃ a47:Option Addr,∃ l47:Nat,∃ c47:Nat,v46=.slice a47 l47 c47∧True∧callS PP 94 #[.pointer (some ⟨mb,0,none⟩:Option Addr),.slice a47 l47 c47] (fun v48 H15=>∃ n49:Int,∃ n50:Int,v48=.tuple #[.int .i64 n49,.int .i64 n50]∧True∧J37 [.int .i64 n50,.int .i64 n49] H15) H14) (H13.push (.cells #[.int .i64 n35] 36))) H12)∧(((cellH (H12.push (.cells #[.int .i64 n35] 36)) q38=some (.pointer p39)∧True)∧True)∧callS PP 95 #[.agg #[.pointer p39],.int .i64 n43] (fun v51 H16=>∃ a52:Option Addr,∃ l52:Nat,∃ c52:Nat,v51=.slice a52 l52 c52∧True∧evS PP (Builtin.append_ #[108,108] 108 #[.slice a52 l52 c52,.slice (some (⟨H12.size,0,none⟩:Addr)) 1 1]) (fun v53 H17=>∃ a54:Option Addr,∃ l54:Nat,∃ c54:Nat,v53=.slice a54 l54 c54∧True∧callS PP 94 #[.pointer (some ⟨mb,0,none⟩:Option Addr),.slice a54 l54 c54] (fun v55 H18=>∃ n56:Int,∃ n57:Int,v55=.tuple #[.int .i64 n56,.int .i64 n57]∧True∧J37 [.int .i64 n57,.int .i64 n56] H18) H17) H16) (H12.push (.cells #[.int .i64 n35] 36)))) H11)∧(((cellH (H11.push (.cells #[.int .i64 n35] 36)) q40=some (.pointer p41)∧True)∧((cellH (H11.push (.cells #[.int .i64 n35] 36)) q38=some (.pointer p39)∧True)∧True))∧callS PP 74 #[.agg #[.pointer p41],.int .i64 0] (fun v58 H19=>∃ n59:Int,v58=.int .i64 n59∧((cellH H19 q38=some (.pointer p39)∧True)∧True)∧callS PP 95 #[.agg #[.pointer p39],.int .i64 n59] (fun v60 H20=>∃ a61:Option Addr,∃ l61:Nat,∃ c61:Nat,v60=.slice a61 l61 c61∧True∧evS PP (Builtin.append_ #[108,108] 108 #[.slice a61 l61 c61,.slice (some (⟨H11.size,0,none⟩:Addr)) 1 1]) (fun v62 H21=>∃ a63:Option Addr,∃ l63:Nat,∃ c63:Nat,v62=.slice a63 l63 c63∧True∧callS PP 94 #[.pointer (some ⟨mb,0,none⟩:Option Addr),.slice a63 l63 c63] (fun v64 H22=>∃ n5:Int,∃ n6:Int,v64=.tuple #[.int .i64 n5,.int .i64 n6]∧True∧J37 [.int .i64 n6,.int .i64 n5] H22) H21) H20) H19) (H11.push (.cells #[.int .i64 n35] 36))))∧∀ w67 H23,J37 w67 H23→∀ _g:Nat→Value,∃ n8:Int,∃ n9:Int,w67=[.int .i64 n8,.int .i64 n9]∧cond (n8 != 0) (Q (.tuple #[.int .i64 0,.int .i64 n8]) H23) (∃ q70,(some ⟨mb,0,none⟩:Option Addr)=some q70∧∃ p71:Option Addr,cellH H23 q70=some (.pointer p71)∧∃ q72,p71=some q72∧∃ p73:Option Addr,cellH H23 q72=some (.pointer p73)∧callS PP 96 #[.pointer p73,.int .i64 0,.int .i64 n9] (fun v74 H24=>∃ n75:Int,v74=.int .i64 n75∧callS PP 183 #[.int .i64 n35] (fun v76 H25=>∃ n77:Int,∃ n78:Int,v76=.tuple #[.int .i64 n77,.int .i64 n78]∧Q (.tuple #[.int .i64 n77,.int .i64 n78]) H25) H24) H23))) (H.push (.cells #[.int .i64 n,.int .i64 n29,.int .i64 l,.int .i64 n27,.int .i64 n27,.int .i64 n31,.int .i64 n33] 36)):=by
 have hm1:=hk.shape.many1
 have hcw:v.clsW.length=v.cls.length:=by simp [KV.clsW]
 subst e27 e31 e29 e33
 have hws:=clsSlots_words (n:=n) (up:=up) (l:=l) (k:=v.clsW.length) hn (isW_obj hup.1 hup.2) hl (by omega)
 obtain ⟨b1,b2,b3,b4⟩:=make_ok hk (by omega) (cls:=12) (by decide) hws
 have fp:=(Fr.push [] H (.cells (intsV (clsSlots n up l v.clsW.length)).toArray 36))
 have hlt:=hM.k.lt
 rw [←hcw]
 unfold kDef2 at h
 refine mmake_k (s:=s) (ws:=clsSlots n up l v.clsW.length) (hM.nil fp) (by decide) rd_new (fun p hp hm=>?_) (by decide) fun H' F' hM' hu=>⟨_,_,rfl,?_⟩
 ·cases hp
  exact absurd (hlt _ hm) (Nat.lt_irrefl _)
 rw [bneI,cond_dec]
 have hu':=(Up.of_nil fp).trans hu
 refine ite_i (fun he=>?_) fun he=>?_
 ·rw [if_pos he] at h
  have:=h _ _ hM' hu'
  have hz:=(b3 he).2
  exact this
 rw [if_neg he] at h
 have hz:(s.make 12 (clsSlots n up l v.clsW.length)).1.2=0:=Classical.byContradiction he
 obtain ⟨c,ec,est,c1,c2,_⟩:=b4 hz
 rw [ec] at h ⊢
 exact mdefine3_k hM' b1 ⟨c1,c2⟩ (by rw [est,List.length_append];simp;omega) fun H2 F2 hM2 hu2=>h H2 F2 hM2 (hu'.trans hu2)
theorem kDef2_t (s:SP) (t:TB) (cw:List Int) (n up l:Int):(kDef2 s t cw n up l).2.2=t:=by
 unfold kDef2
 split
 ·rfl
 ·unfold kDef3;split <;> rfl
theorem mdefine_k (hM:PM H mb b F s t cnt mk kp) (hk:KS s v){name:ByteArray}{up:Int} (hup:1≤up∧up≤65536) (hst:s.stack.length<60000){a:Option Addr}{l c:Nat}{own:List ByteArray} (hr:Rd 1 H a l (strsV own)) (hout:Outs H a l F) (hlk:l≤100000000)
  (h:∀ H' F',PM H' mb b F' (kDef s t v.clsW name up own).2.1 (kDef s t v.clsW name up own).2.2 cnt mk kp→Up F H F' H'→Q (.tuple #[.int .i64 (kDef s t v.clsW name up own).1.1,.int .i64 (kDef s t v.clsW name up own).1.2]) H') :
  callS PP n_k89 #[.pointer (some ⟨mb,0,none⟩),.string name,.int .i64 up,.slice a l c] Q H:=by
 have hs1:sliceInfo PP 108=some (1,8,some (.int .i64 0)):=by kernel_rfl
 have hm1:=hk.shape.many1
 have hl:l=own.length:=by have:=hr.1;simpa [strsV] using this.symm
 apply k89_ok
 unfold k89 A0 iV wW pV sV lV cS
 unfold kDef at h
 refine msymbol_k hM fun H1 F1 hM1 hu1=>⟨_,_,rfl,?_⟩
 rw [bneI,cond_dec]
 refine ite_i (fun h1=>?_) fun h1=>?_
 ·rw [if_pos h1] at h;exact h H1 F1 hM1 hu1
 rw [if_neg h1] at h
 have hz1:(t.add name).1.2=0:=Classical.byContradiction h1
 rw [if_pos hz1]
 obtain ⟨nn,en,en2,_⟩:=add_ok name hz1
 rw [en] at h ⊢
 generalize (t.add name).2=t1 at *
 have hout1:=hout.up hu1
 have hr1:=hout.rd hu1 hr
 refine ⟨fun w H'=>∃(i:Nat) (t':TB) (acc:List Int) (a':Option Addr) (l' c':Nat) (G F':Foot),w=[.slice a' l' c',.int .i64 i]∧i≤own.length∧PM H' mb b F' s t' cnt mk kp∧Up F1 H1 F' H'∧t'.addAll acc (own.drop i)=t1.addAll [] own∧Own 1 H' a' l' c' (intsV acc) G∧(∀ x∈G,H1.size≤x∧x∉F')∧acc.length=i,fun w _=>match w with
  | [_,.int _ i]=>(own.length-i).toNat
  | _=>0,⟨0,t1,[],none,0,0,[],F1,rfl,Nat.zero_le _,hM1,Up.refl _ _,rfl,by simpa [intsV] using Own.nil 1 H1,by simp,rfl⟩,?_⟩
 rintro w H2 ⟨i,t2,acc,a2,l2,c2,G,F2,rfl,hi,hM2,hu2,hadd,ho,hG,hacc⟩ _
 have hl2:l2=i:=by have:=ho.len;simp only [intsV,List.length_map] at this;omega
 have hgm:=hM1.m.lt
 have hgk:=hM1.k.kinds.lt
 refine ⟨_,_,_,_,rfl,?_⟩
 rw [cond_dec]
 refine ite_i (fun hlt=>?_) fun hlt=>?_
 ·obtain ⟨p,hlt2,rfl,hcell⟩:=(hout1.rd hu2 hr1).str (i:=(i:Int)) (by omega) hlt
  simp only [Int.toNat_natCast] at hcell hlt2
  have e1:IntKind.wrap .i64 ((i:Int)+1)=((i+1:Nat):Int):=by rw [wrap64_id (by omega) (by omega)];omega
  have ed:own.drop i=own[i] :: own.drop (i+1):=List.drop_eq_getElem_cons hlt2
  rw [ed,TB.addAll] at hadd
  refine ⟨⟨by omega,hlt⟩,_,rfl,_,by rw [Int.toNat_natCast,Nat.mul_one];exact hcell,msymbol_k hM2 fun H3 F3 hM3 hu3=>⟨_,_,rfl,?_⟩⟩
  rw [bneI,cond_dec]
  refine ite_i (fun h3=>?_) fun h3=>?_
  ·rw [if_pos h3] at hadd
   rw [if_pos (by rw [←hadd];exact h3),←hadd] at h
   exact h H3 F3 hM3 ((hu1.trans hu2).trans hu3)
  rw [if_neg h3] at hadd
  have hz3:(t2.add own[i]).1.2=0:=Classical.byContradiction h3
  rw [if_pos hz3]
  have hoG:∀ x∈G,x<H2.size:=ho.lt
  have ho3:Own 1 H3 a2 l2 c2 (intsV acc) G:=ho.fr hu3.1 fun x hx=>(hG x hx).2
  refine evS_append1 hs1 rfl (by kernel_rfl) ho3 rfl (by simp [oneC]) (by omega) (by decide) (by decide) fun a' c' G2 H4 g1 g2 g3=>⟨_,_,_,rfl,?_⟩
  rw [e1]
  have hG3:∀ x∈G,H1.size≤x∧x∉F3:=fun x hx=>⟨(hG x hx).1,Up.out hu3 (hG x hx).2 (hoG x hx)⟩
  have hF3lt:=hM3.k.lt
  have hM4:PM H4 mb b F3 s (t2.add own[i]).2 cnt mk kp:=⟨hM3.k.fr g2.1 (fun x hx hm=>(hG3 x hm).2 hx) (fun hm=>by have:=(hG3 _ hm).1;omega),hM3.m.fr g2.1 (fun hm=>by have:=(hG3 _ hm).1;omega),hM3.out⟩
  have hu4:Up F1 H1 F3 H4:=by
   have h12:=hu2.trans hu3
   refine ⟨⟨Nat.le_trans h12.1.1 g2.1.1,fun x hx hn=>?_⟩,h12.2⟩
   rw [g2.1.2 x (Nat.lt_of_lt_of_le hx h12.1.1) (fun hm=>by have:=(hG3 x hm).1;omega),h12.1.2 x hx hn]
  refine ⟨⟨i+1,_,_,a',l2+1,c',G2,F3,rfl,by omega,hM4,hu4,hadd,?_,fun x hx=>?_,by simp [hacc]⟩,by simp;omega⟩
  ·rw [intsV_append];exact g1
  ·rcases g2.2 x hx with h5 | h5
   ·exact hG3 x h5
   ·exact ⟨Nat.le_trans (hu2.trans hu3).1.1 h5,fun hm=>by have:=hF3lt x hm;omega⟩
 ·have hil:i=own.length:=by omega
  rw [hil,List.drop_length,TB.addAll] at hadd
  rw [if_neg (by rw [←hadd];simp),←hadd] at h
  simp only at h
  unfold kDef1 at h
  have hu12:=hu1.trans hu2
  have hall:=addAll_ok (t:=t1) [] own (by rw [←hadd])
  rw [←hadd] at hall
  simp only at hall
  obtain ⟨ns,ens,ens2⟩:=hall
  rw [List.nil_append] at ens
  have hwt2:=hM2.k.wft
  have hns:∀ n∈ns,n<t2.texts.length:=fun n hn=>by
   have:t2.texts[n]?∈own.map some:=by rw [←ens2];exact List.mem_map.2 ⟨n,hn,rfl⟩
   obtain ⟨s,_,hs⟩:=List.mem_map.1 this
   exact (tx_some hs.symm).2
  have hnn:nn<t2.texts.length:=by
   have h5:=(tx_some en2).2
   have h6:=(addAll_pre t1 [] own).2
   rw [←hadd] at h6
   obtain ⟨m,e⟩:=h6
   rw [e,List.length_append];omega
  have hws:∀ w∈acc,isW w:=fun w hw=>by
   rw [ens] at hw
   obtain ⟨x,hx,rfl⟩:=List.mem_map.1 hw
   exact isW_sym hwt2 (hns x hx)
  obtain ⟨a1,a2',⟨m1,a3,a3'⟩,a4⟩:=array_ok hk (by omega) hws
  refine marray_k hM2 ho.rd (fun p hp=>?_) (by omega) fun H3 F3 hM3 hu3=>⟨_,_,rfl,?_⟩
  ·rcases ho.2.2 with ⟨h5,_⟩ | ⟨b',cs,h5,h6,_⟩
   ·rw [h5] at hp;cases hp
   ·rw [h5] at hp;cases hp
    exact (hG b' (by rw [h6];simp)).2
  have hu13:=hu12.trans hu3
  rw [bneI,cond_dec]
  refine ite_i (fun h5=>?_) fun h5=>?_
  ·rw [if_pos h5] at h;exact h H3 F3 hM3 hu13
  rw [if_neg h5] at h
  have hz5:(s.array acc).1.2=0:=Classical.byContradiction h5
  obtain ⟨lo,elo,lo1,lo2,_⟩:=a4 hz5
  refine ⟨_,rfl,_,hM3.m.cell 0,count_ks hM3.k a1 fun H4 f4=>⟨_,rfl,object_c (by decide) ⟨_,rfl,object_c hup ⟨_,rfl,integer_c (by decide) ⟨_,rfl,?_⟩⟩⟩⟩⟩
  have ew:IntKind.wrap .i64 ((v.cls.length:Int)+1)=(v.cls.length:Int)+1:=wrap64_id (by omega) (by omega)
  rw [ew]
  refine integer_c ⟨by omega,by omega⟩ ⟨_,rfl,?_⟩
  have hu4:Up F3 H3 F3 H4:=Up.of_nil f4
  refine mdefine2_k (hM3.nil f4) a1 (isW_sym hwt2 hnn) hup (by rw [elo];exact isW_obj lo1 lo2) (by rw [a3,List.length_append];omega) rfl rfl rfl rfl fun H5 F5 hM5 hu5=>?_
  have et:(kDef2 (s.array acc).2 t2 v.clsW (4*(nn:Int)+2) up (s.array acc).1.1).2.2=t2:=kDef2_t _ _ _ _ _ _
  exact h H5 F5 (by rw [et];exact hM5) ((hu13.trans hu4).trans hu5)
end
section
variable {H:Heap}{b:Nat}{F:Foot}{s:SP}{t:TB}{v:KV}{Q:QT}
theorem kdefine_k (hK:PK H b F s t) (hv:KAll s t v){name sup:ByteArray}{a:Option Addr}{l c:Nat}{own:List ByteArray} (hr:Rd 1 H a l (strsV own)) (hout:Outs H a l F) (hlc:l≤c) (hlk:l≤1000000000000000)
  (h:∀ H' F',PK H' b F' (kDefineAll s v t name sup own).2.1 (kDefineAll s v t name sup own).2.2→Up F H F' H'→Q (.tuple #[.int .i64 (kDefineAll s v t name sup own).1.1,.int .i64 (kDefineAll s v t name sup own).1.2]) H') :
  callS PP n_k17 #[.pointer (some ⟨b,0,none⟩),.string name,.string sup,.slice a l c] Q H:=by
 apply k17_ok
 unfold k17 iV pV sV lV cS
 unfold kDefineAll at h
 refine there_c hK ⟨_,rfl,?_⟩
 simp only [Bool.not_true,cond_false]
 refine definable_k hK hv hr hlc (by omega) fun H1 hf1=>⟨_,_,rfl,?_⟩
 rw [bneI,cond_dec]
 refine ite_i (fun h1=>?_) fun h1=>?_
 ·rw [if_pos h1] at h;exact h H1 F (hK.nil hf1) (Up.of_nil hf1)
 rw [if_neg h1] at h
 obtain ⟨j,hj,ej,hlt,hno,_,_⟩:=defK_ok hv (Classical.byContradiction h1)
 rw [ej] at h ⊢
 have hb:=up_arr hv.ks hj
 have hst:s.stack.length<60000:=by rw [hv.stack];decide
 refine begin_k (hK.nil hf1) fun H2 mb hM2 hf2=>⟨_,rfl,?_⟩
 have hf12:=hf1.trans hf2
 have hu2:Up F H F H2:=Up.of_nil hf12
 have hl32:=defK_len (Classical.byContradiction h1)
 refine mdefine_k hM2 hv.ks hb hst (hout.rd hu2 hr) (hout.up hu2) (by have:=hr.1;simp only [strsV,List.length_map] at this;omega) fun H3 F3 hM3 hu3=>⟨_,_,rfl,?_⟩
 refine end_k hM3 ⟨by omega,by omega⟩ fun H4 hK4 hf4=>⟨_,rfl,?_⟩
 have hu4:Up F H F3 H4:=(hu2.trans hu3).trans ⟨hf4,fun _ h=>.inl h⟩
 have:=h H4 F3 hK4 hu4
 unfold kDefine at this
 rw [bneI,cond_dec]
 refine ite_i (fun h2=>?_) fun h2=>?_
 ·rw [if_neg h2] at this;exact this
 ·have hz:=Classical.byContradiction h2
  rw [if_pos hz] at this
  have e0:(kDef s t v.clsW name (v.cls[j]).oop own).1.2=0:=hz
  rw [e0] at this
  exact this
theorem kdefine_nil {name sup:ByteArray}{a:Option Addr}{l c:Nat} (h:Q (.tuple #[.int .i64 0,.int .i64 2]) H):callS PP n_k17 #[.pointer none,.string name,.string sup,.slice a l c] Q H:=by
 apply k17_ok
 unfold k17 iV pV sV lV cS
 exact there_nil ⟨_,rfl,h⟩
theorem KS.gwords {s:SP}{v:KV} (h:KS s v):kwords s.h v.globA=globW v.glob:=h.view.globs.kwords
theorem kglobal_k (hK:PK H b F s t) (hv:KAll s t v){name:ByteArray}
  (h:∀ H' F',PK H' b F' (kGlobalAll s v t name).2.1 (kGlobalAll s v t name).2.2→Up F H F' H'→Q (.int .i64 (kGlobalAll s v t name).1) H') :
  callS PP n_k18 #[.pointer (some ⟨b,0,none⟩),.string name] Q H:=by
 have hg:=hv.ks.shape.globs
 apply k18_ok
 unfold k18 A0 iV pV sV lV cS
 unfold kGlobalAll globK at h
 refine there_c hK ⟨_,rfl,?_⟩
 simp only [Bool.not_true,cond_false]
 refine named_k (lo:=65) (up:=90) fun H1 hf1=>⟨_,rfl,?_⟩
 rw [←decide_not,cond_dec]
 refine ite_i (fun h1=>?_) fun h1=>?_
 ·rw [if_pos h1,if_pos (by decide)] at h;exact h H1 F (hK.nil hf1) (Up.of_nil hf1)
 rw [if_neg h1] at h
 refine taken_k (hK.nil hf1) hv fun H2 hf2=>⟨_,rfl,?_⟩
 have hF2:=hf1.trans hf2
 rw [cond_dec]
 refine ite_i (fun h2=>?_) fun h2=>?_
 ·rw [if_pos h2,if_pos (by decide)] at h;exact h H2 F (hK.nil hF2) (Up.of_nil hF2)
 rw [if_neg h2] at h
 refine globals_k (hK.nil hF2) hv fun a l c G H3 ho hf3 hG=>⟨_,_,_,rfl,?_⟩
 have hF3:=hF2.trans hf3
 have hl:l=v.glob.length:=by have:=ho.len;simpa [strsV,globsK] using this.symm
 rw [cond_dec]
 refine ite_i (fun h3=>?_) fun h3=>?_
 ·rw [if_pos (show 256≤v.glob.length by omega),if_pos (by decide)] at h;exact h H3 F (hK.nil hF3) (Up.of_nil hF3)
 rw [if_neg (show ¬ 256≤v.glob.length by omega),if_neg (by decide)] at h
 refine begin_k (hK.nil hF3) fun H4 mb hM4 hf4=>⟨_,rfl,?_⟩
 have hF4:=hF3.trans hf4
 have hu4:Up F H F H4:=Up.of_nil hF4
 unfold kGlobal at h
 have hst:s.stack.length<60000:=by rw [hv.stack];decide
 have hkp:(0:Int)≤s.stack.length∧(s.stack.length:Int)≤1000000:=⟨by omega,by omega⟩
 have fin:∀ (R:Int × SP × TB) (H5:Heap) (F5:Foot),kGlob s t (globW v.glob) name=R→PM H5 mb b F5 R.2.1 R.2.2 t.texts.length s.h.mark s.stack.length→Up F H F5 H5→callS PP n_k90 #[.pointer (some ⟨mb,0,none⟩),.int .i64 R.1] (fun v37 H13=>∃ n38:Int,v37=.int .i64 n38∧Q (.int .i64 n38) H13) H5:=by
  intro R H5 F5 eR hM5 hu5
  rw [eR] at h
  exact end_k hM5 hkp fun H6 hK6 hf6=>⟨_,rfl,h H6 F5 hK6 (hu5.trans ⟨hf6,fun _ h=>.inl h⟩)⟩
 refine msymbol_k hM4 fun H5 F5 hM5 hu5=>⟨_,_,rfl,?_⟩
 have hu45:=hu4.trans hu5
 rw [beqI,cond_dec]
 refine ite_i (fun h5=>?_) fun h5=>?_
 rotate_left
 ·have eR:kGlob s t (globW v.glob) name=((t.add name).1.2,s,(t.add name).2):=by unfold kGlob;rw [if_pos h5]
  have:=fin _ H5 F5 eR hM5 hu45
  exact this
 rw [if_pos h5]
 obtain ⟨nn,en,en2,_⟩:=add_ok name h5
 have eR:kGlob s t (globW v.glob) name=kGlob1 s (t.add name).2 (globW v.glob) (4*(t.add name).1.1+2):=by unfold kGlob;rw [if_neg (by simpa using h5)]
 rw [en] at eR ⊢
 generalize (t.add name).2=t1 at *
 unfold kGlob1 at eR
 have hwt1:=hM5.k.wft
 have hnn:=(tx_some en2).2
 have hws:∀ w∈globW v.glob++[4*(nn:Int)+2,4],isW w:=fun w hw=>by
  rcases List.mem_append.1 hw with hw | hw
  ·exact globW_words hv.ks w hw
  ·simp only [List.mem_cons,List.not_mem_nil,or_false] at hw
   rcases hw with rfl | rfl
   ·exact isW_sym hwt1 hnn
   ·decide
 obtain ⟨k1,_⟩:=array_ok hv.ks (by omega) hws
 have mc:∀ {H':Heap},Fr [] H5 H'→cellH H' ⟨mb,0,none⟩=some (.pointer (some ⟨b,0,none⟩)):=fun hf=>(hM5.m.fr hf (by simp)).cell 0
 refine ⟨_,rfl,_,hM5.m.cell 0,_,rfl,_,hM5.m.cell 0,root_k hM5.k fun H6 f6=>⟨_,rfl,⟨⟨mc f6,trivial⟩,trivial⟩,?_⟩⟩
 rw [hv.ks.root1]
 refine words_k (hM5.k.nil f6) fun a7 l7 c7 G7 H7 ho7 f7 hG7=>⟨_,_,_,rfl,trivial,object_c (by decide) ⟨_,rfl,trivial,trivial,?_⟩⟩
 rw [KS.gwords hv.ks] at ho7
 have fp:=(Fr.push [] H7 (.cells #[.int .i64 (4*(nn:Int)+2),.int .i64 4] 36))
 have hr2:Rd 1 (H7.push (.cells #[.int .i64 (4*(nn:Int)+2),.int .i64 4] 36)) (some ⟨H7.size,0,none⟩) 2 (intsV [4*(nn:Int)+2,4]):=rd_new (cs:=[4*(nn:Int)+2,4])
 rw [show ((4:Int)*1)=4 from rfl]
 generalize (H7.push (.cells #[.int .i64 (4*(nn:Int)+2),.int .i64 4] 36))=Hp at fp hr2 ⊢
 have hgl:=globW_len v.glob
 refine mappend_k (xs:=[4*(nn:Int)+2,4]) hM5 ((f6.trans f7).trans fp) (ho7.fr fp (by simp)) (fun x hx=>Nat.le_trans f6.1 (hG7 x hx)) (by omega) hr2 (by decide) fun H8 F8 hM8 hu8=>⟨_,_,rfl,trivial,?_⟩
 have hu58:=hu45.trans hu8
 rw [beqI,cond_dec]
 refine ite_i (fun h6=>?_) fun h6=>?_
 ·rw [if_neg (by simpa using h6)] at eR
  obtain ⟨sb,F1,hcs,hS,hsub,_,_,hup⟩:=hM8.k.sp
  refine ⟨_,rfl,_,hM8.m.cell 0,_,rfl,_,hcs,psSetRoot_c hS (fun o ho=>?_) fun H9 hS9 hf9=>⟨_,rfl,?_⟩⟩
  ·obtain ⟨x,hx1,hx2,_⟩:=k1.view.root
   rw [k1.king] at ho
   rw [hx1] at ho;cases ho;exact hx2
  have hu9:Up F8 H8 F8 H9:=⟨hf9.mono hsub,fun _ h=>.inl h⟩
  have:=fin _ H9 F8 eR (hM8.up (hup H9 _ hS9 hf9) hu9) (hu58.trans hu9)
  rw [h6];exact this
 ·rw [if_pos h6] at eR
  have:=fin _ H8 F8 eR hM8 hu58
  exact this
theorem kglobal_nil {name:ByteArray} (h:Q (.int .i64 2) H):callS PP n_k18 #[.pointer none,.string name] Q H:=by
 apply k18_ok
 unfold k18 A0 iV pV sV lV cS
 exact there_nil ⟨_,rfl,h⟩
theorem over_nil {q:Option Addr} (h:Q (.tuple #[.pointer none,.int .i64 2]) H):callS PP n_k25 #[.pointer none,.pointer q] Q H:=by
 apply k25_ok
 unfold k25 A0 iV pV
 exact h
theorem kspace_k (hK:PK H b F s t) (h:∀ sb F1,cellH H ⟨b,0,none⟩=some (.pointer (some ⟨sb,0,none⟩))→PSp H sb F1 s→(∀ x∈F1,x∈F)→(∀ H' F1' s',PSp H' sb F1' s'→Up F1 H F1' H'→∃ F',PK H' b F' s' t∧Up F H F' H')→(∀ H' s',PSp H' sb F1 s'→Fr F1 H H'→PK H' b F s' t)→Q (.pointer (some ⟨sb,0,none⟩)) H):callS PP n_k19 #[.pointer (some ⟨b,0,none⟩)] Q H:=by
 obtain ⟨sb,F1,hc,hS,hsub,_,hup,hup2⟩:=hK.sp
 apply k19_ok
 unfold k19 pV
 exact ⟨_,rfl,_,hc,h sb F1 hc hS hsub hup hup2⟩
theorem kspace_nil (h:Q (.pointer none) H):callS PP n_k19 #[.pointer none] Q H:=by
 apply k19_ok
 unfold k19 pV
 exact h
theorem ksymbols_k (hK:PK H b F s t) (h:∀ tb F1,cellH H ⟨b,1,none⟩=some (.pointer (some ⟨tb,0,none⟩))→PTb H tb F1 t→Q (.pointer (some ⟨tb,0,none⟩)) H):callS PP n_k26 #[.pointer (some ⟨b,0,none⟩)] Q H:=by
 obtain ⟨tb,F1,hc,hT,_⟩:=hK.tb
 apply k26_ok
 unfold k26 pV
 exact ⟨_,rfl,_,hc,h tb F1 hc hT⟩
theorem ksymbols_nil (h:Q (.pointer none) H):callS PP n_k26 #[.pointer none] Q H:=by
 apply k26_ok
 unfold k26 pV
 exact h
end
section
variable {H:Heap}{b:Nat}{F:Foot}{s:SP}{t:TB}{v:KV}{Q:QT}
theorem globals_r (hK:RK H b F s t) (hv:KAll s t v) (h:∀ a l c G H',Own 1 H' a l c (strsV (globsK v t)) G→Fr [] H H'→(∀ x∈G,H.size≤x)→Q (.slice a l c) H'):callS PP n_k78 #[.pointer (some ⟨b,0,none⟩)] Q H:=by
 have hs1:sliceInfo PP 37=some (1,16,some (.string (⟨#[]⟩:ByteArray))):=by kernel_rfl
 have hg:=hv.ks.shape.globs
 obtain ⟨e0,b0,b1⟩:=KS.s1 hv.ks
 have h3:=hv.names.wf.m1
 have h4:=hv.names.wf.len
 apply k78_ok
 unfold k78 A0 iV wW pV sV lV cS
 refine root_r hK hv.ks e0 b0 b1 ⟨_,rfl,words_r hK fun aw lw cw Gw H0 how hfw hGw=>⟨_,_,_,rfl,?_⟩⟩
 rw [show kwords s.h v.globA=globW v.glob from hv.ks.view.globs.kwords] at how
 have hgl:=globW_len v.glob
 have hlw:lw=2*v.glob.length:=by have:=how.len;simp only [intsV,List.length_map,hgl] at this;omega
 have hlen:(globsK v t).length=v.glob.length:=by simp [globsK]
 refine ⟨fun w H'=>∃(i:Nat) (a:Option Addr) (l' c:Nat) (G:Foot),w=[.slice a l' c,.int .i64 (2*i:Nat)]∧i≤v.glob.length∧Own 1 H' a l' c (strsV ((globsK v t).take i)) G∧Fr [] H0 H'∧(∀ x∈G,H0.size≤x),fun w _=>match w with
  | [_,.int _ i]=>(2*v.glob.length-i).toNat
  | _=>0,⟨0,none,0,0,[],rfl,Nat.zero_le _,by simpa [strsV] using Own.nil 1 H0,Fr.refl _ _,by simp⟩,?_⟩
 rintro w H1 ⟨i,a1,l1,c1,G,rfl,hi,ho,hf1,hG⟩ _
 have hl1:l1=i:=by have:=ho.len;simp only [strsV,List.length_map,List.length_take] at this;omega
 refine ⟨_,_,_,_,rfl,?_⟩
 have ew:IntKind.wrap .i64 (((2*i:Nat):Int)+1)=((2*i:Nat):Int)+1:=wrap64_id (by omega) (by omega)
 rw [ew,cond_dec]
 refine ite_i (fun hlt=>?_) fun hlt=>?_
 ·have hlt':i<v.glob.length:=by omega
  obtain ⟨p,rfl,hcell,hlt2⟩:=(how.rd.fr' hf1 (by simp)).int (i:=((2*i:Nat):Int)) (by omega) (by omega)
  rw [Int.toNat_natCast] at hcell hlt2
  have hx:(globW v.glob).getD (2*i) 0=symW v.glob[i].1:=by
   rw [List.getD_eq_getElem?_getD,(globW_get hlt').1];rfl
  rw [hx] at hcell
  have hn:=hv.names.glob _ (List.getElem_mem hlt')
  have htk:(globsK v t).take (i+1)=(globsK v t).take i++[tx t v.glob[i].1]:=by
   rw [List.take_add_one,List.getElem?_eq_getElem (by omega)];simp [globsK]
  have e:IntKind.wrap .i64 (((2*i:Nat):Int)+2)=((2*(i+1):Nat):Int):=by rw [wrap64_id (by omega) (by omega)];omega
  refine ⟨⟨by omega,by omega⟩,_,rfl,_,by rw [Int.toNat_natCast,Nat.mul_one];exact hcell,text_r (hK.nil (hfw.trans hf1)) (I64_small (by unfold symW;omega) (by unfold symW;omega)) ⟨_,rfl,?_⟩⟩
  rw [ktextW_sym hv.names.wf hn]
  refine evS_append1 hs1 rfl (by kernel_rfl) ho rfl (by simp [oneC]) (by omega) (by decide) (by decide) fun a' c' G2 H3 g1 g2 g3=>⟨_,_,_,rfl,?_⟩
  have hfr:=Up.fresh hf1 g2 hG
  rw [e]
  refine ⟨⟨i+1,a',l1+1,c',G2,rfl,by omega,?_,hfr.1,hfr.2⟩,by simp;omega⟩
  rw [htk,strsV_append];exact g1
 ·rw [List.take_of_length_le (by omega)] at ho
  exact h _ _ _ _ H1 ho (hfw.trans hf1) fun x hx=>Nat.le_trans hfw.1 (hG x hx)
theorem value_r (hK:RK H b F s t) (hv:KAll s t v){n:Int} (h:∀ H',Fr [] H H'→Q (.tuple #[.int .i64 (valueK v n).1,.int .i64 (valueK v n).2]) H'):callS PP n_k106 #[.pointer (some ⟨b,0,none⟩),.int .i64 n] Q H:=by
 have hg:=hv.ks.shape.globs
 obtain ⟨e0,b0,b1⟩:=KS.s1 hv.ks
 apply k106_ok
 unfold k106 iV wW pV lV cS
 unfold valueK at h
 rw [cond_dec]
 refine ite_i (fun h1=>?_) fun h1=>?_
 ·rw [dif_neg (by omega)] at h;exact h _ (Fr.refl _ _)
 refine globals_r hK hv fun a l c G H1 ho hf hG=>⟨_,_,_,rfl,?_⟩
 have hl:l=v.glob.length:=by have:=ho.len;simpa [strsV,globsK] using this.symm
 rw [cond_dec]
 refine ite_i (fun h2=>?_) fun h2=>?_
 ·rw [dif_neg (by omega)] at h;exact h _ hf
 rw [dif_pos (by omega)] at h
 have e:IntKind.wrap .i64 (IntKind.wrap .i64 (2*n)+1)=((2*n.toNat+1:Nat):Int):=by rw [wrap64_id (n:=2*n) (by omega) (by omega),wrap64_id (by omega) (by omega)];omega
 refine root_r (hK.nil hf) hv.ks e0 b0 b1 ⟨_,rfl,?_⟩
 rw [e]
 refine slot_r (hK.nil hf) ⟨_,rfl,?_⟩
 rw [(hv.ks.globAt (by omega)).2]
 exact h _ hf
theorem setValue_r (hK:RK H b F s t) (hv:KAll s t v){n w:Int} (h:∀ H' F',RK H' b F' (setValueK s v n w).2 t→Up F H F' H'→Q (.int .i64 (setValueK s v n w).1) H'):callS PP n_k105 #[.pointer (some ⟨b,0,none⟩),.int .i64 n,.int .i64 w] Q H:=by
 have hg:=hv.ks.shape.globs
 obtain ⟨e0,b0,b1⟩:=KS.s1 hv.ks
 apply k105_ok
 unfold k105 iV wW pV cS
 unfold setValueK at h
 refine value_r hK hv fun H1 hf1=>⟨_,_,rfl,?_⟩
 unfold valueK
 by_cases hn:0≤n∧n<v.glob.length
 ·rw [dif_pos hn]
  rw [if_neg (by omega)] at h
  simp only [show ((0:Int) != 0)=false from rfl,cond_false]
  have hK1:=hK.nil hf1
  refine refIs_c ⟨_,rfl,?_⟩
  rw [←decide_not,cond_dec]
  refine ite_i (fun hw=>?_) fun hw=>?_
  ·rw [if_pos hw] at h
   exact h _ _ hK1 (Up.of_nil hf1)
  rw [if_neg hw] at h
  obtain ⟨sb,hb,F1,hc,c0,hR,hsub,_,hup⟩:=hK1.hp
  refine ⟨_,rfl,_,hc,_,rfl,_,c0,slot_r hK1 ⟨_,rfl,⟨⟨c0,trivial⟩,⟨hc,trivial⟩,trivial⟩,?_⟩⟩
  rw [e0]
  refine refOop13_c (I64_small (by omega) (by omega)) ⟨_,rfl,⟨⟨c0,trivial⟩,⟨hc,trivial⟩,trivial⟩,?_⟩
  have e:IntKind.wrap .i64 (IntKind.wrap .i64 (2*n)+1)=2*n+1:=by rw [wrap64_id (n:=2*n) (by omega) (by omega),wrap64_id (by omega) (by omega)]
  rw [refOop_obj b0,e]
  refine rput_c hR fun H4 hR4 hf4=>⟨_,rfl,trivial,?_⟩
  obtain ⟨F',hK4,hu⟩:=hup H4 F1 _ hR4 ⟨hf4,fun x hx=>.inl hx⟩
  exact h _ _ hK4 ((Up.of_nil hf1).trans hu)
 ·rw [dif_neg hn]
  rw [if_pos (by omega)] at h
  simp only [show ((1:Int) != 0)=true from rfl,cond_true]
  exact h _ _ (hK.nil hf1) (Up.of_nil hf1)
theorem taken_r (hK:RK H b F s t) (hv:KAll s t v){name:ByteArray} (h:∀ H',Fr [] H H'→Q (.bool (decide (takenK v t name))) H'):callS PP n_k115 #[.pointer (some ⟨b,0,none⟩),.string name] Q H:=by
 have hg:=hv.ks.shape.globs
 apply k115_ok
 unfold k115 iV wW pV sV lV cS
 refine find_r hK hv fun H1 hf1=>⟨_,_,rfl,globals_r (hK.nil hf1) hv fun a l c G H2 ho hf2 hG=>⟨_,_,_,rfl,?_⟩⟩
 have hF2:=hf1.trans hf2
 have hl:l=(globsK v t).length:=by have:=ho.len;simpa [strsV] using this.symm
 have hl2:(globsK v t).length=v.glob.length:=by simp [globsK]
 refine ⟨fun w H'=>H'=H2∧∃ i:Nat,w=[.int .i64 i]∧i≤l∧∀ j (hj:j<(globsK v t).length),j<i→(globsK v t)[j]≠name,fun w _=>match w with
  | [.int _ i]=>(l-i).toNat
  | _=>0,⟨rfl,0,rfl,Nat.zero_le _,fun j _ hj=>by omega⟩,?_⟩
 rintro w H3 ⟨rfl,i,rfl,hi,hall⟩ _
 refine ⟨_,rfl,?_⟩
 rw [cond_dec]
 refine ite_i (fun hlt=>?_) fun hlt=>?_
 ·obtain ⟨p,hlt2,rfl,hcell⟩:=ho.rd.str (i:=(i:Int)) (by omega) hlt
  simp only [Int.toNat_natCast] at hcell hlt2
  have e:IntKind.wrap .i64 ((i:Int)+1)=((i+1:Nat):Int):=by rw [wrap64_id (by omega) (by omega)];omega
  refine ⟨⟨by omega,hlt⟩,_,rfl,_,by rw [Int.toNat_natCast,Nat.mul_one];exact hcell,?_⟩
  rw [strEq_dec,cond_dec]
  refine ite_i (fun he=>?_) fun he=>?_
  ·have:=h _ hF2
   rw [decide_eq_true (show takenK v t name from .inr (he ▸ List.getElem_mem hlt2))] at this
   exact this
  ·rw [e]
   refine ⟨⟨rfl,i+1,rfl,by omega,fun j hj hji=>?_⟩,by simp;omega⟩
   rcases Nat.lt_or_ge j i with h5 | h5
   ·exact hall j hj h5
   ·have:j=i:=by omega
    subst this;exact he
 ·have hno:name∉globsK v t:=fun hm=>by
   obtain ⟨j,hj,he⟩:=List.getElem_of_mem hm
   exact hall j hj (by omega) he
  have:=h _ hF2
  have e:decide (takenK v t name)=((findK v t name).2 == 0):=by
   rw [beqI,decide_eq_decide];unfold takenK
   exact ⟨fun h=>h.resolve_right hno,.inl⟩
  rw [e] at this;exact this
theorem texts_r (hK:RK H b F s t) (hv:KAll s t v){i:Nat} (hi:i<v.cls.length) (h:∀ a l c G H',Own 1 H' a l c (strsV ((v.cls[i]).own.map (tx t))) G→Fr [] H H'→(∀ x∈G,H.size≤x)→Q (.slice a l c) H'):callS PP n_k264 #[.pointer (some ⟨b,0,none⟩),.int .i64 (v.cls[i]).ownA] Q H:=by
 have hs1:sliceInfo PP 37=some (1,16,some (.string (⟨#[]⟩:ByteArray))):=by kernel_rfl
 have h3:=hv.names.wf.m1
 have h4:=hv.names.wf.len
 have hown:=hv.ks.view.own hi
 have hol:(v.cls[i]).own.length≤8192:=by have:=(hown.bnd hv.ks.wf.h).2.2.1;simpa using this
 apply k264_ok
 unfold k264 A0 iV wW pV sV lV cS
 refine words_r hK fun aw lw cw Gw H0 how hfw hGw=>⟨_,_,_,rfl,?_⟩
 rw [hown.kwords] at how
 have hlw:lw=(v.cls[i]).own.length:=by have:=how.len;simpa [intsV] using this.symm
 refine ⟨fun w H'=>∃(k:Nat) (a:Option Addr) (l' c:Nat) (G:Foot),w=[.slice a l' c,.int .i64 k]∧k≤(v.cls[i]).own.length∧Own 1 H' a l' c (strsV (((v.cls[i]).own.map (tx t)).take k)) G∧Fr [] H0 H'∧(∀ x∈G,H0.size≤x),fun w _=>match w with
  | [_,.int _ k]=>((v.cls[i]).own.length-k).toNat
  | _=>0,⟨0,none,0,0,[],rfl,Nat.zero_le _,by simpa [strsV] using Own.nil 1 H0,Fr.refl _ _,by simp⟩,?_⟩
 rintro w H1 ⟨k,a1,l1,c1,G,rfl,hk,ho,hf1,hG⟩ _
 have hl1:l1=k:=by have:=ho.len;simp only [strsV,List.length_map,List.length_take] at this;omega
 refine ⟨_,_,_,_,rfl,?_⟩
 rw [cond_dec]
 refine ite_i (fun hlt=>?_) fun hlt=>?_
 ·have hlt':k<(v.cls[i]).own.length:=by omega
  obtain ⟨p,rfl,hcell,hlt2⟩:=(how.rd.fr' hf1 (by simp)).int (i:=(k:Int)) (by omega) hlt
  rw [Int.toNat_natCast] at hcell hlt2
  have hx:((v.cls[i]).own.map symW).getD k 0=symW (v.cls[i]).own[k]:=by simp [hlt']
  rw [hx] at hcell
  have hn:=hv.names.own _ (List.getElem_mem hi) _ (List.getElem_mem hlt')
  have htk:((v.cls[i]).own.map (tx t)).take (k+1)=((v.cls[i]).own.map (tx t)).take k++[tx t (v.cls[i]).own[k]]:=by
   rw [List.take_add_one,List.getElem?_eq_getElem (by simpa using hlt')];simp
  have e:IntKind.wrap .i64 ((k:Int)+1)=((k+1:Nat):Int):=by rw [wrap64_id (by omega) (by omega)];omega
  refine ⟨⟨by omega,hlt⟩,_,rfl,_,by rw [Int.toNat_natCast,Nat.mul_one];exact hcell,text_r (hK.nil (hfw.trans hf1)) (I64_small (by unfold symW;omega) (by unfold symW;omega)) ⟨_,rfl,?_⟩⟩
  rw [ktextW_sym hv.names.wf hn]
  refine evS_append1 hs1 rfl (by kernel_rfl) ho rfl (by simp [oneC]) (by omega) (by decide) (by decide) fun a' c' G2 H3 g1 g2 g3=>⟨_,_,_,rfl,?_⟩
  have hfr:=Up.fresh hf1 g2 hG
  rw [e]
  refine ⟨⟨k+1,a',l1+1,c',G2,rfl,by omega,?_,hfr.1,hfr.2⟩,by simp;omega⟩
  rw [htk,strsV_append];exact g1
 ·rw [List.take_of_length_le (by simp;omega)] at ho
  exact h _ _ _ _ H1 ho (hfw.trans hf1) fun x hx=>Nat.le_trans hfw.1 (hG x hx)
end
abbrev infoTailR (R0 LC:Addr) (Q:QT) (H6:Heap):Prop :=
 ∃ s36:ByteArray,cellH H6 LC=some (.string s36)∧∃ s37:ByteArray,cellH H6 (LC.add 1)=some (.string s37)∧∃ a38:Option Addr,∃ l38:Nat,∃ c38:Nat,cellH H6 (LC.add 2)=some (.slice a38 l38 c38)∧∃ n39:Int,cellH H6 (LC.add 3)=some (.int .i64 n39) ∧
 Wr H6 R0∧Wr (setH H6 R0 (.string s36)) (R0.add 1)∧Wr (setH (setH H6 R0 (.string s36)) (R0.add 1) (.string s37)) (R0.add 2)∧Wr (setH (setH (setH H6 R0 (.string s36)) (R0.add 1) (.string s37)) (R0.add 2) (.slice a38 l38 c38)) (R0.add 3) ∧
 ∃ s40:ByteArray,cellH (setH (setH (setH (setH H6 R0 (.string s36)) (R0.add 1) (.string s37)) (R0.add 2) (.slice a38 l38 c38)) (R0.add 3) (.int .i64 n39)) R0=some (.string s40) ∧
 ∃ s41:ByteArray,cellH (setH (setH (setH (setH H6 R0 (.string s36)) (R0.add 1) (.string s37)) (R0.add 2) (.slice a38 l38 c38)) (R0.add 3) (.int .i64 n39)) (R0.add 1)=some (.string s41) ∧
 ∃ a42:Option Addr,∃ l42:Nat,∃ c42:Nat,cellH (setH (setH (setH (setH H6 R0 (.string s36)) (R0.add 1) (.string s37)) (R0.add 2) (.slice a38 l38 c38)) (R0.add 3) (.int .i64 n39)) (R0.add 2)=some (.slice a42 l42 c42) ∧
 ∃ n43:Int,cellH (setH (setH (setH (setH H6 R0 (.string s36)) (R0.add 1) (.string s37)) (R0.add 2) (.slice a38 l38 c38)) (R0.add 3) (.int .i64 n39)) (R0.add 3)=some (.int .i64 n43) ∧
 Q (.agg #[.string s40,.string s41,.slice a42 l42 c42,.int .i64 n43]) (setH (setH (setH (setH H6 R0 (.string s36)) (R0.add 1) (.string s37)) (R0.add 2) (.slice a38 l38 c38)) (R0.add 3) (.int .i64 n39))
section
variable {H:Heap}{b:Nat}{F:Foot}{s:SP}{t:TB}{v:KV}{Q:QT}
theorem info_tailR {r0 lc:Nat}{nm sup:ByteArray}{a:Option Addr}{l c:Nat}{ly:Int}{cs:Array Value} (hLC:Blk H lc #[.string nm,.string sup,.slice a l c,.int .i64 ly]) (hR0:Blk H r0 cs) (hsz:cs.size=4)
  (h:∀ H',Fr [r0] H H'→Q (.agg #[.string nm,.string sup,.slice a l c,.int .i64 ly]) H'):infoTailR ⟨r0,0,none⟩ ⟨lc,0,none⟩ Q H:=by
 obtain ⟨x0,x1,x2,x3,rfl⟩:∃ x0 x1 x2 x3,cs=#[x0,x1,x2,x3]:=by
  obtain ⟨l⟩:=cs
  match l,hsz with
  | [x0,x1,x2,x3],_=>exact ⟨_,_,_,_,rfl⟩
 obtain ⟨w0,w1,w2,w3,hB,hf⟩:=st4 hR0 (o:=0) (by omega) (.string nm) (.string sup) (.slice a l c) (.int .i64 ly)
 exact ⟨_,hLC.cell 0,_,hLC.cell 1,_,_,_,hLC.cell 2,_,hLC.cell 3,w0,w1,w2,w3,_,hB.cell 0,_,hB.cell 1,_,_,_,hB.cell 2,_,hB.cell 3,h _ hf⟩
theorem rnum_c {n:Int} (h0:-1000000000000≤n) (h1:n≤1000000000000) (h:Q (.int .i64 n) H):callS PP n_k265 #[.int .i64 (2*n+1)] Q H:=by
 apply k265_ok
 unfold k265 iV wW
 have e1:IntKind.wrap .i64 (2*n+1-1)=2*n:=by rw [wrap64_id (by omega) (by omega)];omega
 have e2:Int.tdiv (2*n) 2=n:=by rw [Int.mul_comm];exact Int.mul_tdiv_cancel _ (by decide)
 have e3:IntKind.wrap .i64 n=n:=wrap64_id (by omega) (by omega)
 rw [e1,e2,e3]
 exact h
theorem info0_r (hK:RK H b F s t) (hv:KAll s t v){i:Nat} (hi:i<v.cls.length) (h:∀ a l c G H',Own 1 H' a l c (strsV (infoK v t i).own) G→Fr [] H H'→(∀ x∈G,H.size≤x)→Q (.agg #[.string (infoK v t i).name,.string (infoK v t i).sup,.slice a l c,.int .i64 (infoK v t i).lay]) H') :
  callS PP n_k221 #[.pointer (some ⟨b,0,none⟩),.int .i64 (v.cls[i]).oop] Q H:=by
 apply k221_ok
 unfold k221 A0 iV pV sV lV cS;dsimp only [shH]
 have hob:=(hv.ks.view.own hi).bnd hv.ks.wf.h
 have hlay:=hv.ks.shape.lay _ (List.getElem_mem hi)
 have hf0:Fr [] H (H.push (.cells #[.string (⟨#[]⟩:ByteArray),.string (⟨#[]⟩:ByteArray),.slice none 0 0,.int .i64 0] 121)):=Fr.push _ _ _
 have hR0:=Blk.new H #[.string (⟨#[]⟩:ByteArray),.string (⟨#[]⟩:ByteArray),.slice none 0 0,.int .i64 0] 121
 have hK0:=hK.nil hf0
 generalize (H.push (.cells #[.string (⟨#[]⟩:ByteArray),.string (⟨#[]⟩:ByteArray),.slice none 0 0,.int .i64 0] 121))=H0 at hf0 hR0 hK0 ⊢
 have hI:infoK v t i=⟨tx t (v.cls[i]).name,(infoK v t i).sup,(v.cls[i]).own.map (tx t),(v.cls[i]).lay⟩:=by
  unfold infoK;rw [List.getElem?_eq_getElem hi]
 have en:(infoK v t i).name=tx t (v.cls[i]).name:=by rw [hI]
 have eo:(infoK v t i).own=(v.cls[i]).own.map (tx t):=by rw [hI]
 have el:(infoK v t i).lay=(v.cls[i]).lay:=by rw [hI]
 rw [en,eo,el] at h
 refine name_r hK0 hv hi ⟨_,rfl,slot_r hK0 ⟨_,rfl,?_⟩⟩
 rw [hv.ks.c2 hi]
 refine refOop13_c (I64_small (by omega) (by omega)) ⟨_,rfl,?_⟩
 rw [refOop_obj hob.1]
 refine texts_r hK0 hv hi fun a l c G H1 ho hf1 hG=>⟨_,_,_,rfl,slot_r (hK0.nil hf1) ⟨_,rfl,?_⟩⟩
 rw [hv.ks.c5 hi]
 refine rnum_c (by omega) (by omega) ⟨_,rfl,?_⟩
 have hf2:Fr [] H1 (H1.push (.cells #[.string (⟨#[]⟩:ByteArray),.string (⟨#[]⟩:ByteArray),.slice none 0 0,.int .i64 0] 121)):=Fr.push _ _ _
 have hL:=Blk.new H1 #[.string (⟨#[]⟩:ByteArray),.string (⟨#[]⟩:ByteArray),.slice none 0 0,.int .i64 0] 121
 have hl0:H.size<H1.size:=Nat.lt_of_lt_of_le hR0.lt hf1.1
 generalize hH2:(H1.push (.cells #[.string (⟨#[]⟩:ByteArray),.string (⟨#[]⟩:ByteArray),.slice none 0 0,.int .i64 0] 121))=H2 at hf2 hL ⊢
 obtain ⟨w0,w1,w2,w3,hB,hf3⟩:=st4 hL (o:=0) (by simp) (.string (tx t (v.cls[i]).name)) (.string ⟨#[]⟩) (.slice a l c) (.int .i64 (v.cls[i]).lay)
 refine ⟨w0,w1,w2,w3,?_⟩
 have hF2:=(hf0.trans hf1).trans hf2
 have hF3:=(Up.fresh hF2 (F:=[H1.size]) (F':=[H1.size]) ⟨hf3,fun _ h=>.inl h⟩ (by simp;omega)).1
 have hG':∀ x∈G,H.size<x∧x<H1.size:=fun x hx=>⟨Nat.lt_of_lt_of_le hR0.lt (hG x hx),ho.lt x hx⟩
 have hR3:=((hR0.fr hf1 (by simp)).fr hf2 (by simp)).fr hf3 (by simp;omega)
 have hB':Blk _ H1.size #[.string (tx t (v.cls[i]).name),.string ⟨#[]⟩,.slice a l c,.int .i64 (v.cls[i]).lay]:=hB
 have ho3:Own 1 (setH (setH (setH (setH H2 ⟨H1.size,0,none⟩ (.string (tx t (v.cls[i]).name))) ⟨H1.size,0+1,none⟩ (.string ⟨#[]⟩)) ⟨H1.size,0+2,none⟩ (.slice a l c)) ⟨H1.size,0+3,none⟩ (.int .i64 (v.cls[i]).lay)) a l c (strsV ((v.cls[i]).own.map (tx t))) G :=
  (ho.fr hf2 (by simp)).fr hf3 fun x hx hm=>by simp only [List.mem_singleton] at hm;have:=(hG' x hx).2;omega
 have fin:∀ H' (_:Fr [H1.size,H.size] (setH (setH (setH (setH H2 ⟨H1.size,0,none⟩ (.string (tx t (v.cls[i]).name))) ⟨H1.size,0+1,none⟩ (.string ⟨#[]⟩)) ⟨H1.size,0+2,none⟩ (.slice a l c)) ⟨H1.size,0+3,none⟩ (.int .i64 (v.cls[i]).lay)) H'),Q (.agg #[.string (tx t (v.cls[i]).name),.string (infoK v t i).sup,.slice a l c,.int .i64 (v.cls[i]).lay]) H':=by
  intro H' hf'
  refine h a l c G H' (ho3.fr hf' fun x hx hm=>?_) ?_ fun x hx=>Nat.le_of_lt (hG' x hx).1
  ·have:=hG' x hx
   simp only [List.mem_cons,List.not_mem_nil,or_false] at hm
   omega
  ·exact (Up.fresh hF3 (F:=[H1.size,H.size]) (F':=[H1.size,H.size]) ⟨hf',fun _ h=>.inl h⟩ (by simp;omega)).1
 have hK3:=hK.nil hF3
 show callS PP n_k224 _ _ (setH (setH (setH (setH H2 ⟨H1.size,0,none⟩ (.string (tx t (v.cls[i]).name))) ⟨H1.size,0+1,none⟩ (.string ⟨#[]⟩)) ⟨H1.size,0+2,none⟩ (.slice a l c)) ⟨H1.size,0+3,none⟩ (.int .i64 (v.cls[i]).lay))
 generalize (setH (setH (setH (setH H2 ⟨H1.size,0,none⟩ (.string (tx t (v.cls[i]).name))) ⟨H1.size,0+1,none⟩ (.string ⟨#[]⟩)) ⟨H1.size,0+2,none⟩ (.slice a l c)) ⟨H1.size,0+3,none⟩ (.int .i64 (v.cls[i]).lay))=H3 at *
 refine up_r hK3 hv.ks hi ⟨_,rfl,?_⟩
 have hsup:(infoK v t i).sup=match upIdx v i with
  | some j=>match v.cls[j]? with
   | some d=>tx t d.name
   | none=>⟨#[]⟩
  | none=>⟨#[]⟩:=by unfold infoK;rw [List.getElem?_eq_getElem hi] <;> rfl
 rw [bneI,cond_dec]
 rcases hv.ks.upI hi with ⟨_,e0,e1⟩ | ⟨j,hj,hlt,e0,_,e1⟩
 ·rw [e1] at hsup
  simp only at hsup
  rw [e0,if_neg (by decide)]
  rw [hsup] at fin
  exact info_tailR hB' hR3 (by simp) fun H' hf'=>fin H' (hf'.mono (by simp))
 ·rw [e1] at hsup
  simp only [List.getElem?_eq_getElem hj] at hsup
  have hb:=(up_arr hv.ks hj).1
  rw [e0,if_pos (by omega)]
  refine name_r hK3 hv hj ⟨_,rfl,hB'.wr (o:=1) (by simp),?_⟩
  rw [←hsup]
  have hfl:Fr [H1.size] H3 (setH H3 ⟨H1.size,1,none⟩ (.string (infoK v t i).sup)):=Fr.set (by simp)
  exact info_tailR (hB'.set 1 (.string (infoK v t i).sup)) (hR3.fr hfl (by simp;omega)) (by simp) fun H' hf'=>fin H' ((hfl.mono (by simp)).trans (hf'.mono (by simp)))
theorem info_r (hK:RK H b F s t) (hv:KAll s t v){o:Int} (h1:∀ i,plK v o=some i→∀ a l c G H',Own 1 H' a l c (strsV (infoK v t i).own) G→Fr [] H H'→(∀ x∈G,H.size≤x)→Q (.tuple #[.agg #[.string (infoK v t i).name,.string (infoK v t i).sup,.slice a l c,.int .i64 (infoK v t i).lay],.int .i64 0]) H')
  (h2:plK v o=none→∀ H',Fr [] H H'→Q (.tuple #[.agg #[.string ⟨#[]⟩,.string ⟨#[]⟩,.slice none 0 0,.int .i64 0],.int .i64 130]) H'):callS PP n_k124 #[.pointer (some ⟨b,0,none⟩),.int .i64 o] Q H:=by
 apply k124_ok
 unfold k124 A0 iV pV sV lV cS;dsimp only [shH]
 have hf0:Fr [] H (H.push (.cells #[.string (⟨#[]⟩:ByteArray),.string (⟨#[]⟩:ByteArray),.slice none 0 0,.int .i64 0] 121)):=Fr.push _ _ _
 have hR0:=Blk.new H #[.string (⟨#[]⟩:ByteArray),.string (⟨#[]⟩:ByteArray),.slice none 0 0,.int .i64 0] 121
 have hK0:=hK.nil hf0
 generalize (H.push (.cells #[.string (⟨#[]⟩:ByteArray),.string (⟨#[]⟩:ByteArray),.slice none 0 0,.int .i64 0] 121))=H0 at hf0 hR0 hK0 ⊢
 refine place_r hK0 hv.ks fun H1 hf1=>⟨_,rfl,?_⟩
 unfold placeN
 cases hp:plK v o with
 | none =>
  simp only [show ((0:Int) == 0)=true from rfl,cond_true]
  obtain ⟨w0,w1,w2,w3,hB,hf⟩:=st4 (hR0.fr hf1 (by simp)) (o:=0) (by simp) (.string ⟨#[]⟩) (.string ⟨#[]⟩) (.slice none 0 0) (.int .i64 0)
  refine ⟨w0,w1,w2,w3,_,hB.cell 0,_,hB.cell 1,_,_,_,hB.cell 2,_,hB.cell 3,h2 hp _ ?_⟩
  exact (Up.fresh (hf0.trans hf1) (F:=[H.size]) (F':=[H.size]) ⟨hf,fun _ h=>.inl h⟩ (by simp)).1
 | some i =>
  obtain ⟨hi,rfl⟩:=plK_some hp
  rw [beqI,cond_dec,if_neg (by simp only;omega)]
  refine info0_r (hK0.nil hf1) hv hi fun a l c G H2 ho hf2 hG=>⟨_,_,_,_,_,_,rfl,?_⟩
  obtain ⟨w0,w1,w2,w3,hB,hf⟩:=st4 ((hR0.fr hf1 (by simp)).fr hf2 (by simp)) (o:=0) (by simp) (.string (infoK v t i).name) (.string (infoK v t i).sup) (.slice a l c) (.int .i64 (infoK v t i).lay)
  have hl0:H.size<H1.size:=Nat.lt_of_lt_of_le hR0.lt hf1.1
  refine ⟨w0,w1,w2,w3,_,hB.cell 0,_,hB.cell 1,_,_,_,hB.cell 2,_,hB.cell 3,h1 i hp a l c G _ (ho.fr hf fun x hx hm=>?_) ?_ fun x hx=>?_⟩
  ·simp only [List.mem_singleton] at hm
   have:=hG x hx;omega
  ·exact (Up.fresh ((hf0.trans hf1).trans hf2) (F:=[H.size]) (F':=[H.size]) ⟨hf,fun _ h=>.inl h⟩ (by simp)).1
  ·have:=hG x hx;omega
theorem layout_r (hK:RK H b F s t) (hv:KAll s t v){o:Int} (h:∀ H',Fr [] H H'→Q (match plK v o with | some i=>.tuple #[.int .i64 (infoK v t i).lay,.int .i64 0] | none=>.tuple #[.int .i64 0,.int .i64 130]) H'):callS PP n_k193 #[.pointer (some ⟨b,0,none⟩),.int .i64 o] Q H:=by
 apply k193_ok
 unfold k193 A0 iV pV sV lV;dsimp only [shH]
 refine info_r hK hv (fun i hp a l c G H1 ho hf hG=>?_) fun hp H1 hf=>?_
 ·rw [hp] at h
  have hL:=Blk.new H1 #[.string (⟨#[]⟩:ByteArray),.string (⟨#[]⟩:ByteArray),.slice none 0 0,.int .i64 0] 121
  obtain ⟨w0,w1,w2,w3,hB,hf3⟩:=st4 hL (o:=0) (by simp) (.string (infoK v t i).name) (.string (infoK v t i).sup) (.slice a l c) (.int .i64 (infoK v t i).lay)
  refine ⟨_,_,_,_,_,_,_,rfl,w0,w1,w2,w3,_,hB.cell 3,h _ ?_⟩
  exact (Up.fresh (hf.trans (Fr.push [] H1 _)) (F:=[H1.size]) (F':=[H1.size]) ⟨hf3,fun _ h=>.inl h⟩ (by have:=hf.1;simpa using this)).1
 ·rw [hp] at h
  have hL:=Blk.new H1 #[.string (⟨#[]⟩:ByteArray),.string (⟨#[]⟩:ByteArray),.slice none 0 0,.int .i64 0] 121
  obtain ⟨w0,w1,w2,w3,hB,hf3⟩:=st4 hL (o:=0) (by simp) (.string ⟨#[]⟩) (.string ⟨#[]⟩) (.slice none 0 0) (.int .i64 0)
  refine ⟨_,_,_,_,_,_,_,rfl,w0,w1,w2,w3,_,hB.cell 3,h _ ?_⟩
  exact (Up.fresh (hf.trans (Fr.push [] H1 _)) (F:=[H1.size]) (F':=[H1.size]) ⟨hf3,fun _ h=>.inl h⟩ (by have:=hf.1;simpa using this)).1
end
def letterN (n:Nat):Prop:=(97≤n∧n≤122)∨(65≤n∧n≤90)
instance (n:Nat):Decidable (letterN n):=inferInstanceAs (Decidable (_∨_))
def plainN (s:ByteArray):Prop:=1≤s.size∧s.size≤32∧letterN (gB s 0)∧∀ i,i<s.size→alnum (gB s i)
noncomputable instance (s:ByteArray):Decidable (plainN s):=Classical.propDecidable _
section
variable {H:Heap}{Q:QT}
theorem letter_r {n:Nat} (h:Q (.bool (decide (letterN n))) H):callS PP n_k263 #[.int .u8 n] Q H:=by
 apply k263_ok
 unfold k263
 have fin:∀ x:Bool,x=decide (letterN n)→Q (.bool x) H:=fun x hx=>hx ▸ h
 simp only [cond_dec]
 refine ite_i (fun h1=>ite_i (fun h2=>fin _ ?_) fun h2=>ite_i (fun h3=>fin _ ?_) fun h3=>fin _ ?_) fun h1=>ite_i (fun h3=>fin _ ?_) fun h3=>fin _ ?_
 all_goals
  rw [Bool.eq_iff_iff]
  simp only [decide_eq_true_iff,true_iff,false_iff,Bool.false_eq_true]
  unfold letterN
  omega
theorem plain_r {x:ByteArray} (h:Q (.bool (decide (plainN x))) H):callS PP n_k213 #[.string x] Q H:=by
 apply k213_ok
 unfold k213 iV wW cS
 have no:¬ plainN x→Q (.bool false) H:=fun hn=>by rw [decide_eq_false hn] at h;exact h
 rw [cond_dec]
 refine ite_i (fun h1=>no fun hn=>by have:=hn.1;omega) fun h1=>?_
 rw [cond_dec]
 refine ite_i (fun h2=>no fun hn=>by have:=hn.2.1;omega) fun h2=>?_
 have hpos:0<x.size:=by omega
 obtain ⟨g1,g2⟩:=gB_get hpos
 refine ⟨_,⟨Int.le_refl 0,g1⟩,?_⟩
 rw [g2]
 refine letter_r ⟨_,rfl,?_⟩
 rw [←decide_not,cond_dec]
 refine ite_i (fun h3=>no fun hn=>h3 hn.2.2.1) fun h3=>?_
 refine ⟨fun w H'=>H'=H∧∃ i:Nat,w=[.int .i64 i]∧i≤x.size∧∀ j,j<i→alnum (gB x j),fun w _=>match w with
  | [.int _ i]=>(x.size-i).toNat
  | _=>0,⟨rfl,0,rfl,Nat.zero_le _,fun j hj=>by omega⟩,?_⟩
 rintro w H1 ⟨rfl,i,rfl,hi,hall⟩ _
 refine ⟨_,rfl,?_⟩
 rw [cond_dec]
 refine ite_i (fun hlt=>?_) fun hlt=>?_
 ·have hlt':i<x.size:=by omega
  have e:IntKind.wrap .i64 ((i:Int)+1)=((i+1:Nat):Int):=by rw [wrap64_id (by omega) (by omega)];omega
  obtain ⟨k1,k2⟩:=gB_get hlt'
  have go:alnum (gB x i)→(True∧∃ i_1:Nat,[Value.int .i64 (IntKind.wrap .i64 ((i:Int)+1))]=[.int .i64 i_1]∧i_1≤x.size∧∀ j,j<i_1→alnum (gB x j))∧((x.size:Int)-(IntKind.wrap .i64 ((i:Int)+1))).toNat<((x.size:Int)-(i:Int)).toNat:=fun ha=>by
   rw [e]
   refine ⟨⟨trivial,i+1,rfl,by omega,fun j hj=>?_⟩,by omega⟩
   rcases Nat.lt_or_ge j i with h5 | h5
   ·exact hall j h5
   ·have:j=i:=by omega
    rw [this];exact ha
  have bad:¬ alnum (gB x i)→Q (.bool false) H1:=fun ha=>no fun hn=>ha (hn.2.2.2 i hlt')
  have k1':x[Int.toNat (i:Int)]?=some x[i]:=by rw [Int.toNat_natCast];exact k1
  refine ⟨_,⟨by omega,k1'⟩,?_⟩
  rw [k2]
  refine letter_r ⟨_,rfl,?_⟩
  rw [←decide_not,cond_dec]
  have hgo:letterN (gB x i)→alnum (gB x i):=fun h=>by unfold letterN at h;unfold alnum;omega
  refine ite_i (fun h4=>?_) fun h4=>?_
  ·refine ⟨_,⟨by omega,k1'⟩,?_⟩
   rw [k2,cond_dec]
   refine ite_i (fun h5=>bad (by unfold letterN at h4;unfold alnum;omega)) fun h5=>⟨_,⟨by omega,k1'⟩,?_⟩
   rw [k2,cond_dec]
   refine ite_i (fun h6=>bad (by unfold letterN at h4;unfold alnum;omega)) fun h6=>?_
   have:=go (by unfold alnum;omega)
   simpa using this
  ·have:=go (hgo (Classical.byContradiction h4))
   simpa using this
 ·have:i=x.size:=by omega
  subst this
  have hok:plainN x:=⟨hpos,by omega,Classical.byContradiction h3,hall⟩
  rw [decide_eq_true hok] at h
  exact h
theorem className_r {x:ByteArray} (h:Q (.bool (decide (nameOk 65 90 x))) H):callS PP n_k114 #[.string x] Q H:=by
 apply k114_ok
 unfold k114 sV
 refine plain_r ⟨_,rfl,?_⟩
 rw [cond_dec]
 have fin:∀ y:Bool,y=decide (nameOk 65 90 x)→Q (.bool y) H:=fun y hy=>hy ▸ h
 refine ite_i (fun hp=>?_) fun hp=>?_
 ·obtain ⟨g1,g2⟩:=gB_get (show 0<x.size from hp.1)
  refine ⟨_,⟨Int.le_refl 0,g1⟩,?_⟩
  rw [g2]
  refine fin _ ?_
  rw [decide_eq_decide]
  have hl:=hp.2.2.1
  unfold letterN at hl
  constructor
  ·exact fun h5=>⟨hp.1,hp.2.1,by omega,by omega,hp.2.2.2⟩
  ·rintro ⟨_,_,h6,h7,_⟩;omega
 ·refine fin _ ?_
  have hno:¬ nameOk 65 90 x:=fun hn=>hp ⟨hn.1,hn.2.1,.inr ⟨hn.2.2.1,hn.2.2.2.1⟩,hn.2.2.2.2⟩
  rw [decide_eq_false hno]
theorem fieldName_r {x:ByteArray} (h:Q (.bool (decide (fieldOk x))) H):callS PP n_k260 #[.string x] Q H:=by
 apply k260_ok
 unfold k260 sV
 refine plain_r ⟨_,rfl,?_⟩
 rw [cond_dec]
 have no:¬ fieldOk x→Q (.bool false) H:=fun hn=>by rw [decide_eq_false hn] at h;exact h
 refine ite_i (fun hp=>?_) fun hp=>no fun hn=>hp ⟨hn.2.1,hn.2.2.1,.inl ⟨hn.2.2.2.1,hn.2.2.2.2.1⟩,hn.2.2.2.2.2⟩
 obtain ⟨g1,g2⟩:=gB_get (show 0<x.size from hp.1)
 refine ⟨_,⟨Int.le_refl 0,g1⟩,?_⟩
 rw [g2]
 simp only [strEq_dec,←decide_not,cond_dec]
 refine ite_i (fun h0=>?_) fun h0=>no fun hn=>by have:=hn.2.2.2.1;omega
 refine ite_i (fun h1=>?_) fun h1=>no fun hn=>h1 fun e=>hn.1 (.inl e)
 refine ite_i (fun h2=>?_) fun h2=>no fun hn=>h2 fun e=>hn.1 (.inr (.inl e))
 refine ite_i (fun h3=>?_) fun h3=>no fun hn=>h3 fun e=>hn.1 (.inr (.inr (.inl e)))
 refine ite_i (fun h4=>?_) fun h4=>no fun hn=>h4 fun e=>hn.1 (.inr (.inr (.inr (.inl e))))
 have hl:=hp.2.2.1
 unfold letterN at hl
 have e:decide (fieldOk x)=decide (¬ x=(⟨#[102,97,108,115,101]⟩:ByteArray)):=by
  rw [decide_eq_decide]
  constructor
  ·exact fun hn e=>hn.1 (.inr (.inr (.inr (.inr e))))
  ·refine fun h5=>⟨fun hr=>?_,hp.1,hp.2.1,by omega,by omega,hp.2.2.2⟩
   rcases hr with e | e | e | e | e <;> contradiction
 rw [e] at h;exact h
end
def InfoR:RepT CI:=fun H ys x F=>∃ a l c,ys=[.string x.name,.string x.sup,.slice a l c,.int .i64 x.lay]∧Own 1 H a l c (strsV x.own) F
theorem InfoR.fr:FrR InfoR:=fun H H' ys x F ⟨a,l,c,e,h⟩ he=>⟨a,l,c,e,h.keep he⟩
theorem InfoR.lt:LtR InfoR:=fun H ys x F ⟨a,l,c,e,h⟩=>h.lt
def infosK (v:KV) (t:TB):List CI:=(List.range v.cls.length).map (infoK v t)
section
variable {H:Heap}{b:Nat}{F:Foot}{s:SP}{t:TB}{v:KV}{Q:QT}
theorem infos_r (hK:RK H b F s t) (hv:KAll s t v) (h:∀ a l c G H',LRep 4 InfoR H' a l c (infosK v t) G→Fr [] H H'→(∀ x∈G,H.size≤x)→Q (.slice a l c) H'):callS PP n_k223 #[.pointer (some ⟨b,0,none⟩)] Q H:=by
 have hs1:sliceInfo PP 40=some (4,64,some (.agg #[.string (⟨#[]⟩:ByteArray),.string (⟨#[]⟩:ByteArray),.slice none 0 0,.int .i64 0])):=by kernel_rfl
 have hm1:=hv.ks.shape.many1
 apply k223_ok
 unfold k223 A0 iV wW pV sV lV cS
 refine all_r hK hv.ks fun al ll cl Gl H0 hol hfl hGl=>⟨_,_,_,rfl,?_⟩
 have hll:ll=v.cls.length:=by have:=hol.len;simpa [intsV,oopsK] using this.symm
 have hlen:(infosK v t).length=v.cls.length:=by simp [infosK]
 refine ⟨fun w H'=>∃(i:Nat) (a:Option Addr) (l' c:Nat) (G:Foot),w=[.slice a l' c,.int .i64 i]∧i≤v.cls.length∧LRep 4 InfoR H' a l' c ((infosK v t).take i) G∧Fr [] H0 H'∧(∀ x∈G,H0.size≤x),fun w _=>match w with
  | [_,.int _ i]=>(v.cls.length-i).toNat
  | _=>0,⟨0,none,0,0,[],rfl,Nat.zero_le _,by simpa using LRep.nil,Fr.refl _ _,by simp⟩,?_⟩
 rintro w H1 ⟨i,a1,l1,c1,G,rfl,hi,ho,hf1,hG⟩ _
 have hl1:l1=i:=by have:=ho.len;simp only [List.length_take] at this;omega
 refine ⟨_,_,_,_,rfl,?_⟩
 rw [cond_dec]
 refine ite_i (fun hlt=>?_) fun hlt=>?_
 ·have hlt':i<v.cls.length:=by omega
  obtain ⟨p,rfl,hcell⟩:=rd_oops hol hf1 hlt'
  have htk:(infosK v t).take (i+1)=(infosK v t).take i++[infoK v t i]:=by
   rw [List.take_add_one,List.getElem?_eq_getElem (by omega)];simp [infosK]
  have e:IntKind.wrap .i64 ((i:Int)+1)=((i+1:Nat):Int):=by rw [wrap64_id (by omega) (by omega)];omega
  refine ⟨⟨by omega,hlt⟩,_,rfl,_,by rw [Int.toNat_natCast];exact hcell,info0_r (hK.nil (hfl.trans hf1)) hv hlt' fun a l c G2 H2 ho2 hf2 hG2=>⟨_,_,_,_,_,_,rfl,?_⟩⟩
  have hlt1:=ho.lt InfoR.lt
  refine LRep.snoc (x:=infoK v t i) (G:=G2) InfoR.fr InfoR.lt hs1 rfl (by kernel_rfl) (ho.fr InfoR.fr InfoR.lt hf2 (Disj.nil_right _)) ⟨a,l,c,rfl,ho2⟩ rfl (fun x hx hx2=>?_) (by simp [oneC]) (by omega) (by decide) (by decide) fun a' c' F' H3 g1 g2 g3=>⟨_,_,_,rfl,?_⟩
  ·have:=hlt1 x hx
   have:=hG2 x hx2
   omega
  ·rw [e]
   have hf3:Fr [] H0 H3:=(Up.fresh (hf1.trans hf2) (F:=G) (F':=G) ⟨g2,fun _ h=>.inl h⟩ hG).1
   refine ⟨⟨i+1,a',l1+1,c',F',rfl,by omega,by rw [htk];exact g1,hf3,fun x hx=>?_⟩,by simp;omega⟩
   rcases g3 x hx with h5 | h5 | h5
   ·exact hG x h5
   ·exact Nat.le_trans hf1.1 (hG2 x h5)
   ·exact Nat.le_trans (hf1.trans hf2).1 h5
 ·rw [List.take_of_length_le (by omega)] at ho
  exact h _ _ _ _ H1 ho (hfl.trans hf1) fun x hx=>Nat.le_trans hfl.1 (hG x hx)
theorem info_get {a:Option Addr}{l c:Nat}{G:Foot} (hL:LRep 4 InfoR H a l c (infosK v t) G){i:Nat} (hi:i<v.cls.length):∃ p a2 l2 c2 G2,a=some p∧p.spot=none∧cellH H (p.add (i*4))=some (.string (infoK v t i).name)∧cellH H ((p.add (i*4)).add 1)=some (.string (infoK v t i).sup) ∧
  cellH H ((p.add (i*4)).add 2)=some (.slice a2 l2 c2)∧Own 1 H a2 l2 c2 (strsV (infoK v t i).own) G2∧∀ x∈G2,x∈G:=by
 obtain ⟨p,ys,G2,hp,hsp,hoff,hcell,hyl,⟨a2,l2,c2,e,ho⟩,hsub⟩:=hL.get (i:=i) (by simpa [infosK] using hi)
 have ei:(infosK v t)[i]'(by simpa [infosK] using hi)=infoK v t i:=by simp [infosK]
 rw [ei] at e ho
 subst e
 obtain ⟨pb,po,ps⟩:=p
 simp only at hsp hoff
 subst hsp hoff
 have h0:=hcell 0 (by decide)
 have h1:=hcell 1 (by decide)
 have h2:=hcell 2 (by decide)
 refine ⟨_,a2,l2,c2,G2,hp,rfl,?_,?_,?_,ho,hsub⟩
 ·rw [add_none,Nat.zero_add];exact h0
 ·rw [add_none,add_none,Nat.zero_add];exact h1
 ·rw [add_none,add_none,Nat.zero_add];exact h2
theorem at_r {a:Option Addr}{l c:Nat}{G:Foot} (hL:LRep 4 InfoR H a l c (infosK v t) G){n:Nat} (hn:n≤v.cls.length) (hm:v.cls.length≤256){x:ByteArray}
  (h1:∀ j,j<n→(infoK v t j).name=x→(∀ k,k<j→(infoK v t k).name≠x)→Q (.int .i64 j) H) (h2:(∀ k,k<n→(infoK v t k).name≠x)→Q (.int .i64 (-1)) H) :
  callS PP n_k266 #[.slice a l c,.int .i64 n,.string x] Q H:=by
 have hl:l=v.cls.length:=by have:=hL.len;simpa [infosK] using this
 apply k266_ok
 unfold k266 iV wW sV
 refine ⟨fun w H'=>H'=H∧∃ i:Nat,w=[.int .i64 i]∧i≤n∧∀ k,k<i→(infoK v t k).name≠x,fun w _=>match w with
  | [.int _ i]=>(n-i).toNat
  | _=>0,⟨rfl,0,rfl,Nat.zero_le _,fun k hk=>by omega⟩,?_⟩
 rintro w H1 ⟨rfl,i,rfl,hi,hno⟩ _
 refine ⟨_,rfl,?_⟩
 rw [cond_dec]
 refine ite_i (fun hlt=>?_) fun hlt=>?_
 ·obtain ⟨p,a2,l2,c2,G2,rfl,_,c0,_⟩:=info_get hL (i:=i) (by omega)
  have e:IntKind.wrap .i64 ((i:Int)+1)=((i+1:Nat):Int):=by rw [wrap64_id (by omega) (by omega)];omega
  refine ⟨⟨by omega,by omega⟩,_,rfl,_,by rw [Int.toNat_natCast];exact c0,?_⟩
  rw [strEq_dec,cond_dec]
  refine ite_i (fun he=>h1 i (by omega) he hno) fun he=>?_
  rw [e]
  refine ⟨⟨rfl,i+1,rfl,by omega,fun k hk=>?_⟩,by simp;omega⟩
  rcases Nat.lt_or_ge k i with h5 | h5
  ·exact hno k h5
  ·have:k=i:=by omega
   subst this;exact he
 ·have:i=n:=by omega
  subst this
  exact h2 hno
end
def HB (H:Heap) (b sb hb:Nat):Prop:=cellH H ⟨b,0,none⟩=some (.pointer (some ⟨sb,0,none⟩))∧cellH H ⟨sb,0,none⟩=some (.pointer (some ⟨hb,0,none⟩))
theorem cell_lt {H:Heap}{b o:Nat}{v:Value} (h:cellH H ⟨b,o,none⟩=some v):b<H.size:=by
 unfold cellH at h
 rcases Nat.lt_or_ge b H.size with h1 | h1
 ·exact h1
 ·simp only [Array.getElem?_eq_none h1] at h;cases h
theorem HB.nil {H H':Heap}{b sb hb:Nat} (h:HB H b sb hb) (hf:Fr [] H H'):HB H' b sb hb:=by
 obtain ⟨h1,h2⟩:=h
 exact ⟨by rw [cell_fr hf (by simp) (cell_lt h1)];exact h1,by rw [cell_fr hf (by simp) (cell_lt h2)];exact h2⟩
section
variable {H:Heap}{b sb hb:Nat}{F:Foot}{s:SP}{t:TB}{Q:QT}
theorem PK.hp (hK:PK H b F s t) (hB:HB H b sb hb):∃ F1,HRep H hb F1 s.h∧(∀ x∈F1,x∈F)∧∀ H' r',HRep H' hb F1 r'→Fr F1 H H'→PK H' b F { s with h:=r' } t∧HB H' b sb hb:=by
 obtain ⟨sb',F1,hc,hS,hsub,hbF,_,hup⟩:=hK.sp
 obtain ⟨hc1,hc2⟩:=hB
 rw [hc] at hc1
 have e:sb'=sb:=by simpa using hc1
 subst e
 obtain ⟨hb',F2,hR,c0,_,_,hsub2,hnb,hup2⟩:=hS.upd
 rw [c0] at hc2
 have e:hb'=hb:=by simpa using hc2
 subst e
 have hbl:=hK.lt b hK.bmem
 have hsl:=hS.lt _ hS.bmem
 refine ⟨F2,hR,fun x hx=>hsub x (hsub2 x hx),fun H' r' hR' hf=>⟨hup H' _ (hup2 H' r' hR' hf) (hf.mono hsub2),?_,?_⟩⟩
 ·rw [cell_fr hf (fun hm=>hbF (hsub2 b hm)) hbl];exact hc
 ·rw [cell_fr hf hnb hsl];exact c0
theorem PK.tbB (hK:PK H b F s t) (hB:HB H b sb hb):∃ tb F2,cellH H ⟨b,1,none⟩=some (.pointer (some ⟨tb,0,none⟩))∧PTb H tb F2 t∧∀ H' F2' t',PTb H' tb F2' t'→Up F2 H F2' H'→(∃ F',PK H' b F' s t'∧Up F H F' H')∧HB H' b sb hb:=by
 obtain ⟨sb0,tb,F1,F2,rfl,h1,h2,h3,k1,k2,hBl,hS,hT⟩:=hK
 have hK:PK H b (b :: (F1++F2)) s t:=⟨sb0,tb,F1,F2,rfl,h1,h2,h3,k1,k2,hBl,hS,hT⟩
 obtain ⟨tb',F2',hc',hT',hsub',hbF',hup',_⟩:=hK.tb
 obtain ⟨hc1,hc2⟩:=hB
 have e0:cellH H ⟨b,0,none⟩=some (.pointer (some ⟨sb0,0,none⟩)):=hBl.cell 0
 rw [e0] at hc1
 have e:sb0=sb:=by simpa using hc1
 subst e
 have hbl:=hK.lt b hK.bmem
 have hsl:=hS.lt _ hS.bmem
 refine ⟨tb,F2,hBl.cell 1,hT,fun H' F2' t' hT2 hu=>⟨?_,?_,?_⟩⟩
 ·have hlt:=hK.lt
  have hgl:=hK.kinds.lt
  have hgS:=hS.gk
  refine ⟨b :: (F1++F2'),⟨_,tb,F1,F2',rfl,h1,Up.out hu h2 hbl,fun x hx hx2=>?_,k1,Up.out hu k2 hgl,hBl.fr hu.1 h2,hS.fr hu.1 h3 k2,hT2⟩,hu.1.mono fun x hx=>by simp [hx],fun x hx=>?_⟩
  ·rcases hu.2 x hx2 with h4 | h4
   ·exact h3 x hx h4
   ·have:=hlt x (by simp [hx]);omega
  ·rcases List.mem_cons.1 hx with rfl | hx
   ·exact .inl (by simp)
   ·rcases List.mem_append.1 hx with hx | hx
    ·exact .inl (by simp [hx])
    ·exact (hu.2 x hx).imp (fun h4=>by simp [h4]) id
 ·rw [cell_fr hu.1 h2 hbl];exact e0
 ·rw [cell_fr hu.1 (h3 _ hS.bmem) hsl];exact hc2
theorem put_all {r:RH} (h:∀ k x,objAt r.objs k=some x→x.fmt=0) (k i w:Int):∀ j x,objAt (r.put k i w).2.objs j=some x→x.fmt=0:=fun j x hx=>by
 obtain ⟨y,h1,h2⟩:=put_fmt k i w j hx
 rw [h2];exact h j y h1
theorem lay_all (o:Int) (l:List Int):∀ (i:Int){r:RH},(∀ k x,objAt r.objs k=some x→x.fmt=0)→∀ j x,objAt (r.lay o i l).objs j=some x→x.fmt=0:=by
 induction l with
 | nil=>intro i r h;exact h
 | cons w l ih=>intro i r h;exact ih (i+1) (put_all h o i w)
theorem fillN_all {r:RH} (h:∀ k x,objAt r.objs k=some x→x.fmt=0) (n:Nat):∀ j x,objAt (fillN r n).objs j=some x→x.fmt=0:=by
 induction n with
 | zero=>exact h
 | succ n ih=>exact put_all (lay_all _ _ _ ih) _ _ _
theorem fill_k (hK:PK H b F s ⟨4096,[]⟩) (hB:HB H b sb hb) (hfmt:∀ k x,objAt s.h.objs k=some x→x.fmt=0)
  (h:∀ H' F',PK H' b F' { s with h:=bootH s.h } bootT→HB H' b sb hb→Up F H F' H'→Q (.tuple #[]) H'):callS PP n_k52 #[.pointer (some ⟨b,0,none⟩)] Q H:=by
 have h14:kNames.length=14:=rfl
 apply k52_ok
 unfold k52 A0 iV wW pV sV lV cS
 obtain ⟨sb0,F1,hc,hS,_⟩:=hK.sp
 have e0:sb0=sb:=by
  have:=hB.1
  rw [hc] at this;simpa using this
 subst e0
 refine ⟨_,rfl,_,hc,?_⟩
 have hps:∀ {Q':Value→Heap→Prop},Q' (.pointer (some ⟨hb,0,none⟩)) H→callS PP n_k20 #[.pointer (some ⟨sb0,0,none⟩)] Q' H:=by
  intro Q' hq
  obtain ⟨hb',F1',hR,c0,_⟩:=hS.upd
  obtain ⟨hc1,hc2⟩:=hB
  rw [c0] at hc2
  have e:hb'=hb:=by simpa using hc2
  subst e
  apply k20_ok
  unfold k20 pV
  refine sgone_c hS ⟨_,rfl,?_⟩
  simp only [cond_false]
  exact ⟨_,rfl,_,c0,hq⟩
 refine hps ⟨_,rfl,?_⟩
 apply k48_ok
 unfold k48 A0 sV lV
 refine ⟨_,_,_,rfl,?_⟩
 have fp:=(Fr.push [] H (.cells (strsV kNames).toArray 9))
 have hN:Rd 1 (H.push (.cells (strsV kNames).toArray 9)) (some ⟨H.size,0,none⟩) 14 (strsV kNames):=by
  refine ⟨rfl,(fun h=>by cases h),fun p hp k hk=>?_⟩
  cases hp
  rw [add_none,Nat.zero_add,(Blk.new H _ _).cell]
  simp
 have hNo:Out (H.push (.cells (strsV kNames).toArray 9)) (some ⟨H.size,0,none⟩) F:=fun p hp=>by
  cases hp
  exact ⟨by simp,fun hm=>absurd (hK.lt _ hm) (Nat.lt_irrefl _)⟩
 have hK1:=hK.nil fp
 have hB1:HB (H.push (.cells (strsV kNames).toArray 9)) b sb0 hb:=HB.nil hB fp
 show ∃(I8:List Value→Heap→Prop) (μ8:List Value→Heap→Nat),I8 [.int .i64 0] (H.push (.cells (strsV kNames).toArray 9))∧_
 generalize (H.push (.cells (strsV kNames).toArray 9))=H0 at fp hN hNo hK1 hB1 ⊢
 refine ⟨fun w H'=>∃(i:Nat) (F':Foot),w=[.int .i64 i]∧i≤14∧PK H' b F' { s with h:=fillN s.h i } ⟨4096,kNames.take i⟩∧HB H' b sb0 hb∧Up F H0 F' H',fun w _=>match w with
  | [.int _ i]=>(14-i).toNat
  | _=>0,⟨0,F,rfl,by decide,hK1,hB1,Up.refl _ _⟩,?_⟩
 rintro w H3 ⟨i,F3,rfl,hi,hK3,hB3,hu3⟩ _
 refine ⟨_,rfl,?_⟩
 rw [cond_dec]
 refine ite_i (fun hlt=>?_) fun hlt=>?_
 ·have hlt':i<kNames.length:=by omega
  obtain ⟨p,hlt2,hp,hcell⟩:=(hNo.rd hu3 hN).str (i:=(i:Int)) (by omega) (by omega)
  cases hp
  simp only [Int.toNat_natCast] at hcell hlt2
  have e1:IntKind.wrap .i64 ((i:Int)+1)=((i+1:Nat):Int):=by rw [wrap64_id (by omega) (by omega)];omega
  have e1':IntKind.wrap .i64 ((i:Int)+1)=(i:Int)+1:=wrap64_id (by omega) (by omega)
  have e4:IntKind.wrap .i64 (4+(i:Int))=4+(i:Int):=wrap64_id (by omega) (by omega)
  obtain ⟨tb,F4,hc4,hT4,hup4⟩:=PK.tbB hK3 hB3
  refine ⟨⟨by omega,hlt⟩,_,rfl,_,by rw [Int.toNat_natCast,Nat.mul_one];exact hcell,_,rfl,_,hc4,ptAdd_c hT4 fun H4 F4' hT4' hu4=>⟨_,_,rfl,?_⟩⟩
  rw [bootAdd hlt'] at hT4' ⊢
  obtain ⟨⟨F5,hK5,hu5⟩,hB5⟩:=hup4 H4 F4' _ hT4' hu4
  refine sym_c ⟨by simp only;omega,by simp only;omega⟩ ⟨_,_,rfl,object_c (by decide) ⟨_,rfl,?_⟩⟩
  refine ⟨fun w H'=>w=[.int .i64 (if i=0 then 4 else 16)]∧H'=H4,?_,?_⟩
  ·rw [beqI,cond_dec]
   refine ite_i (fun h0=>object_c (by decide) ⟨_,rfl,?_,rfl⟩) fun h0=>⟨?_,rfl⟩
   ·rw [if_pos (by omega)];rfl
   ·rw [if_neg (by omega)];rfl
  rintro w H4' ⟨rfl,rfl⟩ _
  refine ⟨_,rfl,object_c (by decide) ⟨_,rfl,object_c (by decide) ⟨_,rfl,object_c (by decide) ⟨_,rfl,integer_c (by decide) ⟨_,rfl,?_⟩⟩⟩⟩⟩
  rw [e1',e4]
  refine integer_c ⟨by omega,by omega⟩ ⟨_,rfl,?_⟩
  have fq:=(Fr.push [] H4' (.cells (intsV (fillW i)).toArray 36))
  have hW:Rd 1 (H4'.push (.cells (intsV (fillW i)).toArray 36)) (some ⟨H4'.size,0,none⟩) 7 (intsV (fillW i)):=rd_new (cs:=fillW i)
  have hWo:Out (H4'.push (.cells (intsV (fillW i)).toArray 36)) (some ⟨H4'.size,0,none⟩) F5:=fun p hp=>by
   cases hp
   exact ⟨by simp,fun hm=>absurd (hK5.lt _ hm) (Nat.lt_irrefl _)⟩
  have hK6:=hK5.nil fq
  have hB6:HB (H4'.push (.cells (intsV (fillW i)).toArray 36)) b sb0 hb:=HB.nil hB5 fq
  show ∃(I38:List Value→Heap→Prop) (μ38:List Value→Heap→Nat),I38 [.int .i64 0] (H4'.push (.cells (intsV (fillW i)).toArray 36))∧_
  generalize (H4'.push (.cells (intsV (fillW i)).toArray 36))=H6 at fq hW hWo hK6 hB6 ⊢
  refine ⟨fun w H'=>∃(k:Nat) (r:RH),w=[.int .i64 k]∧k≤7∧PK H' b F5 { s with h:=r } ⟨4096,kNames.take (i+1)⟩∧HB H' b sb0 hb∧Fr F5 H6 H'∧r.lay (4+i) k ((fillW i).drop k)=(fillN s.h i).lay (4+i) 0 (fillW i)∧∀ j x,objAt r.objs j=some x→x.fmt=0,fun w _=>match w with
   | [.int _ k]=>(7-k).toNat
   | _=>0,⟨0,fillN s.h i,rfl,by decide,hK6,hB6,Fr.refl _ _,rfl,fillN_all hfmt i⟩,?_⟩
  rintro w H7 ⟨k,r,rfl,hk7,hK7,hB7,hf7,hlay,hr⟩ _
  refine ⟨_,rfl,?_⟩
  rw [cond_dec]
  refine ite_i (fun hkl=>?_) fun hkl=>?_
  ·have hkl':k<(fillW i).length:=by show k<7;omega
   obtain ⟨p,hp,hcell,hlt3⟩:=(hW.fr' hf7 fun p hp=>(hWo p hp).2).int (i:=(k:Int)) (by omega) (by omega)
   cases hp
   rw [Int.toNat_natCast] at hcell hlt3
   have hx:(fillW i).getD k 0=(fillW i)[k]:=by simp [hkl']
   rw [hx] at hcell
   have ed:(fillW i).drop k=(fillW i)[k] :: (fillW i).drop (k+1):=List.drop_eq_getElem_cons hkl'
   have ek:IntKind.wrap .i64 ((k:Int)+1)=((k+1:Nat):Int):=by rw [wrap64_id (by omega) (by omega)];omega
   obtain ⟨F8,hR8,hsub8,hup8⟩:=PK.hp hK7 hB7
   refine ⟨⟨by omega,hkl⟩,_,rfl,_,by rw [Int.toNat_natCast,Nat.mul_one];exact hcell,put_c hR8 (hr _) fun H9 hR9 hf9=>⟨_,rfl,?_⟩⟩
   obtain ⟨hK9,hB9⟩:=hup8 H9 _ hR9 hf9
   rw [ek]
   refine ⟨⟨k+1,(r.put (4+i) k (fillW i)[k]).2,rfl,by omega,hK9,hB9,hf7.trans (hf9.mono hsub8),?_,put_all hr _ _ _⟩,by simp;omega⟩
   rw [←hlay,ed]
   rfl
  ·have hk:k=7:=by omega
   subst hk
   have hz:(fillW i).drop 7=[]:=rfl
   rw [hz] at hlay
   simp only [RH.lay] at hlay
   subst hlay
   refine object_c ⟨by omega,by omega⟩ ⟨_,rfl,?_⟩
   obtain ⟨F8,hR8,hsub8,hup8⟩:=PK.hp hK7 hB7
   refine put_c hR8 (hr _) fun H9 hR9 hf9=>⟨_,rfl,?_⟩
   obtain ⟨hK9,hB9⟩:=hup8 H9 _ hR9 hf9
   rw [show (i:Int)+1=((i+1:Nat):Int) by omega]
   refine ⟨⟨i+1,F5,rfl,by omega,hK9,hB9,?_⟩,by simp;omega⟩
   exact (hu3.trans hu5).trans ((Up.of_nil fq).trans ⟨hf7.trans (hf9.mono hsub8),fun _ h=>.inl h⟩)
 ·have hi14:i=14:=by omega
  subst hi14
  have fq:=(Fr.push [] H3 (.cells (intsV [20,18,18,18,1,2,3]).toArray 3))
  have hW:Rd 1 (H3.push (.cells (intsV [20,18,18,18,1,2,3]).toArray 3)) (some ⟨H3.size,0,none⟩) 7 (intsV [20,18,18,18,1,2,3]):=rd_new (cs:=[20,18,18,18,1,2,3])
  have hWo:Out (H3.push (.cells (intsV [20,18,18,18,1,2,3]).toArray 3)) (some ⟨H3.size,0,none⟩) F3:=fun p hp=>by
   cases hp
   exact ⟨by simp,fun hm=>absurd (hK3.lt _ hm) (Nat.lt_irrefl _)⟩
  have hK6:=hK3.nil fq
  have hB6:HB (H3.push (.cells (intsV [20,18,18,18,1,2,3]).toArray 3)) b sb0 hb:=HB.nil hB3 fq
  show ∃(I38:List Value→Heap→Prop) (μ38:List Value→Heap→Nat),I38 [.int .i64 0] (H3.push (.cells (intsV [20,18,18,18,1,2,3]).toArray 3))∧_
  generalize (H3.push (.cells (intsV [20,18,18,18,1,2,3]).toArray 3))=H6 at fq hW hWo hK6 hB6 ⊢
  refine ⟨fun w H'=>∃(k:Nat) (r:RH),w=[.int .i64 k]∧k≤7∧PK H' b F3 { s with h:=r } bootT∧HB H' b sb0 hb∧Fr F3 H6 H'∧r.lay 19 k (fillR.drop k)=bootH s.h∧∀ j x,objAt r.objs j=some x→x.fmt=0,fun w _=>match w with
   | [.int _ k]=>(7-k).toNat
   | _=>0,⟨0,fillN s.h 14,rfl,by decide,by rw [show bootT=⟨4096,kNames.take 14⟩ from rfl];exact hK6,hB6,Fr.refl _ _,by rw [bootH];rfl,fillN_all hfmt 14⟩,?_⟩
  rintro w H7 ⟨k,r,rfl,hk7,hK7,hB7,hf7,hlay,hr⟩ _
  refine ⟨_,rfl,?_⟩
  rw [cond_dec]
  refine ite_i (fun hkl=>?_) fun hkl=>?_
  ·have hkl':k<7:=by omega
   obtain ⟨p,hp,hcell,hlt3⟩:=(hW.fr' hf7 fun p hp=>(hWo p hp).2).int (i:=(k:Int)) (by omega) (by omega)
   cases hp
   rw [Int.toNat_natCast] at hcell hlt3
   have ek:IntKind.wrap .i64 ((k:Int)+1)=((k+1:Nat):Int):=by rw [wrap64_id (by omega) (by omega)];omega
   have hx:1≤([20,18,18,18,1,2,3]:List Int).getD k 0∧([20,18,18,18,1,2,3]:List Int).getD k 0≤65536∧fillR.drop k=4*([20,18,18,18,1,2,3]:List Int).getD k 0 :: fillR.drop (k+1):=by
    rcases k with _ | _ | _ | _ | _ | _ | _ | k
    all_goals first | exact ⟨by decide,by decide,by decide⟩ | omega
   obtain ⟨F8,hR8,hsub8,hup8⟩:=PK.hp hK7 hB7
   refine ⟨⟨by omega,hkl⟩,_,rfl,_,by rw [Int.toNat_natCast,Nat.mul_one];exact hcell,object_c ⟨hx.1,hx.2.1⟩ ⟨_,rfl,put_c hR8 (hr _) fun H9 hR9 hf9=>⟨_,rfl,?_⟩⟩⟩
   obtain ⟨hK9,hB9⟩:=hup8 H9 _ hR9 hf9
   rw [ek]
   refine ⟨⟨k+1,_,rfl,by omega,hK9,hB9,hf7.trans (hf9.mono hsub8),?_,put_all hr _ _ _⟩,by simp;omega⟩
   rw [←hlay,hx.2.2]
   rfl
  ·have hk:k=7:=by omega
   subst hk
   have hz:fillR.drop 7=[]:=rfl
   rw [hz] at hlay
   have hlay':r=bootH s.h:=hlay
   rw [hlay'] at hK7
   have hu7:Up F3 H3 F3 H7:=(Up.of_nil fq).trans ⟨hf7,fun _ h=>.inl h⟩
   have hu9:Up F H F3 H7:=((Up.of_nil fp).trans hu3).trans hu7
   exact h H7 F3 hK7 hB7 hu9
end
end Go.Proofs.YtmkdkplipbocjaaGreatDoor
