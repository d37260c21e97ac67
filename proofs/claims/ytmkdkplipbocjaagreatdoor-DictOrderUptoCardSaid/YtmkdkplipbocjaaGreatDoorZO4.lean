/- Lemmas for ROrder: functions of the program as predicate transformers, and their contracts. -/
import Derived.Test.YtmkdkplipbocjaaGreatDoorZO3
import Derived.ProofKit
import Derived.Test.YtmkdkplipbocjaaGreatDoorCards
import Derived.Test.YtmkdkplipbocjaaGreatDoorTie
import Derived.LaidLaws
import Derived.Handed
import Derived.Lib.LaidU8
import Derived.Deep.Strs
import Derived.WideKeyArgs
import Derived.SizedLaws
set_option linter.all false
set_option maxRecDepth 100000
set_option maxHeartbeats 4000000
namespace Kw
open Go
def gB (s:ByteArray) (i:Nat):Nat:=(s[i]?.getD 0).toNat
theorem gB_some {s:ByteArray}{i:Nat}{u:UInt8} (h:s[i]?=some u):gB s i=u.toNat:=by unfold gB;rw [h];rfl
def alnum (n:Nat):Prop:=(97≤n∧n≤122)∨(65≤n∧n≤90)∨(48≤n∧n≤57)
instance (n:Nat):Decidable (alnum n):=inferInstanceAs (Decidable (_∨_∨_))
def nameOk (lo hi:Nat) (s:ByteArray):Prop:=1≤s.size∧s.size≤32∧lo≤gB s 0∧gB s 0≤hi∧∀ i,i<s.size→alnum (gB s i)
noncomputable instance (lo hi:Nat) (s:ByteArray):Decidable (nameOk lo hi s):=Classical.propDecidable _
def resvd (s:ByteArray):Prop:=s=⟨#[115,101,108,102]⟩∨s=⟨#[115,117,112,101,114]⟩∨s=⟨#[110,105,108]⟩∨s=⟨#[116,114,117,101]⟩∨s=⟨#[102,97,108,115,101]⟩
instance (s:ByteArray):Decidable (resvd s):=inferInstanceAs (Decidable (_∨_))
def fieldOk (s:ByteArray):Prop:=¬ resvd s∧nameOk 97 122 s
noncomputable instance (s:ByteArray):Decidable (fieldOk s):=Classical.propDecidable _
noncomputable instance memBA (s:ByteArray) (l:List ByteArray):Decidable (s∈l):=Classical.propDecidable _
noncomputable def ownE (inh pre:List ByteArray):List ByteArray→Int
 | []=>0
 | s :: l=>if ¬ fieldOk s then 133 else if s∈pre then 134 else if s∈inh then 135 else ownE inh (pre++[s]) l
def takenK (v:KV) (t:TB) (name:ByteArray):Prop:=(findK v t name).2=0∨name∈globsK v t
noncomputable instance (v:KV) (t:TB) (name:ByteArray):Decidable (takenK v t name):=Classical.propDecidable _
noncomputable def defK (v:KV) (t:TB) (name sup:ByteArray) (own:List ByteArray):Int × Int :=
 if ¬ nameOk 65 90 name then (0,133)
 else if takenK v t name then (0,131)
 else if (findK v t sup).2≠0 then (0,(findK v t sup).2)
 else match plK v (findK v t sup).1 with
  | none=>(0,130)
  | some j=>if 1≤j∧j<14 then (0,132)
   else if ownE ((fieldsK v j).map (tx t)) [] own≠0 then (0,ownE ((fieldsK v j).map (tx t)) [] own)
   else if 32<(fieldsK v j).length+own.length then (0,137)
   else if 256≤v.cls.length then (0,138)
   else ((findK v t sup).1,0)
theorem findK_cases (v:KV) (t:TB) (name:ByteArray):(findK v t name=(0,130)∧∀ c∈v.cls,tx t c.name≠name)∨∃ i,∃ hi:i<v.cls.length,findK v t name=((v.cls[i]).oop,0)∧tx t (v.cls[i]).name=name:=by
 unfold findK
 cases hx:v.cls.findIdx? (fun c=>decide (tx t c.name=name)) with
 | none =>
  left
  rw [List.findIdx?_eq_none_iff] at hx
  exact ⟨rfl,fun c hc=>by simpa using hx c hc⟩
 | some i =>
  right
  rw [List.findIdx?_eq_some_iff_getElem] at hx
  obtain ⟨hi,h1,_⟩:=hx
  exact ⟨i,hi,by simp [hi],by simpa using h1⟩
noncomputable def kDefineAll (s:SP) (v:KV) (t:TB) (name sup:ByteArray) (own:List ByteArray):(Int × Int) × SP × TB :=
 if (defK v t name sup own).2≠0 then ((0,(defK v t name sup own).2),s,t) else kDefine s t v.clsW name (defK v t name sup own).1 own
noncomputable def globK (v:KV) (t:TB) (name:ByteArray):Int :=
 if ¬ nameOk 65 90 name then 133 else if takenK v t name then 131 else if 256≤v.glob.length then 138 else 0
noncomputable def kGlobalAll (s:SP) (v:KV) (t:TB) (name:ByteArray):Int × SP × TB :=
 if globK v t name≠0 then (globK v t name,s,t) else kGlobal s t (globW v.glob) name
theorem defK_ok {s:SP}{v:KV}{t:TB} (hv:KAll s t v){name sup:ByteArray}{own:List ByteArray} (h:(defK v t name sup own).2=0) :
  ∃ j,∃ hj:j<v.cls.length,(defK v t name sup own).1=(v.cls[j]).oop∧v.cls.length<256∧(∀ c∈v.cls,tx t c.name≠name)∧findK v t sup=((v.cls[j]).oop,0)∧plK v (v.cls[j]).oop=some j:=by
 unfold defK at h ⊢
 split at h
 ·cases h
 rename_i h1
 split at h
 ·cases h
 rename_i h2
 split at h
 ·rename_i h3;exact absurd h h3
 rename_i h3
 rw [if_neg h1,if_neg h2,if_neg h3]
 rcases findK_cases v t sup with ⟨e,_⟩ | ⟨j,hj,e,_⟩
 ·rw [e] at h3;simp at h3
 rw [e] at h ⊢
 have hp:=hv.ks.idx hj
 simp only [hp] at h ⊢
 split at h
 ·cases h
 rename_i h4
 split at h
 ·rename_i h5;exact absurd h h5
 rename_i h5
 split at h
 ·cases h
 rename_i h6
 split at h
 ·cases h
 rename_i h7
 rw [if_neg h4,if_neg h5,if_neg h6,if_neg h7]
 refine ⟨j,hj,rfl,by omega,?_,rfl,hp⟩
 rcases findK_cases v t name with ⟨_,h8⟩ | ⟨i,hi,e',_⟩
 ·exact h8
 ·exact absurd (.inl (by rw [e'])) h2
theorem defK_len {v:KV}{t:TB}{name sup:ByteArray}{own:List ByteArray} (h:(defK v t name sup own).2=0):own.length≤32:=by
 unfold defK at h
 split at h
 ·cases h
 split at h
 ·cases h
 split at h
 ·rename_i h3;exact absurd h h3
 split at h
 ·cases h
 split at h
 ·cases h
 split at h
 ·rename_i h5;exact absurd h h5
 split at h
 ·cases h
 ·omega
end Kw
namespace Kw
open Go
def bootPlan:List (Int × Int):=[(5,0),(6,0),(7,0),(12,7),(12,7),(12,7),(12,7),(12,7),(12,7),(12,7),(12,7),(12,7),(12,7),(12,7),(12,7),(12,7),(12,7),(11,0),(11,8),(11,14)]
def RH.allocAll (r:RH):List (Int × Int)→Int × RH
 | []=>(0,r)
 | (c,n) :: l=>if (r.alloc (4*c) n 0).1.2≠0 then ((r.alloc (4*c) n 0).1.2,(r.alloc (4*c) n 0).2) else RH.allocAll (r.alloc (4*c) n 0).2 l
def growO (p:List RO × Int) (x:Int × Int):List RO × Int:=(p.1++[⟨lowFree p.1,0,endL p.1,p.2,4*x.1,List.replicate x.2.toNat 4⟩],IntKind.wrap .i64 (p.2+1))
def growAll (p:List RO × Int):List (Int × Int)→List RO × Int
 | []=>p
 | x :: l=>growAll (growO p x) l
theorem alloc_grow {r:RH} (hm:r.mark=0){c n:Int} (h:(r.alloc (4*c) n 0).1.2=0):(r.alloc (4*c) n 0).2={ r with objs:=(growO (r.objs,r.born) (c,n)).1,born:=(growO (r.objs,r.born) (c,n)).2 }:=by
 unfold RH.alloc at h ⊢
 split at h
 ·cases h
 rename_i g1
 split at h
 ·cases h
 rename_i g2
 split at h
 ·cases h
 rename_i g3
 split at h
 ·cases h
 rename_i g4
 rw [if_neg g1,if_neg g2,if_neg g3,if_neg g4]
 simp [growO,newO,hm]
theorem allocAll_grow (l:List (Int × Int)):∀ {r:RH},r.mark=0→(r.allocAll l).1=0→(r.allocAll l).2={ r with objs:=(growAll (r.objs,r.born) l).1,born:=(growAll (r.objs,r.born) l).2 }:=by
 induction l with
 | nil=>intro r _ _;rfl
 | cons x l ih =>
  intro r hm h
  obtain ⟨c,n⟩:=x
  unfold RH.allocAll at h ⊢
  split at h
  ·rename_i hn;exact absurd h hn
  rename_i hn
  rw [if_neg hn]
  have e:=alloc_grow hm (Classical.byContradiction hn)
  have:=ih (r:=(r.alloc (4*c) n 0).2) (by rw [e];exact hm) h
  rw [this,e]
  rfl
theorem allocAll_wf (l:List (Int × Int)):∀ {r:RH},WFH r→WFH (r.allocAll l).2:=by
 induction l with
 | nil=>intro r h;exact h
 | cons x l ih =>
  intro r h
  obtain ⟨c,n⟩:=x
  unfold RH.allocAll
  split
  ·exact alloc_wf h _ _ _
  ·exact ih (alloc_wf h _ _ _)
def kNames:List ByteArray:=[⟨#[79,98,106,101,99,116]⟩,⟨#[85,110,100,101,102,105,110,101,100,79,98,106,101,99,116]⟩,⟨#[70,97,108,115,101]⟩,⟨#[84,114,117,101]⟩,⟨#[73,110,116,101,103,101,114]⟩,⟨#[83,121,109,98,111,108]⟩,⟨#[83,116,114,105,110,103]⟩,⟨#[65,114,114,97,121]⟩,⟨#[67,108,97,115,115]⟩,⟨#[77,101,116,104,111,100]⟩,⟨#[66,108,111,99,107]⟩,⟨#[67,111,110,116,101,120,116]⟩,⟨#[80,114,111,99,101,115,115]⟩,⟨#[77,101,115,115,97,103,101]⟩]
def fillW (i:Nat):List Int:=[4*(i:Int)+2,if i=0 then 4 else 16,72,72,72,1,2*((i:Int)+1)+1]
def fillC (i:Nat) (r:RH):RH:=((r.lay (4+i) 0 (fillW i)).put 20 i (4*(4+i))).2
def fillN (r:RH):Nat→RH
 | 0=>r
 | n+1=>fillC n (fillN r n)
def fillR:List Int:=[80,72,72,72,4,8,12]
def bootH (r:RH):RH:=(fillN r 14).lay 19 0 fillR
def bootL:List RO:=(growAll ([],0) bootPlan).1
def bootR0 (words oops:Int):RH:=⟨words,oops,0,0,0,[]⟩
def bootRH (words oops:Int):RH:=bootH (((bootR0 words oops).allocAll bootPlan).2)
def bootS (words oops:Int):SP:=⟨bootRH words oops,19,[],false,0,0,0⟩
def bootT:TB:=⟨4096,kNames⟩
def bootV:KV:=⟨(List.range 14).map fun i:Nat=>⟨4+i,i,if i=0 then 1 else 4,[],18,18,18,[],[],0⟩,20,[],18,[72,72,4,8,12,4]⟩
def bootO:List (Int × List Int):=[(1,[]),(2,[]),(3,[])]++(List.range 14).map (fun i:Nat=>((4+i:Int),fillW i))++[(18,[]),(19,[80,72,72,72,4,8,12,4]),(20,(List.range 14).map fun i:Nat=>4*(4+(i:Int)))]
theorem bootH_objs (w o m b t:Int):((bootH ⟨w,o,m,b,t,bootL⟩).objs.map fun x=>(x.oop,x.slots))=bootO:=by kernel_rfl
theorem bootH_fmt (w o m b t:Int):((bootH ⟨w,o,m,b,t,bootL⟩).objs.all fun x=>decide (x.fmt=0) && decide (kindW x.cls=3))=true:=by kernel_rfl
theorem bootL_fmt:(bootL.all fun x=>decide (x.fmt=0))=true:=by kernel_rfl
theorem kNames_good:(kNames.all fun s=>decide (goodText s))=true:=by kernel_rfl
theorem kNames_nodup:kNames.Nodup:=by decide +kernel
theorem newRH_wf' {words oops:Int} (h0:0≤words) (h1:words≤1048576) (h2:0≤oops) (h3:oops≤65536):WFH (bootR0 words oops) :=
 ⟨h0,h1,h2,h3,Int.le_refl _,by simp [bootR0],⟨by simp [bootR0],by simp [bootR0]⟩⟩
theorem fillN_wf {r:RH} (h:WFH r) (n:Nat):WFH (fillN r n):=by
 induction n with
 | zero=>exact h
 | succ n ih=>exact put_wf (lay_wf ih _ _ _) _ _ _
theorem bootH_wf {r:RH} (h:WFH r):WFH (bootH r):=lay_wf (fillN_wf h 14) _ _ _
theorem bootT_wf:WFT bootT:=⟨by decide,by decide,by decide,kNames_nodup,fun s hs=>by simpa using List.all_eq_true.1 kNames_good s hs⟩
theorem bootAdd {i:Nat} (hi:i<kNames.length):TB.add ⟨4096,kNames.take i⟩ kNames[i]=(((i:Int),0),⟨4096,kNames.take (i+1)⟩):=by
 have hg:goodText kNames[i]:=by simpa using List.all_eq_true.1 kNames_good _ (List.getElem_mem hi)
 have hn:numOf (kNames.take i) kNames[i]=none:=numOf_none.2 fun hm=>by
  obtain ⟨j,hj,e⟩:=List.getElem_of_mem hm
  rw [List.getElem_take] at e
  have:=(List.getElem_inj kNames_nodup).1 e
  simp only [List.length_take] at hj
  omega
 have h14:kNames.length=14:=rfl
 unfold TB.add
 rw [if_neg (by simpa using hg)]
 simp only [hn]
 rw [if_neg (by simp only [List.length_take];omega)]
 have e1:(kNames.take i).length=i:=by rw [List.length_take];omega
 rw [e1,List.take_add_one,List.getElem?_eq_getElem hi]
 rfl
theorem bootRoles:(bootV.roles.all fun p=>decide (p∈bootO))=true:=by kernel_rfl
theorem bootSep:Sep bootV:=by unfold Sep;decide +kernel
theorem bootO_eq {words oops:Int} (h:((bootR0 words oops).allocAll bootPlan).1=0):(bootRH words oops).objs=(bootH ⟨words,oops,0,20,0,bootL⟩).objs:=by
 have e:((bootR0 words oops).allocAll bootPlan).2=⟨words,oops,0,20,0,bootL⟩:=by
  rw [allocAll_grow bootPlan (r:=bootR0 words oops) rfl h]
  kernel_rfl
 unfold bootRH
 rw [e]
theorem bootArr {words oops:Int} (hw:WFH (bootRH words oops)) (h:((bootR0 words oops).allocAll bootPlan).1=0){p:Role} (hp:p∈bootO):Arr (bootRH words oops) p.1 p.2:=by
 have e:=bootO_eq h
 rw [←bootH_objs words oops 0 20 0,←e] at hp
 obtain ⟨x,hx,rfl⟩:=List.mem_map.1 hp
 have hf:=bootH_fmt words oops 0 20 0
 rw [←e] at hf
 have:=List.all_eq_true.1 hf x hx
 simp only [Bool.and_eq_true,decide_eq_true_eq] at this
 exact ⟨x,objAt_mem hw.objs hx,this.1,rfl⟩
theorem bootV_cls (i:Nat) (hi:i<bootV.cls.length):bootV.cls[i]=⟨4+i,i,if i=0 then 1 else 4,[],18,18,18,[],[],0⟩:=by simp [bootV]
theorem bootRH_wf {words oops:Int} (h0:0≤words) (h1:words≤1048576) (h2:0≤oops) (h3:oops≤65536):WFH (bootRH words oops):=by
 unfold bootRH
 exact bootH_wf (allocAll_wf _ (newRH_wf' h0 h1 h2 h3))
attribute [local irreducible] bootRH
theorem boot_ok {words oops:Int} (h0:0≤words) (h1:words≤1048576) (h2:0≤oops) (h3:oops≤65536) (h:((bootR0 words oops).allocAll bootPlan).1=0):KAll (bootS words oops) bootT bootV:=by
 have hw:WFH (bootRH words oops):=bootRH_wf h0 h1 h2 h3
 have hl:bootV.cls.length=14:=rfl
 refine ⟨⟨⟨hw,(by decide:(0:Int)≤19),(by decide:(19:Int)≤65536),(Nat.zero_le _:([]:List Int).length≤65536),fun w hw=>by cases hw⟩,?_,rfl,rfl,?_,bootSep,?_⟩,⟨bootT_wf,?_,?_,?_,?_⟩,rfl⟩
 ·intro x hx
  have hf:=bootH_fmt words oops 0 20 0
  rw [←bootO_eq h] at hf
  have:=List.all_eq_true.1 hf x hx
  simp only [Bool.and_eq_true,decide_eq_true_eq] at this
  exact this.2
 ·intro p hp
  exact bootArr hw h (of_decide_eq_true (List.all_eq_true.1 bootRoles p hp))
 ·refine ⟨rfl,by rw [hl];decide,by rw [hl];decide,by decide,fun _=>?_,fun i hi hpos=>?_,fun i hi h14=>?_,fun c hc=>?_⟩
  ·rw [bootV_cls];exact ⟨rfl,rfl⟩
  ·refine ⟨0,by decide,hpos,?_⟩
   rw [bootV_cls,bootV_cls]
   simp only
   rw [if_neg (by omega)]
   rfl
  ·rw [bootV_cls]
  ·obtain ⟨i,hi,rfl⟩:=List.getElem_of_mem hc
   rw [bootV_cls];simp
 ·intro c hc
  obtain ⟨i,hi,rfl⟩:=List.getElem_of_mem hc
  rw [bootV_cls]
  show i<14
  rw [hl] at hi;exact hi
 ·intro c hc n hn
  obtain ⟨i,hi,rfl⟩:=List.getElem_of_mem hc
  rw [bootV_cls] at hn
  cases hn
 ·intro p hp;cases hp
 ·have:bootV.cls.map (·.name)=List.range 14:=by kernel_rfl
  rw [this];exact List.nodup_range
end Kw
namespace Go.Proofs.YtmkdkplipbocjaaGreatDoor
open Kw
def RK (H:Heap) (b:Nat) (F:Foot) (s:SP) (t:TB):Prop:=∃ sb tb F1 F2,F=b :: (F1++F2)∧b∉F1∧b∉F2∧Disj F1 F2 ∧
 Blk H b #[.pointer (some ⟨sb,0,none⟩),.pointer (some ⟨tb,0,none⟩)]∧RSp H sb F1 s∧RTb H tb F2 t
theorem RK.lt {H:Heap}{b:Nat}{F:Foot}{s:SP}{t:TB} (h:RK H b F s t):∀ x∈F,x<H.size:=by
 obtain ⟨sb,tb,F1,F2,rfl,h1,h2,h3,hB,hS,hT⟩:=h
 intro x hx
 rcases List.mem_cons.1 hx with rfl | hx
 ·exact hB.lt
 ·rcases List.mem_append.1 hx with hx | hx
  ·exact hS.lt x hx
  ·exact hT.lt x hx
theorem RK.bmem {H:Heap}{b:Nat}{F:Foot}{s:SP}{t:TB} (h:RK H b F s t):b∈F:=by obtain ⟨_,_,_,_,rfl,_⟩:=h;simp
theorem RK.fr {H H':Heap}{b:Nat}{F G:Foot}{s:SP}{t:TB} (h:RK H b F s t) (hf:Fr G H H') (hd:Disj F G):RK H' b F s t:=by
 obtain ⟨sb,tb,F1,F2,rfl,h1,h2,h3,hB,hS,hT⟩:=h
 exact ⟨sb,tb,F1,F2,rfl,h1,h2,h3,hB.fr hf (hd b (by simp)),hS.fr hf (hd.mono (fun x hx=>by simp [hx]) fun _ h=>h),hT.fr hf (hd.mono (fun x hx=>by simp [hx]) fun _ h=>h)⟩
theorem RK.nil {H H':Heap}{b:Nat}{F:Foot}{s:SP}{t:TB} (h:RK H b F s t) (hf:Fr [] H H'):RK H' b F s t:=h.fr hf (Disj.nil_right _)
theorem RK.wfs {H:Heap}{b:Nat}{F:Foot}{s:SP}{t:TB} (h:RK H b F s t):WFS s:=by obtain ⟨_,_,_,_,_,_,_,_,_,hS,_⟩:=h;exact hS.wf
theorem RK.wft {H:Heap}{b:Nat}{F:Foot}{s:SP}{t:TB} (h:RK H b F s t):WFT t:=by obtain ⟨_,_,_,_,_,_,_,_,_,_,hT⟩:=h;exact hT.wf
theorem RK.sp {H:Heap}{b:Nat}{F:Foot}{s:SP}{t:TB} (h:RK H b F s t):∃ sb F1,cellH H ⟨b,0,none⟩=some (.pointer (some ⟨sb,0,none⟩))∧RSp H sb F1 s∧(∀ x∈F1,x∈F)∧b∉F1 ∧
  ∀ H' F1' s',RSp H' sb F1' s'→Up F1 H F1' H'→∃ F',RK H' b F' s' t∧Up F H F' H':=by
 have hlt:=h.lt
 obtain ⟨sb,tb,F1,F2,rfl,h1,h2,h3,hB,hS,hT⟩:=h
 refine ⟨sb,F1,hB.cell 0,hS,fun x hx=>by simp [hx],h1,fun H' F1' s' hS' hu=>⟨b :: (F1'++F2),⟨sb,tb,F1',F2,rfl,fun hx=>?_,h2,fun x hx hx2=>?_,hB.fr hu.1 h1,hS',hT.fr hu.1 h3.symm⟩,hu.1.mono fun x hx=>by simp [hx],fun x hx=>?_⟩⟩
 ·rcases hu.2 b hx with h4 | h4
  ·exact h1 h4
  ·have:=hlt b (by simp);omega
 ·rcases hu.2 x hx with h4 | h4
  ·exact h3 x h4 hx2
  ·have:=hlt x (by simp [hx2]);omega
 ·rcases List.mem_cons.1 hx with rfl | hx
  ·exact .inl (by simp)
  ·rcases List.mem_append.1 hx with hx | hx
   ·exact (hu.2 x hx).imp (fun h4=>by simp [h4]) id
   ·exact .inl (by simp [hx])
theorem RK.tb {H:Heap}{b:Nat}{F:Foot}{s:SP}{t:TB} (h:RK H b F s t):∃ tb F2,cellH H ⟨b,1,none⟩=some (.pointer (some ⟨tb,0,none⟩))∧RTb H tb F2 t∧(∀ x∈F2,x∈F)∧b∉F2 ∧
  ∀ H' F2' t',RTb H' tb F2' t'→Up F2 H F2' H'→∃ F',RK H' b F' s t'∧Up F H F' H':=by
 have hlt:=h.lt
 obtain ⟨sb,tb,F1,F2,rfl,h1,h2,h3,hB,hS,hT⟩:=h
 refine ⟨tb,F2,hB.cell 1,hT,fun x hx=>by simp [hx],h2,fun H' F2' t' hT' hu=>⟨b :: (F1++F2'),⟨sb,tb,F1,F2',rfl,h1,fun hx=>?_,fun x hx hx2=>?_,hB.fr hu.1 h2,hS.fr hu.1 h3,hT'⟩,hu.1.mono fun x hx=>by simp [hx],fun x hx=>?_⟩⟩
 ·rcases hu.2 b hx with h4 | h4
  ·exact h2 h4
  ·have:=hlt b (by simp);omega
 ·rcases hu.2 x hx2 with h4 | h4
  ·exact h3 x hx h4
  ·have:=hlt x (by simp [hx]);omega
 ·rcases List.mem_cons.1 hx with rfl | hx
  ·exact .inl (by simp)
  ·rcases List.mem_append.1 hx with hx | hx
   ·exact .inl (by simp [hx])
   ·exact (hu.2 x hx).imp (fun h4=>by simp [h4]) id
theorem RK.hp {H:Heap}{b:Nat}{F:Foot}{s:SP}{t:TB} (h:RK H b F s t):∃ sb hb F1,cellH H ⟨b,0,none⟩=some (.pointer (some ⟨sb,0,none⟩))∧cellH H ⟨sb,0,none⟩=some (.pointer (some ⟨hb,0,none⟩))∧RRep H hb F1 s.h∧(∀ x∈F1,x∈F)∧b∉F1 ∧
  ∀ H' F1' r',RRep H' hb F1' r'→Up F1 H F1' H'→∃ F',RK H' b F' { s with h:=r' } t∧Up F H F' H':=by
 obtain ⟨sb,F1,hc,hS,hsub,hbn,hup⟩:=h.sp
 obtain ⟨hb,F2,hR,c0,_,hsub2,_,hup2⟩:=hS.upd
 refine ⟨sb,hb,F2,hc,c0,hR,fun x hx=>hsub x (hsub2 x hx),fun hm=>hbn (hsub2 _ hm),fun H' F1' r' hR' hu=>?_⟩
 obtain ⟨F3,hS',hu'⟩:=hup2 H' F1' r' hR' hu
 exact hup H' F3 _ hS' hu'
def ktextW (t:TB) (w:Int):ByteArray:=if Int.tmod w 4≠2 then ⟨#[]⟩ else if h:0≤(w-2) / 4∧(w-2) / 4<t.texts.length then t.texts[((w-2) / 4).toNat]'(by omega) else ⟨#[]⟩
theorem ktextW_sym {t:TB} (hw:WFT t){n:Nat} (h:n<t.texts.length):ktextW t (symW n)=tx t n:=by
 unfold ktextW symW
 have e:(4*(n:Int)+2-2) / 4=n:=by omega
 rw [if_neg (by rw [Int.tmod_eq_emod_of_nonneg (by omega)];omega)]
 rw [dif_pos (by omega)]
 unfold tx
 rw [List.getD_eq_getElem?_getD,List.getElem?_eq_getElem h]
 simp only [Option.getD_some]
 congr 1
 omega
section
variable {H:Heap}{b:Nat}{F:Foot}{s:SP}{t:TB}{Q:QT}
theorem slot_r (hK:RK H b F s t){o i:Int} (h:Q (.int .i64 (kslot s.h o i)) H):callS PP n_k120 #[.pointer (some ⟨b,0,none⟩),.int .i64 o,.int .i64 i] Q H:=by
 obtain ⟨sb,hb,F1,hc,c0,hR,_⟩:=hK.hp
 apply k120_ok
 unfold k120 iV pV cS
 exact ⟨_,rfl,_,hc,_,rfl,_,c0,rat_c hR ⟨_,_,rfl,h⟩⟩
theorem text_r (hK:RK H b F s t){w:Int} (hw:I64 w) (h:Q (.string (ktextW t w)) H):callS PP n_k158 #[.pointer (some ⟨b,0,none⟩),.int .i64 w] Q H:=by
 apply k158_ok
 unfold k158 iV wW pV sV cS
 unfold ktextW at h
 rw [bneI,cond_dec]
 refine ite_i (fun h1=>?_) fun h1=>?_
 ·rw [if_pos h1] at h;exact h
 rw [if_neg h1] at h
 obtain ⟨tb,F2,hc,hT,_⟩:=hK.tb
 have hw1:=hw.1
 have hw2:=hw.2
 have h2:Int.tmod w 4=2:=Classical.byContradiction h1
 have hge:0≤w:=by
  rcases Int.lt_or_le w 0 with h3 | h3
  ·exfalso
   have h4:Int.tmod w 4≤0:=by
    have e:w=-(-w):=by omega
    rw [e,Int.neg_tmod,Int.tmod_eq_emod_of_nonneg (by omega)]
    omega
   omega
  ·exact h3
 have hm:w % 4=2:=by rw [←h2,Int.tmod_eq_emod_of_nonneg hge]
 have e1:IntKind.wrap .i64 (w-2)=w-2:=wrap64_id (by omega) (by omega)
 have e2:Int.tdiv (w-2) 4=(w-2) / 4:=Int.tdiv_eq_ediv_of_nonneg (by omega)
 have e3:IntKind.wrap .i64 ((w-2) / 4)=(w-2) / 4:=wrap64_id (by omega) (by omega)
 rw [e1,e2,e3]
 refine ⟨_,rfl,_,hc,ttext_c hT ?_⟩
 unfold textV
 split at h
 ·rename_i h5
  rw [dif_pos h5]
  exact ⟨_,_,rfl,h⟩
 ·rename_i h5
  rw [dif_neg h5]
  exact ⟨_,_,rfl,h⟩
theorem words_r (hK:RK H b F s t){o:Int} (h:∀ a l c G H',Own 1 H' a l c (intsV (kwords s.h o)) G→Fr [] H H'→(∀ x∈G,H.size≤x)→Q (.slice a l c) H'):callS PP n_k118 #[.pointer (some ⟨b,0,none⟩),.int .i64 o] Q H:=by
 have hs1:sliceInfo PP 108=some (1,8,some (.int .i64 0)):=by kernel_rfl
 have hn0:=size_nonneg (r:=s.h) o
 have hn1:=size_le hK.wfs.h o
 apply k118_ok
 unfold k118 A0 iV wW pV lV cS
 obtain ⟨sb,hb,F1,hc,c0,hR,_⟩:=hK.hp
 refine ⟨_,rfl,_,hc,_,rfl,_,c0,rsize_c hR ⟨_,_,_,rfl,?_⟩⟩
 show ∃(I11:List Value→Heap→Prop) (μ11:List Value→Heap→Nat),I11 [.slice none 0 0,.int .i64 0] H∧∀ w12 H2,I11 w12 H2→∀ _g:Nat→Value,∃ a13:Option Addr,∃ l13:Nat,∃ c13:Nat,∃ n14:Int,w12=[.slice a13 l13 c13,.int .i64 n14]∧cond (decide (n14<ksize s.h o)) _ _
 refine ⟨fun w H'=>∃(i:Nat) (a:Option Addr) (l' c:Nat) (G:Foot),w=[.slice a l' c,.int .i64 i]∧(i:Int)≤ksize s.h o∧Own 1 H' a l' c (intsV ((kwords s.h o).take i)) G∧Fr [] H H'∧(∀ x∈G,H.size≤x),fun w _=>match w with
  | [_,.int _ i]=>(ksize s.h o-i).toNat
  | _=>0,⟨0,none,0,0,[],rfl,hn0,by simpa [intsV] using Own.nil 1 H,Fr.refl _ _,by simp⟩,?_⟩
 rintro w H1 ⟨i,a1,l1,c1,G,rfl,hi,ho,hf1,hG⟩ _
 have hlen:(kwords s.h o).length=(ksize s.h o).toNat:=by simp [kwords]
 have hl1:l1=i:=by have:=ho.len;simp only [intsV,List.length_map,List.length_take] at this;omega
 refine ⟨_,_,_,_,rfl,?_⟩
 rw [cond_dec]
 refine ite_i (fun hlt=>?_) fun hlt=>?_
 ·have htk:(kwords s.h o).take (i+1)=(kwords s.h o).take i++[kslot s.h o i]:=by
   rw [List.take_add_one,List.getElem?_eq_getElem (by omega)];simp [kwords]
  have e:IntKind.wrap .i64 ((i:Int)+1)=((i+1:Nat):Int):=by rw [wrap64_id (by omega) (by omega)];omega
  refine slot_r (hK.nil hf1) ⟨_,rfl,?_⟩
  refine evS_append1 hs1 rfl (by kernel_rfl) ho rfl (by simp [oneC]) (by omega) (by decide) (by decide) fun a' c' G2 H3 g1 g2 g3=>⟨_,_,_,rfl,?_⟩
  have hfr:=Up.fresh hf1 g2 hG
  rw [e]
  refine ⟨⟨i+1,a',l1+1,c',G2,rfl,by omega,?_,hfr.1,hfr.2⟩,by simp;omega⟩
  rw [htk,intsV_append];exact g1
 ·rw [List.take_of_length_le (by omega)] at ho
  exact h _ _ _ _ H1 ho hf1 hG
end
theorem refOop_obj {o:Int} (h:1≤o):refOop (4*o)=o:=by
 unfold refOop;rw [if_pos (by omega)];omega
theorem I64_small {n:Int} (h0:-1000000000000≤n) (h1:n≤1000000000000):I64 n:=⟨by omega,by omega⟩
section
variable {H:Heap}{b:Nat}{F:Foot}{s:SP}{t:TB}{v:KV}{Q:QT}
theorem root_r (hK:RK H b F s t) (hv:KS s v){i:Int}{x:Int} (hx:kslot s.h 19 i=4*x) (h0:1≤x) (h1:x≤65536){Q:QT} (h:Q (.int .i64 x) H) :
  callS PP n_k120 #[.pointer (some ⟨b,0,none⟩),.int .i64 19,.int .i64 i] (fun v2 H1=>∃ n3:Int,v2=.int .i64 n3∧callS PP n_k119 #[.int .i64 n3] Q H1) H:=by
 refine slot_r hK ⟨_,rfl,?_⟩
 rw [hx]
 refine refOop13_c (I64_small (by omega) (by omega)) ?_
 rw [refOop_obj h0];exact h
theorem KS.s0 (h:KS s v):kslot s.h 19 0=4*v.clsA∧1≤v.clsA∧v.clsA≤65536:=by
 have hb:=h.view.all.bnd h.wf.h
 exact ⟨h.view.root.kslot (i:=0) (by simp [KV.rootW]),hb.1,hb.2.1⟩
theorem KS.s1 (h:KS s v):kslot s.h 19 1=4*v.globA∧1≤v.globA∧v.globA≤65536:=by
 have hb:=h.view.globs.bnd h.wf.h
 exact ⟨h.view.root.kslot (i:=1) (by simp [KV.rootW]),hb.1,hb.2.1⟩
def oopsK (v:KV):List Int:=v.cls.map (·.oop)
theorem all_r (hK:RK H b F s t) (hv:KS s v) (h:∀ a l c G H',Own 1 H' a l c (intsV (oopsK v)) G→Fr [] H H'→(∀ x∈G,H.size≤x)→Q (.slice a l c) H'):callS PP n_k40 #[.pointer (some ⟨b,0,none⟩)] Q H:=by
 have hs1:sliceInfo PP 66=some (1,8,some (.int .i64 0)):=by kernel_rfl
 have hm1:=hv.shape.many1
 obtain ⟨e0,b0,b1⟩:=KS.s0 hv
 apply k40_ok
 unfold k40 A0 iV wW pV lV cS
 refine root_r hK hv e0 b0 b1 ⟨_,rfl,words_r hK fun aw lw cw Gw H0 how hfw hGw=>⟨_,_,_,rfl,?_⟩⟩
 rw [show kwords s.h v.clsA=v.clsW from hv.view.all.kwords] at how
 have hlw:lw=v.cls.length:=by have:=how.len;simpa [intsV,KV.clsW] using this.symm
 have hlen:(oopsK v).length=v.cls.length:=by simp [oopsK]
 refine ⟨fun w H'=>∃(i:Nat) (a:Option Addr) (l' c:Nat) (G:Foot),w=[.slice a l' c,.int .i64 i]∧i≤v.cls.length∧Own 1 H' a l' c (intsV ((oopsK v).take i)) G∧Fr [] H0 H'∧(∀ x∈G,H0.size≤x),fun w _=>match w with
  | [_,.int _ i]=>(v.cls.length-i).toNat
  | _=>0,⟨0,none,0,0,[],rfl,Nat.zero_le _,by simpa [intsV] using Own.nil 1 H0,Fr.refl _ _,by simp⟩,?_⟩
 rintro w H1 ⟨i,a1,l1,c1,G,rfl,hi,ho,hf1,hG⟩ _
 have hl1:l1=i:=by have:=ho.len;simp only [intsV,List.length_map,List.length_take] at this;omega
 refine ⟨_,_,_,_,rfl,?_⟩
 rw [cond_dec]
 refine ite_i (fun hlt=>?_) fun hlt=>?_
 ·have hlt':i<v.cls.length:=by omega
  obtain ⟨p,rfl,hcell,hlt2⟩:=(how.rd.fr' hf1 (by simp)).int (i:=(i:Int)) (by omega) hlt
  rw [Int.toNat_natCast] at hcell hlt2
  have hx:v.clsW.getD i 0=4*(v.cls[i]).oop:=by simp [KV.clsW,hlt']
  rw [hx] at hcell
  have hb:=up_arr hv hlt'
  have htk:(oopsK v).take (i+1)=(oopsK v).take i++[(v.cls[i]).oop]:=by
   rw [List.take_add_one,List.getElem?_eq_getElem (by omega)];simp [oopsK]
  have e:IntKind.wrap .i64 ((i:Int)+1)=((i+1:Nat):Int):=by rw [wrap64_id (by omega) (by omega)];omega
  refine ⟨⟨by omega,hlt⟩,_,rfl,_,by rw [Int.toNat_natCast,Nat.mul_one];exact hcell,refOop13_c (I64_small (by omega) (by omega)) ⟨_,rfl,?_⟩⟩
  rw [refOop_obj hb.1]
  refine evS_append1 hs1 rfl (by kernel_rfl) ho rfl (by simp [oneC]) (by omega) (by decide) (by decide) fun a' c' G2 H3 g1 g2 g3=>⟨_,_,_,rfl,?_⟩
  have hfr:=Up.fresh hf1 g2 hG
  rw [e]
  refine ⟨⟨i+1,a',l1+1,c',G2,rfl,by omega,?_,hfr.1,hfr.2⟩,by simp;omega⟩
  rw [htk,intsV_append];exact g1
 ·rw [List.take_of_length_le (by omega)] at ho
  exact h _ _ _ _ H1 ho (hfw.trans hf1) fun x hx=>Nat.le_trans hfw.1 (hG x hx)
theorem rd_oops {a:Option Addr}{l c:Nat}{G:Foot} (ho:Own 1 H a l c (intsV (oopsK v)) G){H':Heap} (hf:Fr [] H H'){i:Nat} (hi:i<v.cls.length):∃ p,a=some p∧cellH H' (p.add (i*1))=some (.int .i64 (v.cls[i]).oop):=by
 have hl:l=v.cls.length:=by have:=ho.len;simpa [intsV,oopsK] using this.symm
 obtain ⟨p,hp,hcell,hlt2⟩:=(ho.rd.fr' hf (by simp)).int (i:=(i:Int)) (by omega) (by omega)
 rw [Int.toNat_natCast] at hcell
 refine ⟨p,hp,?_⟩
 rw [Nat.mul_one,hcell]
 simp [oopsK,hi]
def placeN (v:KV) (o:Int):Int:=match plK v o with
 | some i=>(i:Int)+1
 | none=>0
theorem place_r (hK:RK H b F s t) (hv:KS s v){o:Int} (h:∀ H',Fr [] H H'→Q (.int .i64 (placeN v o)) H'):callS PP n_k220 #[.pointer (some ⟨b,0,none⟩),.int .i64 o] Q H:=by
 have hm1:=hv.shape.many1
 apply k220_ok
 unfold k220 iV wW pV lV
 refine all_r hK hv fun a l c G H1 ho hf1 hG=>⟨_,_,_,rfl,?_⟩
 have hl:l=v.cls.length:=by have:=ho.len;simpa [intsV,oopsK] using this.symm
 refine ⟨fun w H'=>H'=H1∧∃ i:Nat,w=[.int .i64 i]∧i≤v.cls.length∧∀ j (hj:j<v.cls.length),j<i→(v.cls[j]).oop≠o,fun w _=>match w with
  | [.int _ i]=>(v.cls.length-i).toNat
  | _=>0,⟨rfl,0,rfl,Nat.zero_le _,fun j _ hj=>by omega⟩,?_⟩
 rintro w H2 ⟨rfl,i,rfl,hi,hall⟩ _
 refine ⟨_,rfl,?_⟩
 rw [cond_dec]
 refine ite_i (fun hlt=>?_) fun hlt=>?_
 ·have hlt':i<v.cls.length:=by omega
  obtain ⟨p,rfl,hcell⟩:=rd_oops ho (Fr.refl _ _) hlt'
  have e:IntKind.wrap .i64 ((i:Int)+1)=((i+1:Nat):Int):=by rw [wrap64_id (by omega) (by omega)];omega
  have hb:=(up_arr hv hlt').1
  refine ⟨⟨by omega,hlt⟩,_,rfl,_,by rw [Int.toNat_natCast];exact hcell,?_⟩
  rw [beqI,cond_dec]
  refine ite_i (fun he=>?_) fun he=>?_
  ·rw [cond_dec,if_pos (by omega),e]
   have:placeN v o=((i+1:Nat):Int):=by
    unfold placeN
    rw [←he,hv.idx hlt']
    simp
   rw [←this];exact h _ hf1
  ·rw [e]
   refine ⟨⟨rfl,i+1,rfl,by omega,fun j hj hji=>?_⟩,by simp;omega⟩
   rcases Nat.lt_or_ge j i with h5 | h5
   ·exact hall j hj h5
   ·have:j=i:=by omega
    subst this;exact he
 ·have:placeN v o=0:=by
   unfold placeN
   cases hp:plK v o with
   | none=>rfl
   | some j =>
    obtain ⟨hj,e⟩:=plK_some hp
    exact absurd e (hall j hj (by omega))
  rw [←this];exact h _ hf1
theorem up_r (hK:RK H b F s t) (hv:KS s v){i:Nat} (hi:i<v.cls.length) (h:Q (.int .i64 (superK v i)) H):callS PP n_k224 #[.pointer (some ⟨b,0,none⟩),.int .i64 (v.cls[i]).oop] Q H:=by
 have hb:=hv.upB hi
 apply k224_ok
 unfold k224 iV pV cS
 refine slot_r hK ⟨_,rfl,?_⟩
 rw [hv.c1 hi]
 refine refOop13_c (I64_small (by omega) (by omega)) ⟨_,rfl,?_⟩
 rw [refOop_obj hb.1,beqI,cond_dec]
 unfold superK at h
 rw [List.getElem?_eq_getElem hi] at h
 simp only at h
 refine ite_i (fun h1=>?_) fun h1=>?_
 ·rw [if_pos h1] at h;exact h
 ·rw [if_neg h1] at h;exact h
theorem name_r (hK:RK H b F s t) (hv:KAll s t v){i:Nat} (hi:i<v.cls.length){Q:QT} (h:Q (.string (tx t (v.cls[i]).name)) H) :
  callS PP n_k120 #[.pointer (some ⟨b,0,none⟩),.int .i64 (v.cls[i]).oop,.int .i64 0] (fun v2 H1=>∃ n3:Int,v2=.int .i64 n3∧callS PP n_k158 #[.pointer (some ⟨b,0,none⟩),.int .i64 n3] Q H1) H:=by
 have hn:=hv.names.name _ (List.getElem_mem hi)
 have h3:=hv.names.wf.m1
 have h4:=hv.names.wf.len
 refine slot_r hK ⟨_,rfl,?_⟩
 rw [hv.ks.c0 hi]
 refine text_r hK (I64_small (by unfold symW;omega) (by unfold symW;omega)) ?_
 rw [ktextW_sym hv.names.wf hn];exact h
theorem find_r (hK:RK H b F s t) (hv:KAll s t v){name:ByteArray} (h:∀ H',Fr [] H H'→Q (.tuple #[.int .i64 (findK v t name).1,.int .i64 (findK v t name).2]) H'):callS PP n_k110 #[.pointer (some ⟨b,0,none⟩),.string name] Q H:=by
 have hm1:=hv.ks.shape.many1
 apply k110_ok
 unfold k110 iV wW pV sV lV cS
 refine all_r hK hv.ks fun a l c G H1 ho hf1 hG=>⟨_,_,_,rfl,?_⟩
 have hl:l=v.cls.length:=by have:=ho.len;simpa [intsV,oopsK] using this.symm
 have hK1:=hK.nil hf1
 refine ⟨fun w H'=>H'=H1∧∃ i:Nat,w=[.int .i64 i]∧i≤v.cls.length∧∀ j (hj:j<v.cls.length),j<i→tx t (v.cls[j]).name≠name,fun w _=>match w with
  | [.int _ i]=>(v.cls.length-i).toNat
  | _=>0,⟨rfl,0,rfl,Nat.zero_le _,fun j _ hj=>by omega⟩,?_⟩
 rintro w H2 ⟨rfl,i,rfl,hi,hno⟩ _
 refine ⟨_,rfl,?_⟩
 rw [cond_dec]
 refine ite_i (fun hlt=>?_) fun hlt=>?_
 ·have hlt':i<v.cls.length:=by omega
  obtain ⟨p,rfl,hcell⟩:=rd_oops ho (Fr.refl _ _) hlt'
  have e:IntKind.wrap .i64 ((i:Int)+1)=((i+1:Nat):Int):=by rw [wrap64_id (by omega) (by omega)];omega
  refine ⟨⟨by omega,hlt⟩,_,rfl,_,by rw [Int.toNat_natCast];exact hcell,name_r hK1 hv hlt' ⟨_,rfl,?_⟩⟩
  rw [strEq_dec,cond_dec]
  refine ite_i (fun he=>?_) fun he=>?_
  ·have hfd:findK v t name=((v.cls[i]).oop,0):=by
    unfold findK
    have:v.cls.findIdx? (fun c=>decide (tx t c.name=name))=some i:=by
     rw [List.findIdx?_eq_some_iff_getElem]
     exact ⟨hlt',by simpa using he,fun j hj=>by simpa using hno j (by omega) hj⟩
    rw [this]
    simp [hlt']
   rw [hfd] at h
   exact ⟨⟨by omega,hlt⟩,_,rfl,_,by rw [Int.toNat_natCast];exact hcell,h _ hf1⟩
  ·rw [e]
   refine ⟨⟨rfl,i+1,rfl,by omega,fun j hj hji=>?_⟩,by simp;omega⟩
   rcases Nat.lt_or_ge j i with h1 | h1
   ·exact hno j hj h1
   ·have:j=i:=by omega
    subst this;exact he
 ·have hfd:findK v t name=(0,130):=by
   unfold findK
   have:v.cls.findIdx? (fun c=>decide (tx t c.name=name))=none:=by
    rw [List.findIdx?_eq_none_iff]
    intro c hc
    obtain ⟨j,hj,rfl⟩:=hv.ks.view.idx hc
    simpa using hno j hj (by omega)
   rw [this]
  rw [hfd] at h
  exact h _ hf1
theorem number_r (hK:RK H b F s t) (hv:KAll s t v){o:Int} (h:∀ H',Fr [] H H'→Q (match plK v o with | some i=>.tuple #[.int .i64 ((i:Int)+1),.int .i64 0] | none=>.tuple #[.int .i64 0,.int .i64 130]) H'):callS PP n_k189 #[.pointer (some ⟨b,0,none⟩),.int .i64 o] Q H:=by
 apply k189_ok
 unfold k189 iV pV
 refine place_r hK hv.ks fun H1 hf1=>⟨_,rfl,?_⟩
 have:=h H1 hf1
 unfold placeN
 cases hp:plK v o with
 | none=>rw [hp] at this;exact this
 | some i =>
  rw [hp] at this
  rw [beqI,cond_dec,if_neg (by simp only;omega)];exact this
theorem super_r (hK:RK H b F s t) (hv:KAll s t v){o:Int} (h:∀ H',Fr [] H H'→Q (match plK v o with | some i=>.tuple #[.int .i64 (superK v i),.int .i64 0] | none=>.tuple #[.int .i64 0,.int .i64 130]) H'):callS PP n_k191 #[.pointer (some ⟨b,0,none⟩),.int .i64 o] Q H:=by
 apply k191_ok
 unfold k191 iV pV cS
 refine place_r hK hv.ks fun H1 hf1=>⟨_,rfl,?_⟩
 have:=h H1 hf1
 unfold placeN
 cases hp:plK v o with
 | none=>rw [hp] at this;exact this
 | some i =>
  rw [hp] at this
  obtain ⟨hi,rfl⟩:=plK_some hp
  rw [beqI,cond_dec,if_neg (by simp only;omega)]
  exact up_r (hK.nil hf1) hv.ks hi ⟨_,rfl,this⟩
end
section
variable {H:Heap}{b:Nat}{F:Foot}{s:SP}{t:TB}{v:KV}{Q:QT}
theorem class_k (hK:PK H b F s t) (hv:KAll s t v){o:Int} (h:∀ H',Fr [] H H'→Q (.bool (plK v o).isSome) H'):callS PP n_k245 #[rd b,.int .i64 o] Q H:=by
 have hm1:=hv.ks.shape.many1
 apply k245_ok
 unfold k245 A0 iV wW pV cS
 have hf:Fr [] H (H.push (.cells #[.pointer (some ⟨b,0,none⟩)] 131)):=Fr.push _ _ _
 have hB:=Blk.new H #[.pointer (some ⟨b,0,none⟩)] 131
 refine ⟨_,hB.cell 0,num_k (hK.nil hf) fun H1 hf1=>⟨_,rfl,_,(hB.fr hf1 (by simp)).cell 0,?_⟩⟩
 have hF1:=hf.trans hf1
 refine root_k (hK.nil hF1) fun H2 hf2=>⟨_,rfl,?_⟩
 rw [hv.ks.root0]
 have hF2:=hF1.trans hf2
 have hB2:=(hB.fr hf1 (by simp)).fr hf2 (by simp)
 cases hp:plK v o with
 | some i =>
  rw [hp] at h
  obtain ⟨hi,he⟩:=plK_some hp
  have hb:=(up_arr hv.ks hi).1
  have hn:knum s.h o 6=(i:Int)+1:=by rw [←he];exact hv.ks.num hi
  rw [hn,cond_dec,if_pos (by omega),cond_dec,if_pos (by omega)]
  refine ⟨_,hB2.cell 0,size_k (hK.nil hF2) fun H3 hf3=>⟨_,rfl,?_⟩⟩
  rw [hv.ks.size0,cond_dec,if_pos (by omega)]
  refine ⟨_,(hB2.fr hf3 (by simp)).cell 0,oop_k (hK.nil (hF2.trans hf3)) fun H4 hf4=>⟨_,rfl,?_⟩⟩
  have e:IntKind.wrap .i64 ((i:Int)+1-1)=(i:Nat):=by rw [wrap64_id (by omega) (by omega)];omega
  rw [e,(hv.ks.clsAt hi).2,he]
  have:=h H4 ((hF2.trans hf3).trans hf4)
  simpa using this
 | none =>
  rw [hp] at h
  rw [cond_dec]
  refine ite_i (fun h1=>?_) fun h1=>h _ hF2
  rw [cond_dec]
  refine ite_i (fun h2=>?_) fun h2=>h _ hF2
  refine ⟨_,hB2.cell 0,size_k (hK.nil hF2) fun H3 hf3=>⟨_,rfl,?_⟩⟩
  rw [hv.ks.size0,cond_dec]
  refine ite_i (fun h3=>?_) fun h3=>h _ (hF2.trans hf3)
  refine ⟨_,(hB2.fr hf3 (by simp)).cell 0,oop_k (hK.nil (hF2.trans hf3)) fun H4 hf4=>⟨_,rfl,?_⟩⟩
  have hi:(knum s.h o 6-1).toNat<v.cls.length:=by omega
  have e:IntKind.wrap .i64 (knum s.h o 6-1)=((knum s.h o 6-1).toNat:Nat):=by rw [wrap64_id (by omega) (by omega)];omega
  have hne:=plK_none hp _ hi
  rw [e,(hv.ks.clsAt hi).2]
  have:=h H4 ((hF2.trans hf3).trans hf4)
  rw [beqI,decide_eq_false hne];exact this
theorem look_k (hK:PK H b F s t) (hv:KAll s t v){o:Int} (h1:∀ i,plK v o=some i→∀ H',Fr [] H H'→Q (.tuple #[rd b,.int .i64 0]) H') (h2:plK v o=none→∀ H',Fr [] H H'→Q (.tuple #[.agg #[.pointer none],.int .i64 130]) H'):callS PP n_k177 #[.pointer (some ⟨b,0,none⟩),.int .i64 o] Q H:=by
 apply k177_ok
 unfold k177 A0 iV pV cS;dsimp only [shH]
 have hf:Fr [] H (H.push (.cells #[.pointer none] 131)):=Fr.push _ _ _
 have hB:=Blk.new H #[.pointer none] 131
 have hK1:=hK.nil hf
 generalize (H.push (.cells #[.pointer none] 131))=H1 at hf hB hK1 ⊢
 refine there_c hK1 ⟨_,rfl,?_⟩
 simp only [Bool.not_true,cond_false]
 rw [locB]
 have hf1:Fr [] H1 (H1.push (.cells #[.pointer (some ⟨b,0,none⟩)] 131)):=Fr.push _ _ _
 have hB1:=Blk.new H1 #[.pointer (some ⟨b,0,none⟩)] 131
 refine ⟨Wr_push.2 (by simp),_,hB1.cell 0,class_k (hK1.nil hf1) hv fun H2 hf2=>⟨_,rfl,?_⟩⟩
 have hB2:=(hB.fr hf1 (by simp)).fr hf2 (by simp)
 have hF2:=(hf.trans hf1).trans hf2
 have hset:∀ x,Fr [] H (setH H2 ⟨H.size,0,none⟩ x):=fun x=>Fr.late hF2 (Nat.le_refl _)
 cases hp:plK v o with
 | none =>
  simp only [Option.isSome_none,Bool.not_false,cond_true]
  exact ⟨hB2.wr (by simp),_,(hB2.set 0 _).cell 0,h2 hp _ (hset _)⟩
 | some i =>
  simp only [Option.isSome_some,Bool.not_true,cond_false]
  exact ⟨_,(hB1.fr hf2 (by simp)).cell 0,hB2.wr (by simp),_,(hB2.set 0 _).cell 0,h1 i hp _ (hset _)⟩
theorem number_k (hK:PK H b F s t) (hv:KAll s t v){o:Int} (h:∀ H',Fr [] H H'→Q (match plK v o with | some i=>.tuple #[.int .i64 ((i:Int)+1),.int .i64 0] | none=>.tuple #[.int .i64 0,.int .i64 130]) H'):callS PP n_k188 #[.pointer (some ⟨b,0,none⟩),.int .i64 o] Q H:=by
 apply k188_ok
 unfold k188 A0 iV pV cS;dsimp only [shH]
 refine look_k hK hv (fun i hp H1 hf=>?_) fun hp H1 hf=>?_
 ·refine ⟨_,_,rfl,Wr_push.2 (by simp),?_⟩
  rw [hp] at h
  simp only [show ((0:Int) != 0)=false from rfl,cond_false]
  rw [locB]
  have hf1:Fr [] H1 (H1.push (.cells #[.pointer (some ⟨b,0,none⟩)] 131)):=Fr.push _ _ _
  obtain ⟨hi,he⟩:=plK_some hp
  refine ⟨_,(Blk.new H1 _ _).cell 0,num_k (hK.nil (hf.trans hf1)) fun H2 hf2=>⟨_,rfl,?_⟩⟩
  have hn:knum s.h o 6=(i:Int)+1:=by rw [←he];exact hv.ks.num hi
  rw [hn];exact h _ ((hf.trans hf1).trans hf2)
 ·refine ⟨_,_,rfl,Wr_push.2 (by simp),?_⟩
  rw [hp] at h
  simp only [show ((130:Int) != 0)=true from rfl,cond_true]
  rw [locB]
  exact h _ hf.more
theorem ksuper_k (hK:PK H b F s t) (hv:KAll s t v){o:Int} (h:∀ H',Fr [] H H'→Q (match plK v o with | some i=>.tuple #[.int .i64 (superK v i),.int .i64 0] | none=>.tuple #[.int .i64 0,.int .i64 130]) H'):callS PP n_k190 #[.pointer (some ⟨b,0,none⟩),.int .i64 o] Q H:=by
 apply k190_ok
 unfold k190 A0 iV pV cS;dsimp only [shH]
 refine look_k hK hv (fun i hp H1 hf=>?_) fun hp H1 hf=>?_
 ·refine ⟨_,_,rfl,Wr_push.2 (by simp),?_⟩
  rw [hp] at h
  simp only [show ((0:Int) != 0)=false from rfl,cond_false]
  rw [locB]
  have hf1:Fr [] H1 (H1.push (.cells #[.pointer (some ⟨b,0,none⟩)] 131)):=Fr.push _ _ _
  obtain ⟨hi,he⟩:=plK_some hp
  refine ⟨_,(Blk.new H1 _ _).cell 0,super_k (hK.nil (hf.trans hf1)) fun H2 hf2=>⟨_,rfl,?_⟩⟩
  have hn:koop s.h o 1=(v.cls[i]).up:=by rw [←he];exact hv.ks.up hi
  have:=h _ ((hf.trans hf1).trans hf2)
  simp only [superK,List.getElem?_eq_getElem hi] at this
  rw [hn];exact this
 ·refine ⟨_,_,rfl,Wr_push.2 (by simp),?_⟩
  rw [hp] at h
  simp only [show ((130:Int) != 0)=true from rfl,cond_true]
  rw [locB]
  exact h _ hf.more
theorem count_ks (hK:PK H b F s t) (hv:KS s v) (h:∀ H',Fr [] H H'→Q (.int .i64 (v.cls.length:Int)) H'):callS PP n_k70 #[.pointer (some ⟨b,0,none⟩)] Q H:=by
 apply k70_ok
 unfold k70 A0 iV pV cS;dsimp only [shH]
 refine there_c hK ⟨_,rfl,?_⟩
 simp only [Bool.not_true,cond_false]
 rw [locB]
 have hf1:Fr [] H (H.push (.cells #[.pointer (some ⟨b,0,none⟩)] 131)):=Fr.push _ _ _
 have hB:=Blk.new H #[.pointer (some ⟨b,0,none⟩)] 131
 refine ⟨Wr_push.2 (by simp),_,hB.cell 0,_,hB.cell 0,root_k (hK.nil hf1) fun H2 hf2=>⟨_,rfl,⟨⟨(hB.fr hf2 (by simp)).cell 0,trivial⟩,trivial⟩,?_⟩⟩
 rw [hv.root0]
 refine size_k (hK.nil (hf1.trans hf2)) fun H3 hf3=>⟨_,rfl,trivial,?_⟩
 rw [hv.size0];exact h _ ((hf1.trans hf2).trans hf3)
theorem count_k (hK:PK H b F s t) (hv:KAll s t v) (h:∀ H',Fr [] H H'→Q (.int .i64 (v.cls.length:Int)) H'):callS PP n_k70 #[.pointer (some ⟨b,0,none⟩)] Q H:=count_ks hK hv.ks h
theorem numbered_k (hK:PK H b F s t) (hv:KAll s t v){n:Int} (h:∀ H',Fr [] H H'→Q (.tuple #[.int .i64 (numberedK v n).1,.int .i64 (numberedK v n).2]) H'):callS PP n_k14 #[.pointer (some ⟨b,0,none⟩),.int .i64 n] Q H:=by
 have hm1:=hv.ks.shape.many1
 apply k14_ok
 unfold k14 A0 iV wW pV cS;dsimp only [shH]
 unfold numberedK at h
 refine there_c hK ⟨_,rfl,?_⟩
 simp only [Bool.not_true,cond_false]
 rw [locB]
 have hf1:Fr [] H (H.push (.cells #[.pointer (some ⟨b,0,none⟩)] 131)):=Fr.push _ _ _
 have hB:=Blk.new H #[.pointer (some ⟨b,0,none⟩)] 131
 refine ⟨Wr_push.2 (by simp),_,hB.cell 0,root_k (hK.nil hf1) fun H2 hf2=>⟨_,rfl,?_⟩⟩
 rw [hv.ks.root0,cond_dec]
 have hF2:=hf1.trans hf2
 refine ite_i (fun h1=>?_) fun h1=>?_
 ·rw [dif_neg (by omega)] at h;exact h _ hF2
 have hB2:=hB.fr hf2 (by simp)
 refine ⟨_,hB2.cell 0,size_k (hK.nil hF2) fun H3 hf3=>⟨_,rfl,?_⟩⟩
 rw [hv.ks.size0,cond_dec]
 refine ite_i (fun h2=>?_) fun h2=>?_
 ·rw [dif_neg (by omega)] at h;exact h _ (hF2.trans hf3)
 rw [dif_pos (by omega)] at h
 refine ⟨_,(hB2.fr hf3 (by simp)).cell 0,oop_k (hK.nil (hF2.trans hf3)) fun H4 hf4=>⟨_,rfl,?_⟩⟩
 have e:IntKind.wrap .i64 (n-1)=((n-1).toNat:Nat):=by rw [wrap64_id (by omega) (by omega)];omega
 rw [e,(hv.ks.clsAt (by omega)).2]
 exact h _ ((hF2.trans hf3).trans hf4)
theorem kfind_k (hK:PK H b F s t) (hv:KAll s t v){name:ByteArray} (h:∀ H',Fr [] H H'→Q (.tuple #[.int .i64 (findK v t name).1,.int .i64 (findK v t name).2]) H'):callS PP n_k66 #[.pointer (some ⟨b,0,none⟩),.string name] Q H:=by
 have hm1:=hv.ks.shape.many1
 apply k66_ok
 unfold k66 A0 iV wW pV sV cS;dsimp only [shH]
 refine there_c hK ⟨_,rfl,?_⟩
 simp only [Bool.not_true,cond_false]
 rw [locB]
 have hf1:Fr [] H (H.push (.cells #[.pointer (some ⟨b,0,none⟩)] 131)):=Fr.push _ _ _
 have hB:=Blk.new H #[.pointer (some ⟨b,0,none⟩)] 131
 refine ⟨Wr_push.2 (by simp),_,hB.cell 0,root_k (hK.nil hf1) fun H2 hf2=>⟨_,rfl,?_⟩⟩
 rw [hv.ks.root0]
 have hF2:=hf1.trans hf2
 have hB2:=hB.fr hf2 (by simp)
 refine ⟨_,hB2.cell 0,size_k (hK.nil hF2) fun H3 hf3=>⟨_,rfl,?_⟩⟩
 rw [hv.ks.size0]
 have hF3:=hF2.trans hf3
 have hB3:=hB2.fr hf3 (by simp)
 refine ⟨fun w H'=>∃ i:Nat,w=[.int .i64 i]∧i≤v.cls.length∧Fr [] H3 H'∧∀ j (hj:j<v.cls.length),j<i→tx t (v.cls[j]).name≠name,fun w _=>match w with
  | [.int _ i]=>(v.cls.length-i).toNat
  | _=>0,⟨0,rfl,Nat.zero_le _,Fr.refl _ _,fun j _ hj=>by omega⟩,?_⟩
 rintro w H4 ⟨i,rfl,hi,hf4,hno⟩ _
 have hF4:=hF3.trans hf4
 have hB4:=hB3.fr hf4 (by simp)
 refine ⟨_,rfl,?_⟩
 rw [cond_dec]
 refine ite_i (fun hlt=>?_) fun hlt=>?_
 ·have hlt':i<v.cls.length:=by omega
  refine ⟨_,hB4.cell 0,oop_k (hK.nil hF4) fun H5 hf5=>⟨_,rfl,_,(hB4.fr hf5 (by simp)).cell 0,?_⟩⟩
  rw [(hv.ks.clsAt hlt').2]
  refine text_k (hK.nil (hF4.trans hf5)) fun H6 hf6=>⟨_,rfl,?_⟩
  rw [hv.name hlt',strEq_dec,cond_dec]
  refine ite_i (fun he=>?_) fun he=>?_
  ·have hfd:findK v t name=((v.cls[i]).oop,0):=by
    unfold findK
    have:v.cls.findIdx? (fun c=>decide (tx t c.name=name))=some i:=by
     rw [List.findIdx?_eq_some_iff_getElem]
     exact ⟨hlt',by simpa using he,fun j hj=>by simpa using hno j (by omega) hj⟩
    rw [this]
    simp [hlt']
   rw [hfd] at h
   exact h _ ((hF4.trans hf5).trans hf6)
  ·have e:IntKind.wrap .i64 ((i:Int)+1)=((i+1:Nat):Int):=by rw [wrap64_id (by omega) (by omega)];omega
   rw [e]
   refine ⟨⟨i+1,rfl,by omega,(hf4.trans hf5).trans hf6,fun j hj hji=>?_⟩,by simp;omega⟩
   rcases Nat.lt_or_ge j i with h1 | h1
   ·exact hno j hj h1
   ·have:j=i:=by omega
    subst this;exact he
 ·have hfd:findK v t name=(0,130):=by
   unfold findK
   have:v.cls.findIdx? (fun c=>decide (tx t c.name=name))=none:=by
    rw [List.findIdx?_eq_none_iff]
    intro c hc
    obtain ⟨j,hj,rfl⟩:=hv.ks.view.idx hc
    simpa using hno j hj (by omega)
   rw [this]
  rw [hfd] at h
  exact h _ hF4
end
section
variable {H:Heap}{b:Nat}{F:Foot}{s:SP}{t:TB}{v:KV}{Q:QT}
theorem words_k (hK:PK H b F s t){o:Int} (h:∀ a l c G H',Own 1 H' a l c (intsV (kwords s.h o)) G→Fr [] H H'→(∀ x∈G,H.size≤x)→Q (.slice a l c) H'):callS PP n_k95 #[rd b,.int .i64 o] Q H:=by
 have hs1:sliceInfo PP 108=some (1,8,some (.int .i64 0)):=by kernel_rfl
 have hn0:=size_nonneg (r:=s.h) o
 have hn1:=size_le hK.wfs.h o
 apply k95_ok
 unfold k95 A0 iV wW pV lV cS
 have hf:Fr [] H (H.push (.cells #[.pointer (some ⟨b,0,none⟩)] 131)):=Fr.push _ _ _
 refine ⟨_,(Blk.new _ _ _).cell 0,size_k (hK.nil hf) fun H0 hf0=>⟨_,rfl,?_⟩⟩
 have hB0:=(Blk.new H #[.pointer (some ⟨b,0,none⟩)] 131).fr hf0 (by simp)
 refine ⟨fun w H'=>∃(i:Nat) (a:Option Addr) (l' c:Nat) (G:Foot),w=[.slice a l' c,.int .i64 i]∧(i:Int)≤ksize s.h o∧Own 1 H' a l' c (intsV ((kwords s.h o).take i)) G∧Fr [] H0 H'∧(∀ x∈G,H0.size≤x),fun w _=>match w with
  | [_,.int _ i]=>(ksize s.h o-i).toNat
  | _=>0,⟨0,none,0,0,[],rfl,hn0,by simpa [intsV] using Own.nil 1 H0,Fr.refl _ _,by simp⟩,?_⟩
 rintro w H1 ⟨i,a1,l1,c1,G,rfl,hi,ho,hf1,hG⟩ _
 have hlen:(kwords s.h o).length=(ksize s.h o).toNat:=by simp [kwords]
 have hl1:l1=i:=by have:=ho.len;simp only [intsV,List.length_map,List.length_take] at this;omega
 have hF1:Fr [] H H1:=(hf.trans hf0).trans hf1
 refine ⟨_,_,_,_,rfl,?_⟩
 rw [cond_dec]
 refine ite_i (fun hlt=>?_) fun hlt=>?_
 ·have htk:(kwords s.h o).take (i+1)=(kwords s.h o).take i++[kslot s.h o i]:=by
   rw [List.take_add_one,List.getElem?_eq_getElem (by omega)];simp [kwords]
  have e:IntKind.wrap .i64 ((i:Int)+1)=((i+1:Nat):Int):=by rw [wrap64_id (by omega) (by omega)];omega
  refine ⟨_,(hB0.fr hf1 (by simp)).cell 0,slot_k (hK.nil hF1) fun H2 hf2=>⟨_,rfl,?_⟩⟩
  refine evS_append1 hs1 rfl (by kernel_rfl) (ho.fr hf2 (by simp)) rfl (by simp [oneC]) (by omega) (by decide) (by decide) fun a' c' G2 H3 g1 g2 g3=>⟨_,_,_,rfl,?_⟩
  have hfr:=Up.fresh (hf1.trans hf2) g2 hG
  rw [e]
  refine ⟨⟨i+1,a',l1+1,c',G2,rfl,by omega,?_,hfr.1,hfr.2⟩,by simp;omega⟩
  rw [htk,intsV_append];exact g1
 ·rw [List.take_of_length_le (by omega)] at ho
  exact h _ _ _ _ H1 ho hF1 fun x hx=>Nat.le_trans (hf.trans hf0).1 (hG x hx)
theorem globals_k (hK:PK H b F s t) (hv:KAll s t v) (h:∀ a l c G H',Own 1 H' a l c (strsV (globsK v t)) G→Fr [] H H'→(∀ x∈G,H.size≤x)→Q (.slice a l c) H'):callS PP n_k71 #[.pointer (some ⟨b,0,none⟩)] Q H:=by
 have hs1:sliceInfo PP 37=some (1,16,some (.string (⟨#[]⟩:ByteArray))):=by kernel_rfl
 have hg:=hv.ks.shape.globs
 apply k71_ok
 unfold k71 A0 iV wW pV sV lV cS;dsimp only [shH]
 refine there_c hK ⟨_,rfl,?_⟩
 simp only [Bool.not_true,cond_false]
 rw [locB]
 have hf1:Fr [] H (H.push (.cells #[.pointer (some ⟨b,0,none⟩)] 131)):=Fr.push _ _ _
 have hB:=Blk.new H #[.pointer (some ⟨b,0,none⟩)] 131
 refine ⟨Wr_push.2 (by simp),_,hB.cell 0,root_k (hK.nil hf1) fun H2 hf2=>⟨_,rfl,?_⟩⟩
 rw [hv.ks.root1]
 have hF2:=hf1.trans hf2
 have hB2:=hB.fr hf2 (by simp)
 refine ⟨_,hB2.cell 0,size_k (hK.nil hF2) fun H0 hf0=>⟨_,rfl,?_⟩⟩
 rw [hv.ks.size1]
 have hF0:=hF2.trans hf0
 have hB0:=hB2.fr hf0 (by simp)
 have ed:IntKind.wrap .i64 (Int.tdiv (2*(v.glob.length:Int)) 2)=v.glob.length:=by
  rw [show Int.tdiv (2*(v.glob.length:Int)) 2=v.glob.length by rw [Int.tdiv_eq_ediv_of_nonneg (by omega)];omega]
  exact wrap64_id (by omega) (by omega)
 have hlen:(globsK v t).length=v.glob.length:=by simp [globsK]
 refine ⟨fun w H'=>∃(i:Nat) (a:Option Addr) (l' c:Nat) (G:Foot),w=[.slice a l' c,.int .i64 i]∧i≤v.glob.length∧Own 1 H' a l' c (strsV ((globsK v t).take i)) G∧Fr [] H0 H'∧(∀ x∈G,H0.size≤x),fun w _=>match w with
  | [_,.int _ i]=>(v.glob.length-i).toNat
  | _=>0,⟨0,none,0,0,[],rfl,Nat.zero_le _,by simpa [strsV] using Own.nil 1 H0,Fr.refl _ _,by simp⟩,?_⟩
 rintro w H1 ⟨i,a1,l1,c1,G,rfl,hi,ho,hf3,hG⟩ _
 have hl1:l1=i:=by have:=ho.len;simp only [strsV,List.length_map,List.length_take] at this;omega
 have hF1:Fr [] H H1:=hF0.trans hf3
 refine ⟨_,_,_,_,rfl,?_⟩
 rw [ed,cond_dec]
 refine ite_i (fun hlt=>?_) fun hlt=>?_
 ·have hlt':i<v.glob.length:=by omega
  have htk:(globsK v t).take (i+1)=(globsK v t).take i++[tx t v.glob[i].1]:=by
   rw [List.take_add_one,List.getElem?_eq_getElem (by omega)];simp [globsK]
  have e:IntKind.wrap .i64 ((i:Int)+1)=((i+1:Nat):Int):=by rw [wrap64_id (by omega) (by omega)];omega
  have e2:IntKind.wrap .i64 (2*(i:Int))=((2*i:Nat):Int):=by rw [wrap64_id (by omega) (by omega)];omega
  rw [e2]
  refine ⟨_,(hB0.fr hf3 (by simp)).cell 0,text_k (hK.nil hF1) fun H2 hf4=>⟨_,rfl,?_⟩⟩
  rw [hv.gname hlt']
  refine evS_append1 hs1 rfl (by kernel_rfl) (ho.fr hf4 (by simp)) rfl (by simp [oneC]) (by omega) (by decide) (by decide) fun a' c' G2 H3 g1 g2 g3=>⟨_,_,_,rfl,?_⟩
  have hfr:=Up.fresh (hf3.trans hf4) g2 hG
  rw [e]
  refine ⟨⟨i+1,a',l1+1,c',G2,rfl,by omega,?_,hfr.1,hfr.2⟩,by simp;omega⟩
  rw [htk,strsV_append];exact g1
 ·rw [List.take_of_length_le (by omega)] at ho
  exact h _ _ _ _ H1 ho hF1 fun x hx=>Nat.le_trans hF0.1 (hG x hx)
theorem value_k (hK:PK H b F s t) (hv:KAll s t v){n:Int} (h:∀ H',Fr [] H H'→Q (.tuple #[.int .i64 (valueK v n).1,.int .i64 (valueK v n).2]) H'):callS PP n_k68 #[.pointer (some ⟨b,0,none⟩),.int .i64 n] Q H:=by
 have hg:=hv.ks.shape.globs
 apply k68_ok
 unfold k68 A0 iV wW pV cS;dsimp only [shH]
 unfold valueK at h
 refine there_c hK ⟨_,rfl,?_⟩
 simp only [Bool.not_true,cond_false]
 rw [locB]
 have hf1:Fr [] H (H.push (.cells #[.pointer (some ⟨b,0,none⟩)] 131)):=Fr.push _ _ _
 have hB:=Blk.new H #[.pointer (some ⟨b,0,none⟩)] 131
 refine ⟨Wr_push.2 (by simp),_,hB.cell 0,root_k (hK.nil hf1) fun H2 hf2=>⟨_,rfl,?_⟩⟩
 rw [hv.ks.root1,cond_dec]
 have hF2:=hf1.trans hf2
 refine ite_i (fun h1=>?_) fun h1=>?_
 ·rw [dif_neg (by omega)] at h;exact h _ hF2
 have hB2:=hB.fr hf2 (by simp)
 refine ⟨_,hB2.cell 0,size_k (hK.nil hF2) fun H3 hf3=>⟨_,rfl,?_⟩⟩
 have ed:IntKind.wrap .i64 (Int.tdiv (2*(v.glob.length:Int)) 2)=v.glob.length:=by
  rw [show Int.tdiv (2*(v.glob.length:Int)) 2=v.glob.length by rw [Int.tdiv_eq_ediv_of_nonneg (by omega)];omega]
  exact wrap64_id (by omega) (by omega)
 rw [hv.ks.size1,ed,cond_dec]
 refine ite_i (fun h2=>?_) fun h2=>?_
 ·rw [dif_neg (by omega)] at h;exact h _ (hF2.trans hf3)
 rw [dif_pos (by omega)] at h
 have e:IntKind.wrap .i64 (IntKind.wrap .i64 (2*n)+1)=((2*n.toNat+1:Nat):Int):=by rw [wrap64_id (n:=2*n) (by omega) (by omega),wrap64_id (by omega) (by omega)];omega
 rw [e]
 refine ⟨_,(hB2.fr hf3 (by simp)).cell 0,slot_k (hK.nil (hF2.trans hf3)) fun H4 hf4=>⟨_,rfl,?_⟩⟩
 rw [(hv.ks.globAt (by omega)).2]
 exact h _ ((hF2.trans hf3).trans hf4)
theorem setValue_k (hK:PK H b F s t) (hv:KAll s t v){n w:Int} (h:∀ H' F',PK H' b F' (setValueK s v n w).2 t→Up F H F' H'→Q (.int .i64 (setValueK s v n w).1) H'):callS PP n_k69 #[.pointer (some ⟨b,0,none⟩),.int .i64 n,.int .i64 w] Q H:=by
 have hg:=hv.ks.shape.globs
 apply k69_ok
 unfold k69 iV wW pV cS
 unfold setValueK at h
 refine value_k hK hv fun H1 hf1=>⟨_,_,rfl,?_⟩
 unfold valueK
 by_cases hn:0≤n∧n<v.glob.length
 ·rw [dif_pos hn]
  rw [if_neg (by omega)] at h
  simp only [show ((0:Int) != 0)=false from rfl,cond_false]
  have hK1:=hK.nil hf1
  refine kind_c hK1.kinds ⟨_,rfl,?_⟩
  rw [beqI,cond_dec]
  refine ite_i (fun hw=>?_) fun hw=>?_
  ·rw [if_pos (by unfold isW;omega)] at h
   exact h _ _ hK1 ⟨hf1.of_nil,fun x hx=>.inl hx⟩
  rw [if_neg (by unfold isW;omega)] at h
  obtain ⟨sb,F1,hc,hS,hsub,hbF,hup,_⟩:=hK1.sp
  refine ⟨_,rfl,_,hc,psHeap_c hS fun hb F2 hR hsub2 hup2=>⟨_,rfl,root_k hK1 fun H3 hf3=>⟨_,rfl,?_⟩⟩⟩
  rw [hv.ks.root1]
  have e:IntKind.wrap .i64 (IntKind.wrap .i64 (2*n)+1)=2*n+1:=by rw [wrap64_id (n:=2*n) (by omega) (by omega),wrap64_id (by omega) (by omega)]
  rw [e]
  refine put_c (hR.fr hf3 (Disj.nil_right _) (by simp)) (fun o ho=>?_) fun H4 hR4 hf4=>⟨_,rfl,?_⟩
  ·obtain ⟨x,h1,h2,_⟩:=hv.ks.view.globs
   rw [h1] at ho;cases ho;exact h2
  ·have hf34:Fr F2 H1 H4:=hf3.of_nil.trans hf4
   have hS4:=hup2 H4 _ hR4 hf34
   obtain ⟨F',hK4,hu⟩:=hup H4 F1 _ hS4 ⟨hf34.mono hsub2,fun x hx=>.inl hx⟩
   exact h _ _ hK4 ⟨hf1.of_nil.trans hu.1,fun x hx=>(hu.2 x hx).imp id fun h=>Nat.le_trans hf1.1 h⟩
 ·rw [dif_neg hn]
  rw [if_pos (by omega)] at h
  simp only [show ((1:Int) != 0)=true from rfl,cond_true]
  exact h _ _ (hK.nil hf1) ⟨hf1.of_nil,fun x hx=>.inl hx⟩
end
section
variable {H:Heap}{b:Nat}{F:Foot}{s:SP}{t:TB}{v:KV}{Q:QT}
theorem ktexts_own (hv:KAll s t v){i:Nat} (hi:i<v.cls.length):ktexts s.h t (v.cls[i]).ownA=(v.cls[i]).own.map (tx t):=by
 unfold ktexts
 rw [hv.ks.ownL hi,Int.toNat_natCast]
 apply List.ext_getElem (by simp)
 intro j h1 h2
 simp only [List.getElem_map,List.getElem_range]
 exact hv.ownT hi (by simpa using h2)
theorem fields_k (hv:KAll s t v):∀ (i:Nat){H:Heap}{Q:QT} (hK:PK H b F s t) (hi:i<v.cls.length) (h:∀ a l c G H',Own 1 H' a l c (strsV ((fieldsK v i).map (tx t))) G→Fr [] H H'→(∀ x∈G,H.size≤x)→Q (.slice a l c) H'),callS PP n_k202 #[rd b,.int .i64 (v.cls[i]).oop] Q H:=by
 intro i
 induction i using Nat.strongRecOn with
 | ind i ih =>
  intro H Q hK hi h
  have hs1:sliceInfo PP 37=some (1,16,some (.string (⟨#[]⟩:ByteArray))):=by kernel_rfl
  have hm1:=hv.ks.shape.many1
  have hb:=up_arr hv.ks hi
  have hfl:=fields_len hv.ks i hi
  apply k202_ok
  unfold k202 A0 iV pV lV cS
  rw [beqI,cond_dec,if_neg (by omega)]
  have hf:Fr [] H (H.push (.cells #[.pointer (some ⟨b,0,none⟩)] 131)):=Fr.push _ _ _
  have hB:=Blk.new H #[.pointer (some ⟨b,0,none⟩)] 131
  refine ⟨_,hB.cell 0,_,hB.cell 0,_,hB.cell 0,_,hB.cell 0,super_k (hK.nil hf) fun H1 hf1=>⟨_,rfl,?_⟩⟩
  have hB1:=hB.fr hf1 (by simp)
  have hF1:=hf.trans hf1
  refine ⟨⟨⟨hB1.cell 0,trivial⟩,⟨hB1.cell 0,trivial⟩,⟨hB1.cell 0,trivial⟩,trivial⟩,?_⟩
  have es:(if koop s.h (v.cls[i]).oop 1=1 then 0 else koop s.h (v.cls[i]).oop 1)=superK v i:=by
   rw [hv.ks.up hi];unfold superK;rw [List.getElem?_eq_getElem hi]
  rw [es]
  have fin:∀ (l:List Nat) (hl:fieldsK v i=l++(v.cls[i]).own) (a:Option Addr) (n c:Nat) (G:Foot) (H2:Heap),Own 1 H2 a n c (strsV (l.map (tx t))) G→Fr [] H1 H2→(∀ x∈G,H1.size≤x) →
    ∃ a10 l10 c10,Value.slice a n c=.slice a10 l10 c10∧((cellH H2 ⟨H.size,0,none⟩=some (.pointer (some ⟨b,0,none⟩))∧True)∧((cellH H2 ⟨H.size,0,none⟩=some (.pointer (some ⟨b,0,none⟩))∧True)∧True))∧callS PP n_k76 #[rd b,.int .i64 (v.cls[i]).oop,.int .i64 2] (fun v11 H3=>∃ n12:Int,v11=.int .i64 n12∧((cellH H3 ⟨H.size,0,none⟩=some (.pointer (some ⟨b,0,none⟩))∧True)∧True)∧callS PP n_k178 #[rd b,.int .i64 n12] (fun v13 H4=>∃ a14:Option Addr,∃ l14:Nat,∃ c14:Nat,v13=.slice a14 l14 c14∧True∧evS PP (Builtin.append_ #[37,37] 37 #[.slice a10 l10 c10,.slice a14 l14 c14]) (fun v15 H5=>∃ a16:Option Addr,∃ l16:Nat,∃ c16:Nat,v15=.slice a16 l16 c16∧True∧Q (.slice a16 l16 c16) H5) H4) H3) H2:=by
   intro l hl a n c G H2 ho hf2 hG
   have hB2:=hB1.fr hf2 (by simp)
   refine ⟨_,_,_,rfl,⟨⟨hB2.cell 0,trivial⟩,⟨hB2.cell 0,trivial⟩,trivial⟩,oop_k (hK.nil (hF1.trans hf2)) fun H3 hf3=>⟨_,rfl,⟨⟨(hB2.fr hf3 (by simp)).cell 0,trivial⟩,trivial⟩,?_⟩⟩
   rw [hv.ks.ownO hi]
   refine texts_k (hK.nil ((hF1.trans hf2).trans hf3)) fun a3 l3 c3 G3 H4 ho3 hf4 hG3=>⟨_,_,_,rfl,trivial,?_⟩
   rw [ktexts_own hv hi] at ho3
   have hlen:n+l3≤8192*(i+1):=by
    have h1:=ho.len
    have h2:=ho3.len
    rw [hl,List.length_append] at hfl
    simp only [strsV,List.length_map] at h1 h2
    omega
   refine evS_append hs1 rfl (by kernel_rfl) (ho.fr (hf3.trans hf4) (by simp)) ho3.rd strsV_one (by omega) (by decide) (by decide) fun a' c' G4 H5 g1 g2 g3=>⟨_,_,_,rfl,trivial,?_⟩
   have hfr:=Up.fresh ((hf2.trans hf3).trans hf4) g2 hG
   refine h _ _ _ G4 H5 ?_ (hF1.trans hfr.1) fun x hx=>Nat.le_trans hF1.1 (hfr.2 x hx)
   rw [hl,List.map_append,strsV_append];exact g1
  rcases hv.ks.upI hi with ⟨h0,e0,_⟩ | ⟨j,hj,hlt,e0,_,e⟩
  ·rw [e0]
   show callS PP n_k202 #[rd b,.int .i64 0] _ H1
   apply k202_ok
   unfold k202 A0 iV pV lV cS
   simp only [show ((0:Int) == 0)=true from rfl,cond_true]
   subst h0
   exact fin [] (by rw [hv.ks.fields0 hi];rfl) none 0 0 [] _ (by simpa [strsV] using Own.nil 1 _) (Fr.push _ _ _) (by simp)
  ·rw [e0]
   exact ih j hlt (hK.nil hF1) hj fun a n c G H2 ho hf2 hG=>fin (fieldsK v j) (hv.ks.fieldsS hi hlt e) a n c G H2 ho hf2 hG
end
theorem gB_get {s:ByteArray}{i:Nat} (h:i<s.size):s[i]?=some s[i]∧(s[i]).toNat=gB s i:=by
 have:s[i]?=some s[i]:=by simp [h]
 exact ⟨this,by rw [gB_some this]⟩
section
variable {H:Heap}{b:Nat}{F:Foot}{s:SP}{t:TB}{v:KV}{Q:QT}
theorem named_k {x:ByteArray}{lo up:Nat} (h:∀ H',Fr [] H H'→Q (.bool (decide (nameOk lo up x))) H'):callS PP n_k91 #[.string x,.int .u8 lo,.int .u8 up] Q H:=by
 apply k91_ok
 unfold k91 iV wW sV lV
 have no:¬ nameOk lo up x→∀ H',Fr [] H H'→Q (.bool false) H':=fun hn H' hf=>by have:=h H' hf;rw [decide_eq_false hn] at this;exact this
 rw [strEq_dec,cond_dec]
 refine ite_i (fun h1=>no (fun hn=>?_) _ (Fr.refl _ _)) fun h1=>?_
 ·have:=hn.1;rw [h1] at this;exact absurd this (by decide)
 have hpos:0<x.size:=by
  rcases Nat.eq_zero_or_pos x.size with h0 | h0
  ·exfalso;apply h1
   obtain ⟨d⟩:=x
   have:d=#[]:=Array.eq_empty_of_size_eq_zero h0
   rw [this]
  ·exact h0
 rw [cond_dec]
 refine ite_i (fun h2=>no (fun hn=>by have:=hn.2.1;omega) _ (Fr.refl _ _)) fun h2=>?_
 obtain ⟨g1,g2⟩:=gB_get hpos
 refine ⟨_,⟨Int.le_refl 0,g1⟩,?_⟩
 rw [g2,cond_dec]
 refine ite_i (fun h3=>no (fun hn=>by have:=hn.2.2.1;omega) _ (Fr.refl _ _)) fun h3=>⟨_,⟨Int.le_refl 0,g1⟩,?_⟩
 rw [g2,cond_dec]
 refine ite_i (fun h4=>no (fun hn=>by have:=hn.2.2.2.1;omega) _ (Fr.refl _ _)) fun h4=>?_
 refine evS_bytes (e:=5) (by kernel_rfl) (by kernel_rfl) (by kernel_rfl) fun cap H0 hf0 hcell=>⟨_,_,_,rfl,?_⟩
 refine ⟨fun w H'=>H'=H0∧∃ i:Nat,w=[.int .i64 i]∧i≤x.size∧∀ j,j<i→alnum (gB x j),fun w _=>match w with
  | [.int _ i]=>(x.size-i).toNat
  | _=>0,⟨rfl,0,rfl,Nat.zero_le _,fun j hj=>by omega⟩,?_⟩
 rintro w H1 ⟨rfl,i,rfl,hi,hall⟩ _
 refine ⟨_,rfl,?_⟩
 rw [cond_dec]
 refine ite_i (fun hlt=>?_) fun hlt=>?_
 ·have hlt':i<x.size:=by omega
  have e:IntKind.wrap .i64 ((i:Int)+1)=((i+1:Nat):Int):=by rw [wrap64_id (by omega) (by omega)];omega
  have hc:=hcell i hlt'
  have hgb:((x[i]?.getD 0).toNat:Int)=(gB x i:Int):=rfl
  rw [hgb] at hc
  refine ⟨⟨by omega,hlt⟩,_,rfl,_,by rw [Int.toNat_natCast,Nat.mul_one,add_none,Nat.zero_add];exact hc,?_⟩
  have go:alnum (gB x i)→(True∧∃ i_1:Nat,[Value.int .i64 (IntKind.wrap .i64 ((i:Int)+1))]=[.int .i64 i_1]∧i_1≤x.size∧∀ j,j<i_1→alnum (gB x j))∧((x.size:Int)-(IntKind.wrap .i64 ((i:Int)+1))).toNat<((x.size:Int)-(i:Int)).toNat:=fun ha=>by
   rw [e]
   refine ⟨⟨trivial,i+1,rfl,by omega,fun j hj=>?_⟩,by omega⟩
   rcases Nat.lt_or_ge j i with h5 | h5
   ·exact hall j h5
   ·have:j=i:=by omega
    rw [this];exact ha
  have bad:¬ alnum (gB x i)→Q (.bool false) H1:=fun ha=>no (fun hn=>ha (hn.2.2.2.2 i hlt')) _ hf0
  simp only [cond_dec]
  refine ite_i (fun c1=>ite_i (fun c2=>ite_i (fun c3=>bad (by unfold alnum;omega)) fun c3=>ite_i (fun c4=>bad (by unfold alnum;omega)) fun c4=>go (by unfold alnum;omega)) fun c2=>ite_i (fun c3=>ite_i (fun c4=>bad (by unfold alnum;omega)) fun c4=>ite_i (fun c5=>bad (by unfold alnum;omega)) fun c5=>go (by unfold alnum;omega)) fun c3=>go (by unfold alnum;omega)) fun c1=>ite_i (fun c2=>ite_i (fun c3=>ite_i (fun c4=>bad (by unfold alnum;omega)) fun c4=>ite_i (fun c5=>bad (by unfold alnum;omega)) fun c5=>go (by unfold alnum;omega)) fun c3=>ite_i (fun c4=>ite_i (fun c5=>bad (by unfold alnum;omega)) fun c5=>ite_i (fun c6=>bad (by unfold alnum;omega)) fun c6=>go (by unfold alnum;omega)) fun c4=>go (by unfold alnum;omega)) fun c2=>go (by unfold alnum;omega)
 ·have:i=x.size:=by omega
  subst this
  have:=h H1 hf0
  have hok:nameOk lo up x:=⟨hpos,by omega,by omega,by omega,hall⟩
  rw [decide_eq_true hok] at this
  exact this
theorem field_k {x:ByteArray} (h:∀ H',Fr [] H H'→Q (.bool (decide (fieldOk x))) H'):callS PP n_k203 #[.string x] Q H:=by
 apply k203_ok
 unfold k203 sV cS
 have no:¬ fieldOk x→Q (.bool false) H:=fun hn=>by have:=h H (Fr.refl _ _);rw [decide_eq_false hn] at this;exact this
 simp only [strEq_dec,cond_dec]
 refine ite_i (fun h1=>no fun hn=>hn.1 (.inl h1)) fun h1=>ite_i (fun h2=>no fun hn=>hn.1 (.inr (.inl h2))) fun h2=>ite_i (fun h3=>no fun hn=>hn.1 (.inr (.inr (.inl h3)))) fun h3=>ite_i (fun h4=>no fun hn=>hn.1 (.inr (.inr (.inr (.inl h4))))) fun h4=>ite_i (fun h5=>no fun hn=>hn.1 (.inr (.inr (.inr (.inr h5))))) fun h5=>?_
 refine named_k (lo:=97) (up:=122) fun H' hf=>⟨_,rfl,?_⟩
 have:=h H' hf
 have e:decide (fieldOk x)=decide (nameOk 97 122 x):=by
  rw [decide_eq_decide]
  unfold fieldOk resvd
  constructor
  ·exact fun h=>h.2
  ·exact fun hn=>⟨fun h=>by rcases h with h | h | h | h | h <;> contradiction,hn⟩
 rw [e] at this;exact this
theorem contains_k {a:Option Addr}{l c:Nat}{xs:List ByteArray}{x:ByteArray} (hk:Rd 1 H a l (strsV xs)) (hlk:l≤1000000000000000) (h:Q (.bool (decide (x∈xs))) H):callS PP n_k204 #[.slice a l c,.string x] Q H:=by
 have hl:l=xs.length:=by have:=hk.1;simpa [strsV] using this.symm
 apply k204_ok
 unfold k204 iV sV lV
 apply k259_ok
 unfold k259 iV wW sV
 refine ⟨fun w H'=>H'=H∧∃ i:Nat,w=[.int .i64 i]∧i≤l∧∀ j (hj:j<xs.length),j<i→xs[j]≠x,fun w _=>match w with
  | [.int _ i]=>(l-i).toNat
  | _=>0,⟨rfl,0,rfl,Nat.zero_le _,fun j _ hj=>by omega⟩,?_⟩
 rintro w H1 ⟨rfl,i,rfl,hi,hall⟩ _
 refine ⟨_,rfl,?_⟩
 rw [cond_dec]
 refine ite_i (fun hlt=>?_) fun hlt=>?_
 ·obtain ⟨p,hlt2,rfl,hcell⟩:=hk.str (i:=(i:Int)) (by omega) hlt
  simp only [Int.toNat_natCast] at hcell hlt2
  have e:IntKind.wrap .i64 ((i:Int)+1)=((i+1:Nat):Int):=by rw [wrap64_id (by omega) (by omega)];omega
  refine ⟨⟨by omega,hlt⟩,_,rfl,_,by rw [Int.toNat_natCast,Nat.mul_one];exact hcell,?_⟩
  rw [strEq_dec,cond_dec]
  refine ite_i (fun he=>⟨_,rfl,?_⟩) fun he=>?_
  ·rw [decide_eq_true (show x∈xs by rw [he];exact List.getElem_mem _)] at h
   rw [decide_eq_true (show (i:Int) ≥ 0 by omega)];exact h
  ·rw [e]
   refine ⟨⟨rfl,i+1,rfl,by omega,fun j hj hji=>?_⟩,by simp;omega⟩
   rcases Nat.lt_or_ge j i with h5 | h5
   ·exact hall j hj h5
   ·have:j=i:=by omega
    subst this;exact fun e=>he e.symm
 ·refine ⟨_,rfl,?_⟩
  have:x∉xs:=fun hm=>by
   obtain ⟨j,hj,he⟩:=List.getElem_of_mem hm
   exact hall j hj (by omega) he
  rw [decide_eq_false this] at h
  exact h
theorem taken_k (hK:PK H b F s t) (hv:KAll s t v){name:ByteArray} (h:∀ H',Fr [] H H'→Q (.bool (decide (takenK v t name))) H'):callS PP n_k92 #[.pointer (some ⟨b,0,none⟩),.string name] Q H:=by
 have hg:=hv.ks.shape.globs
 apply k92_ok
 unfold k92 iV pV sV lV cS
 refine kfind_k hK hv fun H1 hf1=>⟨_,_,rfl,?_⟩
 rw [beqI,cond_dec]
 refine ite_i (fun h1=>?_) fun h1=>?_
 ·have:=h H1 hf1
  rw [decide_eq_true (show takenK v t name from .inl h1)] at this
  exact this
 ·refine globals_k (hK.nil hf1) hv fun a l c G H2 ho hf2 hG=>⟨_,_,_,rfl,contains_k ho.rd ?_ ⟨_,rfl,?_⟩⟩
  ·have:=ho.len
   simp only [strsV,globsK,List.length_map] at this
   omega
  ·have:=h H2 (hf1.trans hf2)
   have e:decide (takenK v t name)=decide (name∈globsK v t):=by
    rw [decide_eq_decide];unfold takenK
    exact ⟨fun h=>h.resolve_left h1,.inr⟩
   rw [e] at this;exact this
theorem definable_k (hK:PK H b F s t) (hv:KAll s t v){name sup:ByteArray}{a:Option Addr}{l c:Nat}{own:List ByteArray} (hk:Rd 1 H a l (strsV own)) (hlc:l≤c) (hlk:l≤1000000000000000)
  (h:∀ H',Fr [] H H'→Q (.tuple #[.int .i64 (defK v t name sup own).1,.int .i64 (defK v t name sup own).2]) H'):callS PP n_k87 #[.pointer (some ⟨b,0,none⟩),.string name,.string sup,.slice a l c] Q H:=by
 have hm1:=hv.ks.shape.many1
 have hl:l=own.length:=by have:=hk.1;simpa [strsV] using this.symm
 apply k87_ok
 unfold k87 A0 iV wW pV sV lV cS;dsimp only [shH]
 unfold defK at h
 refine named_k (lo:=65) (up:=90) fun H1 hf1=>⟨_,rfl,?_⟩
 rw [←decide_not,cond_dec]
 refine ite_i (fun h1=>?_) fun h1=>?_
 ·rw [if_pos h1] at h;exact h H1 hf1
 rw [if_neg h1] at h
 refine taken_k (hK.nil hf1) hv fun H2 hf2=>⟨_,rfl,?_⟩
 have hF2:=hf1.trans hf2
 rw [cond_dec]
 refine ite_i (fun h2=>?_) fun h2=>?_
 ·rw [if_pos h2] at h;exact h H2 hF2
 rw [if_neg h2] at h
 refine kfind_k (hK.nil hF2) hv fun H3 hf3=>⟨_,_,rfl,?_⟩
 have hF3:=hF2.trans hf3
 rw [bneI,cond_dec]
 refine ite_i (fun h3=>?_) fun h3=>?_
 ·rw [if_pos h3] at h;exact h H3 hF3
 rw [if_neg h3] at h
 rcases findK_cases v t sup with ⟨e,_⟩ | ⟨j,hj,e,_⟩
 ·rw [e] at h3;simp at h3
 have hfl:=fields_len hv.ks j hj
 rw [e] at h ⊢
 simp only [hv.ks.idx hj] at h
 rw [locB]
 have hf4:Fr [] H3 (H3.push (.cells #[.pointer (some ⟨b,0,none⟩)] 131)):=Fr.push _ _ _
 have hB:=Blk.new H3 #[.pointer (some ⟨b,0,none⟩)] 131
 have hF4:=hF3.trans hf4
 generalize (H3.push (.cells #[.pointer (some ⟨b,0,none⟩)] 131))=H4 at hf4 hB hF4 ⊢
 have hW:Wr (H3.push (.cells #[.pointer none] 131)) ⟨H3.size,0,none⟩:=Wr_push.2 (by simp)
 refine ⟨hW,fun w H'=>w=[]∧Fr [] H4 H'∧¬ (1≤j∧j<14),⟨_,hB.cell 0,num_k (hK.nil hF4) fun H5 hf5=>⟨_,rfl,?_⟩⟩,?_⟩
 ·rw [hv.ks.num hj,cond_dec]
  refine ite_i (fun h4=>?_) fun h4=>⟨rfl,hf5,by omega⟩
  rw [cond_dec]
  refine ite_i (fun h5=>?_) fun h5=>⟨rfl,hf5,by omega⟩
  rw [if_pos (by omega)] at h
  exact h H5 (hF4.trans hf5)
 rintro w H5 ⟨rfl,hf5,h4⟩ _
 rw [if_neg h4] at h
 have hF5:=hF4.trans hf5
 refine ⟨rfl,_,(hB.fr hf5 (by simp)).cell 0,fields_k hv j (hK.nil hF5) hj fun a6 l6 c6 G H6 ho6 hf6 hG=>⟨_,_,_,rfl,?_⟩⟩
 have hF6:=hF5.trans hf6
 have hl6:l6=(fieldsK v j).length:=by have:=ho6.len;simpa [strsV] using this.symm
 refine ⟨fun w H'=>∃ i:Nat,w=[.int .i64 i]∧i≤l∧Fr [] H6 H'∧ownE ((fieldsK v j).map (tx t)) (own.take i) (own.drop i)=ownE ((fieldsK v j).map (tx t)) [] own,fun w _=>match w with
  | [.int _ i]=>(l-i).toNat
  | _=>0,⟨0,rfl,Nat.zero_le _,Fr.refl _ _,by simp⟩,?_⟩
 rintro w H7 ⟨i,rfl,hi,hf7,hown⟩ _
 have hF7:=hF6.trans hf7
 refine ⟨_,rfl,?_⟩
 rw [cond_dec]
 refine ite_i (fun hlt=>?_) fun hlt=>?_
 ·have hlt':i<own.length:=by omega
  obtain ⟨p,hlt2,rfl,hcell⟩:=(hk.fr' hF7 (by simp)).str (i:=(i:Int)) (by omega) hlt
  simp only [Int.toNat_natCast] at hcell hlt2
  have e1:IntKind.wrap .i64 ((i:Int)+1)=((i+1:Nat):Int):=by rw [wrap64_id (by omega) (by omega)];omega
  have ed:own.drop i=own[i] :: own.drop (i+1):=List.drop_eq_getElem_cons hlt'
  have et:own.take (i+1)=own.take i++[own[i]]:=by rw [List.take_add_one];simp [hlt']
  rw [ed] at hown
  rw [ownE] at hown
  refine ⟨⟨by omega,hlt⟩,_,rfl,_,by rw [Int.toNat_natCast,Nat.mul_one];exact hcell,field_k fun H8 hf8=>⟨_,rfl,?_⟩⟩
  rw [←decide_not,cond_dec]
  refine ite_i (fun h5=>?_) fun h5=>?_
  ·rw [if_pos h5] at hown
   rw [if_pos (by rw [←hown];decide),←hown] at h
   exact h H8 (hF7.trans hf8)
  rw [if_neg h5] at hown
  have hF8:=hF7.trans hf8
  refine ⟨⟨by omega,by omega⟩,contains_k (xs:=own.take i) ?_ (by simp;omega) ⟨_,rfl,?_⟩⟩
  ·have:=hk.fr' hF8 (by simp)
   refine ⟨by simp [strsV];omega,(fun hn=>by cases hn),fun q hq k hk'=>?_⟩
   rw [Int.toNat_natCast] at hk'
   have h6:=this.2.2 q hq k (by omega)
   rw [h6]
   simp only [strsV,List.getElem?_map]
   rw [List.getElem?_take_of_lt (by omega)]
  rw [cond_dec]
  refine ite_i (fun h6=>?_) fun h6=>?_
  ·rw [if_pos h6] at hown
   rw [if_pos (by rw [←hown];decide),←hown] at h
   exact h H8 hF8
  rw [if_neg h6] at hown
  refine contains_k ((ho6.fr hf7 (by simp)).fr hf8 (by simp)).rd (by omega) ⟨_,rfl,?_⟩
  rw [cond_dec]
  refine ite_i (fun h7=>?_) fun h7=>?_
  ·rw [if_pos h7] at hown
   rw [if_pos (by rw [←hown];decide),←hown] at h
   exact h H8 hF8
  rw [if_neg h7] at hown
  rw [e1]
  exact ⟨⟨i+1,rfl,by omega,hf7.trans hf8,by rw [et];exact hown⟩,by simp;omega⟩
 ·have hil:i=own.length:=by omega
  rw [hil,List.drop_length] at hown
  have h0:ownE ((fieldsK v j).map (tx t)) [] own=0:=by rw [←hown];rfl
  rw [if_neg (by rw [h0];decide)] at h
  have ew:IntKind.wrap .i64 ((l6:Int)+(l:Int))=(l6:Int)+l:=wrap64_id (by omega) (by omega)
  rw [ew,cond_dec]
  refine ite_i (fun h5=>?_) fun h5=>?_
  ·rw [if_pos (by omega)] at h;exact h H7 hF7
  rw [if_neg (by omega)] at h
  refine count_k (hK.nil hF7) hv fun H8 hf8=>⟨_,rfl,?_⟩
  rw [cond_dec]
  refine ite_i (fun h6=>?_) fun h6=>?_
  ·rw [if_pos (by omega)] at h;exact h H8 (hF7.trans hf8)
  rw [if_neg (by omega)] at h
  exact h H8 (hF7.trans hf8)
end
structure PM (H:Heap) (mb b:Nat) (F:Foot) (s:SP) (t:TB) (cnt mk kp:Int):Prop where
 k:PK H b F s t
 m:Blk H mb #[.pointer (some ⟨b,0,none⟩),.int .i64 cnt,.int .i64 mk,.int .i64 kp]
 out:mb∉F
theorem Up.out {F F':Foot}{H H':Heap} (h:Up F H F' H'){x:Nat} (hx:x∉F) (hl:x<H.size):x∉F':=fun hm=>by
 rcases h.2 x hm with h1 | h1
 ·exact hx h1
 ·omega
theorem PM.up {H H':Heap}{mb b:Nat}{F F':Foot}{s s':SP}{t t':TB}{cnt mk kp:Int} (h:PM H mb b F s t cnt mk kp) (hk:PK H' b F' s' t') (hu:Up F H F' H'):PM H' mb b F' s' t' cnt mk kp :=
 ⟨hk,h.m.fr hu.1 h.out,Up.out hu h.out h.m.lt⟩
theorem PM.nil {H H':Heap}{mb b:Nat}{F:Foot}{s:SP}{t:TB}{cnt mk kp:Int} (h:PM H mb b F s t cnt mk kp) (hf:Fr [] H H'):PM H' mb b F s t cnt mk kp:=⟨h.k.nil hf,h.m.fr hf (by simp),h.out⟩
theorem Up.of_nil {F:Foot}{H H':Heap} (h:Fr [] H H'):Up F H F H':=⟨Kw.Fr.of_nil h,fun _ h=>.inl h⟩
theorem put_fmt {r:RH} (k i w j:Int){y:RO} (h:objAt (r.put k i w).2.objs j=some y):∃ x,objAt r.objs j=some x∧y.fmt=x.fmt:=by
 unfold RH.put at h
 split at h
 ·exact ⟨y,h,rfl⟩
 split at h
 ·exact ⟨y,h,rfl⟩
 split at h
 ·exact ⟨y,h,rfl⟩
 ·simp only at h
  rw [objAt_updO (f:=setO i w) (fun o=>rfl)] at h
  cases hx:objAt r.objs j with
  | none=>rw [hx] at h;cases h
  | some x =>
   rw [hx] at h
   simp only [Option.map_some,Option.some.injEq] at h
   refine ⟨x,rfl,?_⟩
   rw [←h]
   split <;> rfl
section
variable {H:Heap}{mb b:Nat}{F:Foot}{s:SP}{t:TB}{v:KV}{cnt mk kp:Int}{Q:QT}
theorem msymbol_k (hM:PM H mb b F s t cnt mk kp){x:ByteArray} (h:∀ H' F',PM H' mb b F' s (t.add x).2 cnt mk kp→Up F H F' H'→Q (.tuple #[.int .i64 (if (t.add x).1.2=0 then 4*(t.add x).1.1+2 else 0),.int .i64 (t.add x).1.2]) H'):callS PP n_k93 #[.pointer (some ⟨mb,0,none⟩),.string x] Q H:=by
 apply k93_ok
 unfold k93 iV pV sV cS
 obtain ⟨tb,F2,hc,hT,hsub,hnb,hup,_⟩:=hM.k.tb
 refine ⟨_,rfl,_,hM.m.cell 0,_,rfl,_,hc,ptAdd_c hT fun H1 F1 hT1 hu1=>⟨_,_,rfl,?_⟩⟩
 obtain ⟨F',hK',hu'⟩:=hup H1 F1 _ hT1 hu1
 have hM':=hM.up hK' hu'
 rw [bneI,cond_dec]
 refine ite_i (fun h1=>?_) fun h1=>?_
 ·have:=h _ _ hM' hu'
  rw [if_neg h1] at this;exact this
 ·have hz:(t.add x).1.2=0:=Classical.byContradiction h1
  obtain ⟨n,e1,e2,_⟩:=add_ok x hz
  have hw:=hK'.wft
  have h2:=(tx_some e2).2
  have h3:=hw.m1
  have h4:=hw.len
  rw [e1]
  refine sym_c ⟨by omega,by omega⟩ ⟨_,_,rfl,?_⟩
  have:=h _ _ hM' hu'
  rw [if_pos hz,e1,hz] at this;exact this
theorem mmake_k (hM:PM H mb b F s t cnt mk kp){cls:Int} (hcls:1≤cls∧cls≤65536){a:Option Addr}{l c:Nat}{ws:List Int} (hk:Rd 1 H a l (intsV ws)) (hd:∀ p,a=some p→p.block∉F) (hlk:l≤1000000000)
  (h:∀ H' F',PM H' mb b F' (s.make cls ws).2 t cnt mk kp→Up F H F' H'→Q (.tuple #[.int .i64 (s.make cls ws).1.1,.int .i64 (s.make cls ws).1.2]) H'):callS PP n_k206 #[.pointer (some ⟨mb,0,none⟩),.int .i64 cls,.slice a l c] Q H:=by
 have hl:l=ws.length:=by have:=hk.1;simpa [intsV] using this.symm
 apply k206_ok
 unfold k206 A0 iV wW pV lV cS
 unfold SP.make at h
 obtain ⟨sb,F1,hc,hS,hsub,hnb,_,hup⟩:=hM.k.sp
 refine ⟨_,rfl,_,hM.m.cell 0,_,rfl,_,hc,object_c hcls ⟨_,rfl,⟨⟨hc,trivial⟩,⟨hM.m.cell 0,trivial⟩,trivial⟩,?_⟩⟩
 rw [hl]
 refine psAlloc_c hS fun H1 hS1 hf1=>⟨_,_,rfl,trivial,?_⟩
 have hfF:=hf1.mono hsub
 have hu':Up F H F H1:=⟨hfF,fun _ h=>.inl h⟩
 have hM':=hM.up (hup H1 _ hS1 hf1) hu'
 have hd':=hk.fr' hfF hd
 rw [bneI,cond_dec]
 refine ite_i (fun h1=>?_) fun h1=>?_
 ·rw [if_pos h1] at h;exact h _ _ hM' hu'
 rw [if_neg h1] at h
 have hz:(s.alloc (4*cls) ws.length 0).1.2=0:=Classical.byContradiction h1
 obtain ⟨o,e1,o1,o2,_,_,harr,_⟩:=salloc_ok hM.k.wfs hz
 rw [if_pos hz]
 rw [e1] at h ⊢
 have e2:4*o / 4=o:=by omega
 rw [e2] at h
 generalize (s.alloc (4*cls) ws.length 0).2=s1 at *
 have hk3:kindW (4*o)=3:=by have:=kind_cases (4*o);omega
 refine oop_c hM'.k.kinds ?_
 unfold ofW
 rw [if_pos hk3]
 simp only [e2]
 refine ⟨_,_,rfl,?_⟩
 refine ⟨fun w H'=>∃(i:Nat) (r:RH),w=[.int .i64 i]∧i≤ws.length∧PM H' mb b F { s1 with h:=r } t cnt mk kp∧Fr F H1 H'∧r.lay o i (ws.drop i)=s1.h.lay o 0 ws∧∀ x,objAt r.objs o=some x→x.fmt=0,fun w _=>match w with
  | [.int _ i]=>(ws.length-i).toNat
  | _=>0,⟨0,s1.h,rfl,Nat.zero_le _,hM',Fr.refl _ _,rfl,fun x hx=>by obtain ⟨y,h2,h3,_⟩:=harr;rw [h2] at hx;cases hx;exact h3⟩,?_⟩
 rintro w H4 ⟨i,r,rfl,hi,hM4,hf4,hlay,hfmt⟩ _
 refine ⟨_,rfl,?_⟩
 rw [cond_dec]
 refine ite_i (fun hlt=>?_) fun hlt=>?_
 ·obtain ⟨p,rfl,hcell,hlt2⟩:=(hd'.fr' hf4 hd).int (i:=(i:Int)) (by omega) (by omega)
  rw [Int.toNat_natCast] at hcell hlt2
  have hx:ws.getD i 0=ws[i]:=by simp [hlt2]
  rw [hx] at hcell
  have ed:ws.drop i=ws[i] :: ws.drop (i+1):=List.drop_eq_getElem_cons hlt2
  have e:IntKind.wrap .i64 ((i:Int)+1)=((i+1:Nat):Int):=by rw [wrap64_id (by omega) (by omega)];omega
  obtain ⟨sb4,F4,hc4,hS4,hsub4,_,_,hup4⟩:=hM4.k.sp
  refine ⟨⟨by omega,hlt⟩,_,rfl,_,by rw [Int.toNat_natCast,Nat.mul_one];exact hcell,_,rfl,_,hM4.m.cell 0,_,rfl,_,hc4,psHeap_c hS4 fun hb F5 hR hsub5 hup5=>⟨_,rfl,put_c hR hfmt fun H6 hR6 hf6=>⟨_,rfl,?_⟩⟩⟩
  have hS6:=hup5 H6 _ hR6 hf6
  have hK6:=hup4 H6 _ hS6 (hf6.mono hsub5)
  have hf6':Fr F H4 H6:=(hf6.mono hsub5).mono hsub4
  have hM6:=hM4.up hK6 ⟨hf6',fun _ h=>.inl h⟩
  rw [e]
  refine ⟨⟨i+1,(r.put o i ws[i]).2,rfl,by omega,hM6,hf4.trans hf6',?_,fun x hx=>?_⟩,by simp;omega⟩
  ·rw [←hlay,ed]
   simp only [RH.lay]
   congr 1
   all_goals omega
  ·obtain ⟨y,h2,h3⟩:=put_fmt o i ws[i] o hx
   rw [h3];exact hfmt y h2
 ·have hil:i=ws.length:=by omega
  subst hil
  rw [List.drop_length] at hlay
  simp only [RH.lay] at hlay
  rw [hlay] at hM4
  obtain ⟨sb4,F4,hc4,hS4,hsub4,_,hup4,_⟩:=hM4.k.sp
  refine ⟨_,rfl,_,hM4.m.cell 0,_,rfl,_,hc4,?_⟩
  have fp:Fr [] H4 (H4.push (.cells #[.int .i64 (4*o)] 36)):=Fr.push _ _ _
  have hM5:=hM4.nil fp
  obtain ⟨sb5,F5,hc5,hS5,hsub5,_,hup5,_⟩:=hM5.k.sp
  have hsb:sb5=sb4:=by
   have:cellH (H4.push (.cells #[.int .i64 (4*o)] 36)) ⟨b,0,none⟩=cellH H4 ⟨b,0,none⟩:=cellH_push_lt (hM4.k.lt b hM4.k.bmem)
   rw [this,hc4] at hc5
   simpa using hc5.symm
  subst hsb
  refine psKeep_c hS5 (ws:=[4*o]) ?_ (by omega) fun H7 F7 hS7 hu7=>⟨_,rfl,?_⟩
  ·refine ⟨rfl,(fun h=>by cases h),fun p hp k hk=>?_⟩
   cases hp
   have:k=0:=by omega
   subst this
   rw [add_none]
   exact (Blk.new H4 _ _).cell 0
  ·obtain ⟨F',hK7,hu7'⟩:=hup5 H7 F7 _ hS7 hu7
   have hM7:=hM5.up hK7 hu7'
   exact h H7 F' hM7 ((hu'.trans ⟨hf4,fun _ h=>.inl h⟩).trans ((Up.of_nil fp).trans hu7'))
theorem marray_k (hM:PM H mb b F s t cnt mk kp){a:Option Addr}{l c:Nat}{ws:List Int} (hk:Rd 1 H a l (intsV ws)) (hd:∀ p,a=some p→p.block∉F) (hlk:l≤1000000000)
  (h:∀ H' F',PM H' mb b F' (s.array ws).2 t cnt mk kp→Up F H F' H'→Q (.tuple #[.int .i64 (s.array ws).1.1,.int .i64 (s.array ws).1.2]) H'):callS PP n_k94 #[.pointer (some ⟨mb,0,none⟩),.slice a l c] Q H:=by
 have hl:l=ws.length:=by have:=hk.1;simpa [intsV] using this.symm
 apply k94_ok
 unfold k94 iV pV lV cS
 unfold SP.array at h
 rw [beqI,cond_dec]
 refine ite_i (fun h0=>?_) fun h0=>?_
 ·have:ws=[]:=List.eq_nil_of_length_eq_zero (by omega)
  rw [if_pos this] at h
  exact object_c (by decide) ⟨_,rfl,h H F hM (Up.refl _ _)⟩
 ·have:ws≠[]:=fun e=>h0 (by rw [hl,e];rfl)
  rw [if_neg this] at h
  exact mmake_k hM (by decide) hk hd hlk fun H' F' hM' hu=>⟨_,_,rfl,h H' F' hM' hu⟩
end
def Out (H:Heap) (a:Option Addr) (F:Foot):Prop:=∀ p,a=some p→p.block<H.size∧p.block∉F
theorem Out.up {H H':Heap}{a:Option Addr}{F F':Foot} (h:Out H a F) (hu:Up F H F' H'):Out H' a F':=fun p hp=>⟨Nat.lt_of_lt_of_le (h p hp).1 hu.1.1,Up.out hu (h p hp).2 (h p hp).1⟩
theorem Out.rd {H H':Heap}{a:Option Addr}{F F':Foot}{l:Nat}{ys:List Value} (h:Out H a F) (hu:Up F H F' H') (hk:Rd 1 H a l ys):Rd 1 H' a l ys:=hk.fr' hu.1 fun p hp=>(h p hp).2
def Outs (H:Heap) (a:Option Addr) (l:Nat) (F:Foot):Prop:=l=0∨Out H a F
theorem Outs.up {H H':Heap}{a:Option Addr}{l:Nat}{F F':Foot} (h:Outs H a l F) (hu:Up F H F' H'):Outs H' a l F':=h.imp id fun h=>h.up hu
theorem Outs.rd {H H':Heap}{a:Option Addr}{F F':Foot}{l:Nat}{ys:List Value} (h:Outs H a l F) (hu:Up F H F' H') (hk:Rd 1 H a l ys):Rd 1 H' a l ys:=by
 rcases h with h | h
 ·subst h
  exact ⟨hk.1,hk.2.1,fun p _ i hi=>by simp at hi⟩
 ·exact h.rd hu hk
theorem Own.out {H:Heap}{a:Option Addr}{l c:Nat}{xs:List Value}{F G:Foot} (h:Own 1 H a l c xs G) (hd:Disj G F):Out H a F:=fun p hp=>by
 have hlt:=h.lt
 rcases h.2.2 with ⟨h1,_⟩ | ⟨b',cs,h1,rfl,_⟩
 ·rw [h1] at hp;cases hp
 ·rw [h1] at hp;cases hp
  exact ⟨hlt _ (by simp),hd _ (by simp)⟩
theorem cell_fr {F:Foot}{H H':Heap}{b o:Nat} (hf:Fr F H H') (hb:b∉F) (hl:b<H.size):cellH H' ⟨b,o,none⟩=cellH H ⟨b,o,none⟩:=by
 unfold cellH;rw [hf.2 b hl hb]
theorem rd_new {H:Heap}{cs:List Int}{t:TypeId}:Rd 1 (H.push (.cells (intsV cs).toArray t)) (some ⟨H.size,0,none⟩) cs.length (intsV cs):=by
 refine ⟨by simp [intsV],(fun h=>by cases h),fun p hp k hk=>?_⟩
 cases hp
 rw [add_none,Nat.zero_add,(Blk.new H _ _).cell]
 simp
section
variable {H:Heap}{mb b:Nat}{F:Foot}{s:SP}{t:TB}{v:KV}{cnt mk kp:Int}{Q:QT}
theorem begin_k (hK:PK H b F s t) (h:∀ H' mb,PM H' mb b F s t t.texts.length s.h.mark s.stack.length→Fr [] H H'→Q (.pointer (some ⟨mb,0,none⟩)) H'):callS PP n_k88 #[.pointer (some ⟨b,0,none⟩)] Q H:=by
 apply k88_ok
 unfold k88 A0 iV pV lV cS
 obtain ⟨tb,F2,hc2,hT,_⟩:=hK.tb
 obtain ⟨sb,F1,hc,hS,_⟩:=hK.sp
 refine ⟨_,rfl,_,hc2,_,rfl,_,hc,_,rfl,_,hc,ptCount_c hT ⟨_,rfl,⟨⟨hc,trivial⟩,⟨hc,trivial⟩,trivial⟩,psHeap_c hS fun hb F3 hR _ _=>⟨_,rfl,⟨⟨hc,trivial⟩,trivial⟩,hmarked_c hR ⟨_,rfl,⟨⟨hc,trivial⟩,trivial⟩,?_⟩⟩⟩⟩
 refine psKept_c hS fun a c H1 _ hf=>⟨_,_,_,rfl,trivial,trivial,?_⟩
 have hf2:=hf.more (o:=.cells #[.pointer (some ⟨b,0,none⟩),.int .i64 (t.texts.length:Int),.int .i64 s.h.mark,.int .i64 (s.stack.length:Int)] 146)
 refine h _ H1.size ⟨hK.nil hf2,Blk.new _ _ _,fun hm=>?_⟩ hf2
 have:=(hK.nil hf).lt _ hm
 omega
theorem end_k (hM:PM H mb b F s t cnt mk kp) (hkp:0≤kp∧kp≤1000000){e:Int} (h:∀ H',PK H' b F (kEnd s t mk cnt kp e).1 (kEnd s t mk cnt kp e).2→Fr F H H'→Q (.int .i64 e) H'):callS PP n_k90 #[.pointer (some ⟨mb,0,none⟩),.int .i64 e] Q H:=by
 have hmany:=hM.k.wfs.many
 apply k90_ok
 unfold k90 iV wW pV lV cS
 unfold kEnd at h
 obtain ⟨sb,F1,hc,hS,hsub,hbF1,_,hup⟩:=hM.k.sp
 refine ⟨_,rfl,_,hM.m.cell 0,_,rfl,_,hc,_,rfl,_,hM.m.cell 3,psKept_c hS fun a c H1 _ hf=>⟨_,_,_,rfl,⟨⟨(hM.m.fr hf (by simp)).cell 3,trivial⟩,trivial⟩,?_⟩⟩
 have ew:IntKind.wrap .i64 ((s.stack.length:Int)-kp)=(s.stack.length:Int)-kp:=wrap64_id (by omega) (by omega)
 rw [ew]
 refine psDrop_c (hS.nilfr hf) ⟨by omega,by omega⟩ fun H2 hS2 hf2=>⟨_,rfl,trivial,?_⟩
 have hf12:Fr F1 H H2:=hf.of_nil.trans hf2
 have hfF:Fr F H H2:=hf12.mono hsub
 have hM2:=hM.up (hup H2 _ hS2 hf12) ⟨hfF,fun _ h=>.inl h⟩
 rw [beqI,cond_dec]
 refine ite_i (fun h1=>?_) fun h1=>?_
 ·rw [if_pos h1] at h;exact h H2 hM2.k hfF
 rw [if_neg h1] at h
 obtain ⟨tb,F3,hc3,hT,hsub3,hbF3,_,hup3⟩:=hM2.k.tb
 refine ⟨_,rfl,_,hM2.m.cell 0,_,rfl,_,hc3,_,rfl,_,hM2.m.cell 1,ptBack_c hT fun H3 hT3 hf3=>⟨_,rfl,trivial,?_⟩⟩
 have hf3':Fr F H2 H3:=hf3.mono hsub3
 have hM3:=hM2.up (hup3 H3 _ hT3 hf3) ⟨hf3',fun _ h=>.inl h⟩
 rw [bneI,cond_dec]
 refine ite_i (fun h2=>?_) fun h2=>?_
 ·rw [if_neg h2] at h
  obtain ⟨sb4,F4,hc4,hS4,hsub4,_,_,hup4⟩:=hM3.k.sp
  have hsb:sb4=sb:=by
   have hbl:=hM.k.lt b hM.k.bmem
   have e1:cellH H3 ⟨b,0,none⟩=some (.pointer (some ⟨sb,0,none⟩)):=by
    rw [cell_fr hf3 hbF3 (Nat.lt_of_lt_of_le hbl hf12.1),cell_fr hf12 hbF1 hbl,hc]
   rw [hc4] at e1;simpa using e1
  subst hsb
  refine ⟨_,rfl,_,hM3.m.cell 2,psHeap_c hS4 fun hb F5 hR hsub5 hup5=>⟨_,rfl,⟨⟨hM3.m.cell 2,trivial⟩,trivial⟩,mark_c hR fun H5 hR5 hf5=>⟨_,rfl,trivial,?_⟩⟩⟩
  have hS5:=hup5 H5 _ hR5 hf5
  have hK5:=hup4 H5 _ hS5 (hf5.mono hsub5)
  have:=h H5 ?_ ((hfF.trans hf3').trans ((hf5.mono hsub5).mono hsub4))
  ·exact this
  ·have ed:(s.drop ((s.stack.length:Int)-kp)).2.h=s.h:=by unfold SP.drop;split <;> rfl
   simp only [ed] at hK5
   exact hK5
 ·have h24:e=24:=Classical.byContradiction h2
  rw [if_pos h24] at h
  refine h H3 ?_ (hfF.trans hf3')
  have ed:(s.drop ((s.stack.length:Int)-kp)).2.h=s.h:=by unfold SP.drop;split <;> rfl
  have hK3:=hM3.k
  generalize (s.drop ((s.stack.length:Int)-kp)).2=s' at *
  cases s'
  simp only at ed
  subst ed
  exact hK3
theorem KS.words {s:SP}{v:KV} (h:KS s v):kwords s.h v.clsA=v.clsW:=h.view.all.kwords
theorem mappend_k {H0:Heap} (hM:PM H0 mb b F s t cnt mk kp) (hf:Fr [] H0 H){a a2:Option Addr}{l c c2 l2:Nat}{G:Foot}{ws xs:List Int}{Q:QT} (ho:Own 1 H a l c (intsV ws) G) (hG:∀ x∈G,H0.size≤x) (hws:ws.length≤8192) (h2:Rd 1 H a2 l2 (intsV xs)) (hxs:l2≤8192)
  (h:∀ H' F',PM H' mb b F' (s.array (ws++xs)).2 t cnt mk kp→Up F H0 F' H'→Q (.tuple #[.int .i64 (s.array (ws++xs)).1.1,.int .i64 (s.array (ws++xs)).1.2]) H') :
  evS PP (Builtin.append_ #[108,108] 108 #[.slice a l c,.slice a2 l2 c2]) (fun v H'=>∃ a3:Option Addr,∃ l3:Nat,∃ c3:Nat,v=.slice a3 l3 c3∧True∧callS PP n_k94 #[.pointer (some ⟨mb,0,none⟩),.slice a3 l3 c3] Q H') H:=by
 have hs1:sliceInfo PP 108=some (1,8,some (.int .i64 0)):=by kernel_rfl
 have hl:l=ws.length:=by have:=ho.len;simpa [intsV] using this.symm
 have hlt:=hM.k.lt
 refine evS_append hs1 rfl (by kernel_rfl) ho h2 intsV_one (by omega) (by decide) (by decide) fun a' c' G' H' g1 g2 g3=>⟨_,_,_,rfl,trivial,?_⟩
 obtain ⟨hf',hG'⟩:=Up.fresh hf g2 hG
 have ho':Out H' a' F:=Own.out g1 fun x hx hm=>by have:=hG' x hx;have:=hlt x hm;omega
 rw [←intsV_append] at g1
 exact marray_k (hM.nil hf') g1.rd (fun p hp=>(ho' p hp).2) (by omega) fun H2 F' hM2 hu=>h H2 F' hM2 ((Up.of_nil hf').trans hu)
theorem mdefine3_k (hM:PM H mb b F s t cnt mk kp) (hk:KS s v){c:Int} (hc:1≤c∧c≤65536) (hst:s.stack.length<65000)
  (h:∀ H' F',PM H' mb b F' (kDef3 s t v.clsW (4*c)).2.1 t cnt mk kp→Up F H F' H'→Q (.tuple #[.int .i64 (kDef3 s t v.clsW (4*c)).1.1,.int .i64 (kDef3 s t v.clsW (4*c)).1.2]) H') :
  ∃ J37:List Value→Heap→Prop,(∃ q38,(some ⟨mb,0,none⟩:Option Addr)=some q38∧∃ p39:Option Addr,cellH H q38=some (.pointer p39)∧∃ q40,(some ⟨mb,0,none⟩:Option Addr)=some q40∧∃ p41:Option Addr,cellH H q40=some (.pointer p41)∧(callS PP 74 #[.agg #[.pointer p41],.int .i64 0] (fun v42 H12=>∃ n43:Int,v42=.int .i64 n43∧((cellH H12 q38=some (.pointer p39)∧True)∧True)∧(callS PP 95 #[.agg #[.pointer p39],.int .i64 n43] (fun v44 H13=>∃ a45:Option Addr,∃ l45:Nat,∃ c45:Nat,v44=.slice a45 l45 c45∧True∧True∧evS PP (Builtin.append_ #[108,108] 108 #[.slice a45 l45 c45,.slice (some (⟨H13.size,0,none⟩:Addr)) 1 1]) (fun v46 H14=>∃ a47:Option Addr,∃ l47:Nat,∃ c47:Nat,v46=.slice a47 l47 c47∧True∧callS PP 94 #[.pointer (some ⟨mb,0,none⟩:Option Addr),.slice a47 l47 c47] (fun v48 H15=>∃ n49:Int,∃ n50:Int,v48=.tuple #[.int .i64 n49,.int .i64 n50]∧True∧J37 [.int .i64 n50,.int .i64 n49] H15) H14) (H13.push (.cells #[.int .i64 (4*c)] 36))) H12)∧(((cellH (H12.push (.cells #[.int .i64 (4*c)] 36)) q38=some (.pointer p39)∧True)∧True)∧callS PP 95 #[.agg #[.pointer p39],.int .i64 n43] (fun v51 H16=>∃ a52:Option Addr,∃ l52:Nat,∃ c52:Nat,v51=.slice a52 l52 c52∧True∧evS PP (Builtin.append_ #[108,108] 108 #[.slice a52 l52 c52,.slice (some (⟨H12.size,0,none⟩:Addr)) 1 1]) (fun v53 H17=>∃ a54:Option Addr,∃ l54:Nat,∃ c54:Nat,v53=.slice a54 l54 c54∧True∧callS PP 94 #[.pointer (some ⟨mb,0,none⟩:Option Addr),.slice a54 l54 c54] (fun v55 H18=>∃ n56:Int,∃ n57:Int,v55=.tuple #[.int .i64 n56,.int .i64 n57]∧True∧J37 [.int .i64 n57,.int .i64 n56] H18) H17) H16) (H12.push (.cells #[.int .i64 (4*c)] 36)))) H)∧(((cellH (H.push (.cells #[.int .i64 (4*c)] 36)) q40=some (.pointer p41)∧True)∧((cellH (H.push (.cells #[.int .i64 (4*c)] 36)) q38=some (.pointer p39)∧True)∧True))∧callS PP 74 #[.agg #[.pointer p41],.int .i64 0] (fun v58 H19=>∃ n59:Int,v58=.int .i64 n59∧((cellH H19 q38=some (.pointer p39)∧True)∧True)∧callS PP 95 #[.agg #[.pointer p39],.int .i64 n59] (fun v60 H20=>∃ a61:Option Addr,∃ l61:Nat,∃ c61:Nat,v60=.slice a61 l61 c61∧True∧evS PP (Builtin.append_ #[108,108] 108 #[.slice a61 l61 c61,.slice (some (⟨H.size,0,none⟩:Addr)) 1 1]) (fun v62 H21=>∃ a63:Option Addr,∃ l63:Nat,∃ c63:Nat,v62=.slice a63 l63 c63∧True∧callS PP 94 #[.pointer (some ⟨mb,0,none⟩:Option Addr),.slice a63 l63 c63] (fun v64 H22=>∃ n65:Int,∃ n66:Int,v64=.tuple #[.int .i64 n65,.int .i64 n66]∧True∧J37 [.int .i64 n66,.int .i64 n65] H22) H21) H20) H19) (H.push (.cells #[.int .i64 (4*c)] 36))))∧∀ w67 H23,J37 w67 H23→∀ _g:Nat→Value,∃ n68:Int,∃ n69:Int,w67=[.int .i64 n68,.int .i64 n69]∧cond (n68 != 0) (Q (.tuple #[.int .i64 0,.int .i64 n68]) H23) (∃ q70,(some ⟨mb,0,none⟩:Option Addr)=some q70∧∃ p71:Option Addr,cellH H23 q70=some (.pointer p71)∧∃ q72,p71=some q72∧∃ p73:Option Addr,cellH H23 q72=some (.pointer p73)∧callS PP 96 #[.pointer p73,.int .i64 0,.int .i64 n69] (fun v74 H24=>∃ n75:Int,v74=.int .i64 n75∧callS PP 183 #[.int .i64 (4*c)] (fun v76 H25=>∃ n77:Int,∃ n78:Int,v76=.tuple #[.int .i64 n77,.int .i64 n78]∧Q (.tuple #[.int .i64 n77,.int .i64 n78]) H25) H24) H23):=by
 have hm1:=hk.shape.many1
 have hcw:v.clsW.length≤8192:=by simp [KV.clsW];omega
 have hws:∀ w∈v.clsW++[4*c],isW w:=fun w hw=>by
  rcases List.mem_append.1 hw with hw | hw
  ·exact clsW_words hk w hw
  ·simp only [List.mem_singleton] at hw;rw [hw];exact isW_obj hc.1 hc.2
 obtain ⟨h1,h2,⟨m,h3,h3'⟩,h4⟩:=array_ok hk (by omega) hws
 refine ⟨fun w H'=>∃ F',w=[.int .i64 (s.array (v.clsW++[4*c])).1.2,.int .i64 (s.array (v.clsW++[4*c])).1.1]∧PM H' mb b F' (s.array (v.clsW++[4*c])).2 t cnt mk kp∧Up F H F' H',?_,?_⟩
 ·have hB:=hM.m
  have mc:∀ {H':Heap},Fr [] H H'→cellH H' ⟨mb,0,none⟩=some (.pointer (some ⟨b,0,none⟩)):=fun hf=>(hB.fr hf (by simp)).cell 0
  have one:∀ {H':Heap},Rd 1 (H'.push (.cells #[.int .i64 (4*c)] 36)) (some ⟨H'.size,0,none⟩) 1 (intsV [4*c]):=fun {H'}=>rd_new (H:=H') (cs:=[4*c])
  refine ⟨_,rfl,_,hB.cell 0,_,rfl,_,hB.cell 0,?_,?_⟩
  ·refine root_k hM.k fun H12 f12=>⟨_,rfl,⟨⟨mc f12,trivial⟩,trivial⟩,?_,?_⟩
   ·rw [hk.root0]
    refine words_k (hM.k.nil f12) fun a l cc G H13 ho f13 hG=>⟨_,_,_,rfl,trivial,trivial,?_⟩
    rw [KS.words hk] at ho
    have fp:=(Fr.push [] H13 (.cells #[.int .i64 (4*c)] 36))
    refine mappend_k hM ((f12.trans f13).trans fp) (ho.fr fp (by simp)) (fun x hx=>Nat.le_trans f12.1 (hG x hx)) hcw one (by decide) fun H' F' hM' hu=>⟨_,_,rfl,trivial,F',rfl,hM',hu⟩
   ·have fp:=(Fr.push [] H12 (.cells #[.int .i64 (4*c)] 36))
    refine ⟨⟨⟨mc (f12.trans fp),trivial⟩,trivial⟩,?_⟩
    rw [hk.root0]
    refine words_k (hM.k.nil (f12.trans fp)) fun a l cc G H13 ho f13 hG=>⟨_,_,_,rfl,trivial,?_⟩
    rw [KS.words hk] at ho
    refine mappend_k hM ((f12.trans fp).trans f13) ho (fun x hx=>Nat.le_trans (f12.trans fp).1 (hG x hx)) hcw (one.fr' f13 (by simp)) (by decide) fun H' F' hM' hu=>⟨_,_,rfl,trivial,F',rfl,hM',hu⟩
  ·have fp:=(Fr.push [] H (.cells #[.int .i64 (4*c)] 36))
   refine ⟨⟨⟨mc fp,trivial⟩,⟨mc fp,trivial⟩,trivial⟩,?_⟩
   refine root_k (hM.k.nil fp) fun H12 f12=>⟨_,rfl,⟨⟨mc (fp.trans f12),trivial⟩,trivial⟩,?_⟩
   rw [hk.root0]
   refine words_k (hM.k.nil (fp.trans f12)) fun a l cc G H13 ho f13 hG=>⟨_,_,_,rfl,trivial,?_⟩
   rw [KS.words hk] at ho
   refine mappend_k hM ((fp.trans f12).trans f13) ho (fun x hx=>Nat.le_trans (fp.trans f12).1 (hG x hx)) hcw (one.fr' (f12.trans f13) (by simp)) (by decide) fun H' F' hM' hu=>⟨_,_,rfl,trivial,F',rfl,hM',hu⟩
 ·rintro w H23 ⟨F',rfl,hM',hu⟩ _
  unfold kDef3 at h
  refine ⟨_,_,rfl,?_⟩
  rw [bneI,cond_dec]
  refine ite_i (fun he=>?_) fun he=>?_
  ·rw [if_pos he] at h;exact h _ _ hM' hu
  rw [if_neg he] at h
  obtain ⟨sb,F1,hcs,hS,hsub,_,_,hup⟩:=hM'.k.sp
  refine ⟨_,rfl,_,hM'.m.cell 0,_,rfl,_,hcs,psSetRoot_c hS (fun o ho=>?_) fun H4 hS4 hf4=>⟨_,rfl,?_⟩⟩
  ·obtain ⟨x,hx1,hx2,_⟩:=h1.view.root
   rw [h1.king] at ho
   rw [hx1] at ho;cases ho;exact hx2
  have hK4:=hup H4 _ hS4 hf4
  have hu4:Up F' H23 F' H4:=⟨hf4.mono hsub,fun _ h=>.inl h⟩
  have hM4:=hM'.up hK4 hu4
  refine oop_c hM4.k.kinds ?_
  unfold ofW
  rw [if_pos (show kindW (4*c)=3 by have:=kind_cases (4*c);omega)]
  exact ⟨_,_,rfl,h _ _ hM4 (hu.trans hu4)⟩
theorem mdefine2_k (hM:PM H mb b F s t cnt mk kp) (hk:KS s v){n up l:Int} (hn:isW n) (hup:1≤up∧up≤65536) (hl:isW l) (hst:s.stack.length<64000){n27 n31:Int} (e27:n27=72) (e31:n31=1)
  {n29:Int} (e29:n29=4*up){n33:Int} (e33:n33=2*((v.cls.length:Int)+1)+1)
  (h:∀ H' F',PM H' mb b F' (kDef2 s t v.clsW n up l).2.1 t cnt mk kp→Up F H F' H'→Q (.tuple #[.int .i64 (kDef2 s t v.clsW n up l).1.1,.int .i64 (kDef2 s t v.clsW n up l).1.2]) H') :
  callS PP 206 #[.pointer (some ⟨mb,0,none⟩:Option Addr),.int .i64 12,.slice (some (⟨H.size,0,none⟩:Addr)) 7 7] (fun v34 H11=>∃ n35:Int,∃ n36:Int,v34=.tuple #[.int .i64 n35,.int .i64 n36]∧cond (n36 != 0) (Q (.tuple #[.int .i64 0,.int .i64 n36]) H11) (∃ J37:List Value→Heap→Prop,(∃ q38,(some ⟨mb,0,none⟩:Option Addr)=some q38∧∃ p39:Option Addr,cellH H11 q38=some (.pointer p39)∧∃ q40,(some ⟨mb,0,none⟩:Option Addr)=some q40∧∃ p41:Option Addr,cellH H11 q40=some (.pointer p41)∧(callS PP 74 #[.agg #[.pointer p41],.int .i64 0] (fun v42 H12=>∃ n43:Int,v42=.int .i64 n43∧((cellH H12 q38=some (.pointer p39)∧True)∧True)∧(callS PP 95 #[.agg #[.pointer p39],.int .i64 n43] (fun v44 H13=>∃ a45:Option Addr,∃ l45:Nat,∃ c45:Nat,v44=.slice a45 l45 c45∧True∧True∧evS PP (Builtin.append_ #[108,108] 108 #[.slice a45 l45 c45,.slice (some (⟨H13.size,0,none⟩:Addr)) 1 1]) (fun v46 H14=>∃ a47:Option Addr,∃ l47:Nat,∃ c47:Nat,v46=.slice a47 l47 c47∧True∧callS PP 94 #[.pointer (some ⟨mb,0,none⟩:Option Addr),.slice a47 l47 c47] (fun v48 H15=>∃ n49:Int,∃ n50:Int,v48=.tuple #[.int .i64 n49,.int .i64 n50]∧True∧J37 [.int .i64 n50,.int .i64 n49] H15) H14) (H13.push (.cells #[.int .i64 n35] 36))) H12)∧(((cellH (H12.push (.cells #[.int .i64 n35] 36)) q38=some (.pointer p39)∧True)∧True)∧callS PP 95 #[.agg #[.pointer p39],.int .i64 n43] (fun v51 H16=>∃ a52:Option Addr,∃ l52:Nat,∃ c52:Nat,v51=.slice a52 l52 c52∧True∧evS PP (Builtin.append_ #[108,108] 108 #[.slice a52 l52 c52,.slice (some (⟨H12.size,0,none⟩:Addr)) 1 1]) (fun v53 H17=>∃ a54:Option Addr,∃ l54:Nat,∃ c54:Nat,v53=.slice a54 l54 c54∧True∧callS PP 94 #[.pointer (some ⟨mb,0,none⟩:Option Addr),.slice a54 l54 c54] (fun v55 H18=>∃ n56:Int,∃ n57:Int,v55=.tuple #[.int .i64 n56,.int .i64 n57]∧True∧J37 [.int .i64 n57,.int .i64 n56] H18) H17) H16) (H12.push (.cells #[.int .i64 n35] 36)))) H11)∧(((cellH (H11.push (.cells #[.int .i64 n35] 36)) q40=some (.pointer p41)∧True)∧((cellH (H11.push (.cells #[.int .i64 n35] 36)) q38=some (.pointer p39)∧True)∧True))∧callS PP 74 #[.agg #[.pointer p41],.int .i64 0] (fun v58 H19=>∃ n59:Int,v58=.int .i64 n59∧((cellH H19 q38=some (.pointer p39)∧True)∧True)∧callS PP 95 #[.agg #[.pointer p39],.int .i64 n59] (fun v60 H20=>∃ a61:Option Addr,∃ l61:Nat,∃ c61:Nat,v60=.slice a61 l61 c61∧True∧evS PP (Builtin.append_ #[108,108] 108 #[.slice a61 l61 c61,.slice (some (⟨H11.size,0,none⟩:Addr)) 1 1]) (fun v62 H21=>∃ a63:Option Addr,∃ l63:Nat,∃ c63:Nat,v62=.slice a63 l63 c63∧True∧callS PP 94 #[.pointer (some ⟨mb,0,none⟩:Option Addr),.slice a63 l63 c63] (fun v64 H22=>∃ n5:Int,∃ n6:Int,v64=.tuple #[.int .i64 n5,.int .i64 n6]∧True∧J37 [.int .i64 n6,.int .i64 n5] H22) H21) H20) H19) (H11.push (.cells #[.int .i64 n35] 36))))∧∀ w67 H23,J37 w67 H23→∀ _g:Nat→Value,∃ n8:Int,∃ n9:Int,w67=[.int .i64 n8,.int .i64 n9]∧cond (n8 != 0) (Q (.tuple #[.int .i64 0,.int .i64 n8]) H23) (∃ q70,(some ⟨mb,0,none⟩:Option Addr)=some q70∧∃ p71:Option Addr,cellH H23 q70=some (.pointer p71)∧∃ q72,p71=some q72∧∃ p73:Option Addr,cellH H23 q72=some (.pointer p73)∧callS PP 96 #[.pointer p73,.int .i64 0,.int .i64 n9] (fun v74 H24=>∃ n75:Int,v74=.int .i64 n75∧callS PP 183 #[.int .i64 n35] (fun v76 H25=>∃ n77:Int,∃ n78:Int,v76=.tuple #[.int .i64 n77,.int .i64 n78]∧Q (.tuple #[.int .i64 n77,.int .i64 n78]) H25) H24) H23))) (H.push (.cells #[.int .i64 n,.int .i64 n29,.int .i64 l,.int .i64 n27,.int .i64 n27,.int .i64 n31,.int .i64 n33] 36)):=by
 have hm1:=hk.shape.many1
 have hcw:v.clsW.length=v.cls.length:=by simp [KV.clsW]
 subst e27 e31 e29 e33
 have hws:=clsSlots_words (n:=n) (up:=up) (l:=l) (k:=v.clsW.length) hn (isW_obj hup.1 hup.2) hl (by omega)
 obtain ⟨b1,b2,b3,b4⟩:=make_ok hk (by omega) (cls:=12) (by decide) hws
 have fp:=(Fr.push [] H (.cells (intsV (clsSlots n up l v.clsW.length)).toArray 36))
 have hlt:=hM.k.lt
 rw [←hcw]
 unfold kDef2 at h
 refine mmake_k (s:=s) (ws:=clsSlots n up l v.clsW.length) (hM.nil fp) (by decide) rd_new (fun p hp hm=>?_) (by decide) fun H' F' hM' hu=>⟨_,_,rfl,?_⟩
 ·cases hp
  exact absurd (hlt _ hm) (Nat.lt_irrefl _)
 rw [bneI,cond_dec]
 have hu':=(Up.of_nil fp).trans hu
 refine ite_i (fun he=>?_) fun he=>?_
 ·rw [if_pos he] at h
  have:=h _ _ hM' hu'
  have hz:=(b3 he).2
  exact this
 rw [if_neg he] at h
 have hz:(s.make 12 (clsSlots n up l v.clsW.length)).1.2=0:=Classical.byContradiction he
 obtain ⟨c,ec,est,c1,c2,_⟩:=b4 hz
 rw [ec] at h ⊢
 exact mdefine3_k hM' b1 ⟨c1,c2⟩ (by rw [est,List.length_append];simp;omega) fun H2 F2 hM2 hu2=>h H2 F2 hM2 (hu'.trans hu2)
theorem kDef2_t (s:SP) (t:TB) (cw:List Int) (n up l:Int):(kDef2 s t cw n up l).2.2=t:=by
 unfold kDef2
 split
 ·rfl
 ·unfold kDef3;split <;> rfl
theorem mdefine_k (hM:PM H mb b F s t cnt mk kp) (hk:KS s v){name:ByteArray}{up:Int} (hup:1≤up∧up≤65536) (hst:s.stack.length<60000){a:Option Addr}{l c:Nat}{own:List ByteArray} (hr:Rd 1 H a l (strsV own)) (hout:Outs H a l F) (hlk:l≤100000000)
  (h:∀ H' F',PM H' mb b F' (kDef s t v.clsW name up own).2.1 (kDef s t v.clsW name up own).2.2 cnt mk kp→Up F H F' H'→Q (.tuple #[.int .i64 (kDef s t v.clsW name up own).1.1,.int .i64 (kDef s t v.clsW name up own).1.2]) H') :
  callS PP n_k89 #[.pointer (some ⟨mb,0,none⟩),.string name,.int .i64 up,.slice a l c] Q H:=by
 have hs1:sliceInfo PP 108=some (1,8,some (.int .i64 0)):=by kernel_rfl
 have hm1:=hk.shape.many1
 have hl:l=own.length:=by have:=hr.1;simpa [strsV] using this.symm
 apply k89_ok
 unfold k89 A0 iV wW pV sV lV cS
 unfold kDef at h
 refine msymbol_k hM fun H1 F1 hM1 hu1=>⟨_,_,rfl,?_⟩
 rw [bneI,cond_dec]
 refine ite_i (fun h1=>?_) fun h1=>?_
 ·rw [if_pos h1] at h;exact h H1 F1 hM1 hu1
 rw [if_neg h1] at h
 have hz1:(t.add name).1.2=0:=Classical.byContradiction h1
 rw [if_pos hz1]
 obtain ⟨nn,en,en2,_⟩:=add_ok name hz1
 rw [en] at h ⊢
 generalize (t.add name).2=t1 at *
 have hout1:=hout.up hu1
 have hr1:=hout.rd hu1 hr
 refine ⟨fun w H'=>∃(i:Nat) (t':TB) (acc:List Int) (a':Option Addr) (l' c':Nat) (G F':Foot),w=[.slice a' l' c',.int .i64 i]∧i≤own.length∧PM H' mb b F' s t' cnt mk kp∧Up F1 H1 F' H'∧t'.addAll acc (own.drop i)=t1.addAll [] own∧Own 1 H' a' l' c' (intsV acc) G∧(∀ x∈G,H1.size≤x∧x∉F')∧acc.length=i,fun w _=>match w with
  | [_,.int _ i]=>(own.length-i).toNat
  | _=>0,⟨0,t1,[],none,0,0,[],F1,rfl,Nat.zero_le _,hM1,Up.refl _ _,rfl,by simpa [intsV] using Own.nil 1 H1,by simp,rfl⟩,?_⟩
 rintro w H2 ⟨i,t2,acc,a2,l2,c2,G,F2,rfl,hi,hM2,hu2,hadd,ho,hG,hacc⟩ _
 have hl2:l2=i:=by have:=ho.len;simp only [intsV,List.length_map] at this;omega
 have hgm:=hM1.m.lt
 have hgk:=hM1.k.kinds.lt
 refine ⟨_,_,_,_,rfl,?_⟩
 rw [cond_dec]
 refine ite_i (fun hlt=>?_) fun hlt=>?_
 ·obtain ⟨p,hlt2,rfl,hcell⟩:=(hout1.rd hu2 hr1).str (i:=(i:Int)) (by omega) hlt
  simp only [Int.toNat_natCast] at hcell hlt2
  have e1:IntKind.wrap .i64 ((i:Int)+1)=((i+1:Nat):Int):=by rw [wrap64_id (by omega) (by omega)];omega
  have ed:own.drop i=own[i] :: own.drop (i+1):=List.drop_eq_getElem_cons hlt2
  rw [ed,TB.addAll] at hadd
  refine ⟨⟨by omega,hlt⟩,_,rfl,_,by rw [Int.toNat_natCast,Nat.mul_one];exact hcell,msymbol_k hM2 fun H3 F3 hM3 hu3=>⟨_,_,rfl,?_⟩⟩
  rw [bneI,cond_dec]
  refine ite_i (fun h3=>?_) fun h3=>?_
  ·rw [if_pos h3] at hadd
   rw [if_pos (by rw [←hadd];exact h3),←hadd] at h
   exact h H3 F3 hM3 ((hu1.trans hu2).trans hu3)
  rw [if_neg h3] at hadd
  have hz3:(t2.add own[i]).1.2=0:=Classical.byContradiction h3
  rw [if_pos hz3]
  have hoG:∀ x∈G,x<H2.size:=ho.lt
  have ho3:Own 1 H3 a2 l2 c2 (intsV acc) G:=ho.fr hu3.1 fun x hx=>(hG x hx).2
  refine evS_append1 hs1 rfl (by kernel_rfl) ho3 rfl (by simp [oneC]) (by omega) (by decide) (by decide) fun a' c' G2 H4 g1 g2 g3=>⟨_,_,_,rfl,?_⟩
  rw [e1]
  have hG3:∀ x∈G,H1.size≤x∧x∉F3:=fun x hx=>⟨(hG x hx).1,Up.out hu3 (hG x hx).2 (hoG x hx)⟩
  have hF3lt:=hM3.k.lt
  have hM4:PM H4 mb b F3 s (t2.add own[i]).2 cnt mk kp:=⟨hM3.k.fr g2.1 (fun x hx hm=>(hG3 x hm).2 hx) (fun hm=>by have:=(hG3 _ hm).1;omega),hM3.m.fr g2.1 (fun hm=>by have:=(hG3 _ hm).1;omega),hM3.out⟩
  have hu4:Up F1 H1 F3 H4:=by
   have h12:=hu2.trans hu3
   refine ⟨⟨Nat.le_trans h12.1.1 g2.1.1,fun x hx hn=>?_⟩,h12.2⟩
   rw [g2.1.2 x (Nat.lt_of_lt_of_le hx h12.1.1) (fun hm=>by have:=(hG3 x hm).1;omega),h12.1.2 x hx hn]
  refine ⟨⟨i+1,_,_,a',l2+1,c',G2,F3,rfl,by omega,hM4,hu4,hadd,?_,fun x hx=>?_,by simp [hacc]⟩,by simp;omega⟩
  ·rw [intsV_append];exact g1
  ·rcases g2.2 x hx with h5 | h5
   ·exact hG3 x h5
   ·exact ⟨Nat.le_trans (hu2.trans hu3).1.1 h5,fun hm=>by have:=hF3lt x hm;omega⟩
 ·have hil:i=own.length:=by omega
  rw [hil,List.drop_length,TB.addAll] at hadd
  rw [if_neg (by rw [←hadd];simp),←hadd] at h
  simp only at h
  unfold kDef1 at h
  have hu12:=hu1.trans hu2
  have hall:=addAll_ok (t:=t1) [] own (by rw [←hadd])
  rw [←hadd] at hall
  simp only at hall
  obtain ⟨ns,ens,ens2⟩:=hall
  rw [List.nil_append] at ens
  have hwt2:=hM2.k.wft
  have hns:∀ n∈ns,n<t2.texts.length:=fun n hn=>by
   have:t2.texts[n]?∈own.map some:=by rw [←ens2];exact List.mem_map.2 ⟨n,hn,rfl⟩
   obtain ⟨s,_,hs⟩:=List.mem_map.1 this
   exact (tx_some hs.symm).2
  have hnn:nn<t2.texts.length:=by
   have h5:=(tx_some en2).2
   have h6:=(addAll_pre t1 [] own).2
   rw [←hadd] at h6
   obtain ⟨m,e⟩:=h6
   rw [e,List.length_append];omega
  have hws:∀ w∈acc,isW w:=fun w hw=>by
   rw [ens] at hw
   obtain ⟨x,hx,rfl⟩:=List.mem_map.1 hw
   exact isW_sym hwt2 (hns x hx)
  obtain ⟨a1,a2',⟨m1,a3,a3'⟩,a4⟩:=array_ok hk (by omega) hws
  refine marray_k hM2 ho.rd (fun p hp=>?_) (by omega) fun H3 F3 hM3 hu3=>⟨_,_,rfl,?_⟩
  ·rcases ho.2.2 with ⟨h5,_⟩ | ⟨b',cs,h5,h6,_⟩
   ·rw [h5] at hp;cases hp
   ·rw [h5] at hp;cases hp
    exact (hG b' (by rw [h6];simp)).2
  have hu13:=hu12.trans hu3
  rw [bneI,cond_dec]
  refine ite_i (fun h5=>?_) fun h5=>?_
  ·rw [if_pos h5] at h;exact h H3 F3 hM3 hu13
  rw [if_neg h5] at h
  have hz5:(s.array acc).1.2=0:=Classical.byContradiction h5
  obtain ⟨lo,elo,lo1,lo2,_⟩:=a4 hz5
  refine ⟨_,rfl,_,hM3.m.cell 0,count_ks hM3.k a1 fun H4 f4=>⟨_,rfl,object_c (by decide) ⟨_,rfl,object_c hup ⟨_,rfl,integer_c (by decide) ⟨_,rfl,?_⟩⟩⟩⟩⟩
  have ew:IntKind.wrap .i64 ((v.cls.length:Int)+1)=(v.cls.length:Int)+1:=wrap64_id (by omega) (by omega)
  rw [ew]
  refine integer_c ⟨by omega,by omega⟩ ⟨_,rfl,?_⟩
  have hu4:Up F3 H3 F3 H4:=Up.of_nil f4
  refine mdefine2_k (hM3.nil f4) a1 (isW_sym hwt2 hnn) hup (by rw [elo];exact isW_obj lo1 lo2) (by rw [a3,List.length_append];omega) rfl rfl rfl rfl fun H5 F5 hM5 hu5=>?_
  have et:(kDef2 (s.array acc).2 t2 v.clsW (4*(nn:Int)+2) up (s.array acc).1.1).2.2=t2:=kDef2_t _ _ _ _ _ _
  exact h H5 F5 (by rw [et];exact hM5) ((hu13.trans hu4).trans hu5)
end
section
variable {H:Heap}{b:Nat}{F:Foot}{s:SP}{t:TB}{v:KV}{Q:QT}
theorem kdefine_k (hK:PK H b F s t) (hv:KAll s t v){name sup:ByteArray}{a:Option Addr}{l c:Nat}{own:List ByteArray} (hr:Rd 1 H a l (strsV own)) (hout:Outs H a l F) (hlc:l≤c) (hlk:l≤1000000000000000)
  (h:∀ H' F',PK H' b F' (kDefineAll s v t name sup own).2.1 (kDefineAll s v t name sup own).2.2→Up F H F' H'→Q (.tuple #[.int .i64 (kDefineAll s v t name sup own).1.1,.int .i64 (kDefineAll s v t name sup own).1.2]) H') :
  callS PP n_k17 #[.pointer (some ⟨b,0,none⟩),.string name,.string sup,.slice a l c] Q H:=by
 apply k17_ok
 unfold k17 iV pV sV lV cS
 unfold kDefineAll at h
 refine there_c hK ⟨_,rfl,?_⟩
 simp only [Bool.not_true,cond_false]
 refine definable_k hK hv hr hlc (by omega) fun H1 hf1=>⟨_,_,rfl,?_⟩
 rw [bneI,cond_dec]
 refine ite_i (fun h1=>?_) fun h1=>?_
 ·rw [if_pos h1] at h;exact h H1 F (hK.nil hf1) (Up.of_nil hf1)
 rw [if_neg h1] at h
 obtain ⟨j,hj,ej,hlt,hno,_,_⟩:=defK_ok hv (Classical.byContradiction h1)
 rw [ej] at h ⊢
 have hb:=up_arr hv.ks hj
 have hst:s.stack.length<60000:=by rw [hv.stack];decide
 refine begin_k (hK.nil hf1) fun H2 mb hM2 hf2=>⟨_,rfl,?_⟩
 have hf12:=hf1.trans hf2
 have hu2:Up F H F H2:=Up.of_nil hf12
 have hl32:=defK_len (Classical.byContradiction h1)
 refine mdefine_k hM2 hv.ks hb hst (hout.rd hu2 hr) (hout.up hu2) (by have:=hr.1;simp only [strsV,List.length_map] at this;omega) fun H3 F3 hM3 hu3=>⟨_,_,rfl,?_⟩
 refine end_k hM3 ⟨by omega,by omega⟩ fun H4 hK4 hf4=>⟨_,rfl,?_⟩
 have hu4:Up F H F3 H4:=(hu2.trans hu3).trans ⟨hf4,fun _ h=>.inl h⟩
 have:=h H4 F3 hK4 hu4
 unfold kDefine at this
 rw [bneI,cond_dec]
 refine ite_i (fun h2=>?_) fun h2=>?_
 ·rw [if_neg h2] at this;exact this
 ·have hz:=Classical.byContradiction h2
  rw [if_pos hz] at this
  have e0:(kDef s t v.clsW name (v.cls[j]).oop own).1.2=0:=hz
  rw [e0] at this
  exact this
theorem KS.gwords {s:SP}{v:KV} (h:KS s v):kwords s.h v.globA=globW v.glob:=h.view.globs.kwords
theorem kglobal_k (hK:PK H b F s t) (hv:KAll s t v){name:ByteArray}
  (h:∀ H' F',PK H' b F' (kGlobalAll s v t name).2.1 (kGlobalAll s v t name).2.2→Up F H F' H'→Q (.int .i64 (kGlobalAll s v t name).1) H') :
  callS PP n_k18 #[.pointer (some ⟨b,0,none⟩),.string name] Q H:=by
 have hg:=hv.ks.shape.globs
 apply k18_ok
 unfold k18 A0 iV pV sV lV cS
 unfold kGlobalAll globK at h
 refine there_c hK ⟨_,rfl,?_⟩
 simp only [Bool.not_true,cond_false]
 refine named_k (lo:=65) (up:=90) fun H1 hf1=>⟨_,rfl,?_⟩
 rw [←decide_not,cond_dec]
 refine ite_i (fun h1=>?_) fun h1=>?_
 ·rw [if_pos h1,if_pos (by decide)] at h;exact h H1 F (hK.nil hf1) (Up.of_nil hf1)
 rw [if_neg h1] at h
 refine taken_k (hK.nil hf1) hv fun H2 hf2=>⟨_,rfl,?_⟩
 have hF2:=hf1.trans hf2
 rw [cond_dec]
 refine ite_i (fun h2=>?_) fun h2=>?_
 ·rw [if_pos h2,if_pos (by decide)] at h;exact h H2 F (hK.nil hF2) (Up.of_nil hF2)
 rw [if_neg h2] at h
 refine globals_k (hK.nil hF2) hv fun a l c G H3 ho hf3 hG=>⟨_,_,_,rfl,?_⟩
 have hF3:=hF2.trans hf3
 have hl:l=v.glob.length:=by have:=ho.len;simpa [strsV,globsK] using this.symm
 rw [cond_dec]
 refine ite_i (fun h3=>?_) fun h3=>?_
 ·rw [if_pos (show 256≤v.glob.length by omega),if_pos (by decide)] at h;exact h H3 F (hK.nil hF3) (Up.of_nil hF3)
 rw [if_neg (show ¬ 256≤v.glob.length by omega),if_neg (by decide)] at h
 refine begin_k (hK.nil hF3) fun H4 mb hM4 hf4=>⟨_,rfl,?_⟩
 have hF4:=hF3.trans hf4
 have hu4:Up F H F H4:=Up.of_nil hF4
 unfold kGlobal at h
 have hst:s.stack.length<60000:=by rw [hv.stack];decide
 have hkp:(0:Int)≤s.stack.length∧(s.stack.length:Int)≤1000000:=⟨by omega,by omega⟩
 have fin:∀ (R:Int × SP × TB) (H5:Heap) (F5:Foot),kGlob s t (globW v.glob) name=R→PM H5 mb b F5 R.2.1 R.2.2 t.texts.length s.h.mark s.stack.length→Up F H F5 H5→callS PP n_k90 #[.pointer (some ⟨mb,0,none⟩),.int .i64 R.1] (fun v37 H13=>∃ n38:Int,v37=.int .i64 n38∧Q (.int .i64 n38) H13) H5:=by
  intro R H5 F5 eR hM5 hu5
  rw [eR] at h
  exact end_k hM5 hkp fun H6 hK6 hf6=>⟨_,rfl,h H6 F5 hK6 (hu5.trans ⟨hf6,fun _ h=>.inl h⟩)⟩
 refine msymbol_k hM4 fun H5 F5 hM5 hu5=>⟨_,_,rfl,?_⟩
 have hu45:=hu4.trans hu5
 rw [beqI,cond_dec]
 refine ite_i (fun h5=>?_) fun h5=>?_
 rotate_left
 ·have eR:kGlob s t (globW v.glob) name=((t.add name).1.2,s,(t.add name).2):=by unfold kGlob;rw [if_pos h5]
  have:=fin _ H5 F5 eR hM5 hu45
  exact this
 rw [if_pos h5]
 obtain ⟨nn,en,en2,_⟩:=add_ok name h5
 have eR:kGlob s t (globW v.glob) name=kGlob1 s (t.add name).2 (globW v.glob) (4*(t.add name).1.1+2):=by unfold kGlob;rw [if_neg (by simpa using h5)]
 rw [en] at eR ⊢
 generalize (t.add name).2=t1 at *
 unfold kGlob1 at eR
 have hwt1:=hM5.k.wft
 have hnn:=(tx_some en2).2
 have hws:∀ w∈globW v.glob++[4*(nn:Int)+2,4],isW w:=fun w hw=>by
  rcases List.mem_append.1 hw with hw | hw
  ·exact globW_words hv.ks w hw
  ·simp only [List.mem_cons,List.not_mem_nil,or_false] at hw
   rcases hw with rfl | rfl
   ·exact isW_sym hwt1 hnn
   ·decide
 obtain ⟨k1,_⟩:=array_ok hv.ks (by omega) hws
 have mc:∀ {H':Heap},Fr [] H5 H'→cellH H' ⟨mb,0,none⟩=some (.pointer (some ⟨b,0,none⟩)):=fun hf=>(hM5.m.fr hf (by simp)).cell 0
 refine ⟨_,rfl,_,hM5.m.cell 0,_,rfl,_,hM5.m.cell 0,root_k hM5.k fun H6 f6=>⟨_,rfl,⟨⟨mc f6,trivial⟩,trivial⟩,?_⟩⟩
 rw [hv.ks.root1]
 refine words_k (hM5.k.nil f6) fun a7 l7 c7 G7 H7 ho7 f7 hG7=>⟨_,_,_,rfl,trivial,object_c (by decide) ⟨_,rfl,trivial,trivial,?_⟩⟩
 rw [KS.gwords hv.ks] at ho7
 have fp:=(Fr.push [] H7 (.cells #[.int .i64 (4*(nn:Int)+2),.int .i64 4] 36))
 have hr2:Rd 1 (H7.push (.cells #[.int .i64 (4*(nn:Int)+2),.int .i64 4] 36)) (some ⟨H7.size,0,none⟩) 2 (intsV [4*(nn:Int)+2,4]):=rd_new (cs:=[4*(nn:Int)+2,4])
 rw [show ((4:Int)*1)=4 from rfl]
 generalize (H7.push (.cells #[.int .i64 (4*(nn:Int)+2),.int .i64 4] 36))=Hp at fp hr2 ⊢
 have hgl:=globW_len v.glob
 refine mappend_k (xs:=[4*(nn:Int)+2,4]) hM5 ((f6.trans f7).trans fp) (ho7.fr fp (by simp)) (fun x hx=>Nat.le_trans f6.1 (hG7 x hx)) (by omega) hr2 (by decide) fun H8 F8 hM8 hu8=>⟨_,_,rfl,trivial,?_⟩
 have hu58:=hu45.trans hu8
 rw [beqI,cond_dec]
 refine ite_i (fun h6=>?_) fun h6=>?_
 ·rw [if_neg (by simpa using h6)] at eR
  obtain ⟨sb,F1,hcs,hS,hsub,_,_,hup⟩:=hM8.k.sp
  refine ⟨_,rfl,_,hM8.m.cell 0,_,rfl,_,hcs,psSetRoot_c hS (fun o ho=>?_) fun H9 hS9 hf9=>⟨_,rfl,?_⟩⟩
  ·obtain ⟨x,hx1,hx2,_⟩:=k1.view.root
   rw [k1.king] at ho
   rw [hx1] at ho;cases ho;exact hx2
  have hu9:Up F8 H8 F8 H9:=⟨hf9.mono hsub,fun _ h=>.inl h⟩
  have:=fin _ H9 F8 eR (hM8.up (hup H9 _ hS9 hf9) hu9) (hu58.trans hu9)
  rw [h6];exact this
 ·rw [if_pos h6] at eR
  have:=fin _ H8 F8 eR hM8 hu58
  exact this
theorem kspace_k (hK:PK H b F s t) (h:∀ sb F1,cellH H ⟨b,0,none⟩=some (.pointer (some ⟨sb,0,none⟩))→PSp H sb F1 s→(∀ x∈F1,x∈F)→(∀ H' F1' s',PSp H' sb F1' s'→Up F1 H F1' H'→∃ F',PK H' b F' s' t∧Up F H F' H')→(∀ H' s',PSp H' sb F1 s'→Fr F1 H H'→PK H' b F s' t)→Q (.pointer (some ⟨sb,0,none⟩)) H):callS PP n_k19 #[.pointer (some ⟨b,0,none⟩)] Q H:=by
 obtain ⟨sb,F1,hc,hS,hsub,_,hup,hup2⟩:=hK.sp
 apply k19_ok
 unfold k19 pV
 exact ⟨_,rfl,_,hc,h sb F1 hc hS hsub hup hup2⟩
theorem ksymbols_k (hK:PK H b F s t) (h:∀ tb F1,cellH H ⟨b,1,none⟩=some (.pointer (some ⟨tb,0,none⟩))→PTb H tb F1 t→Q (.pointer (some ⟨tb,0,none⟩)) H):callS PP n_k26 #[.pointer (some ⟨b,0,none⟩)] Q H:=by
 obtain ⟨tb,F1,hc,hT,_⟩:=hK.tb
 apply k26_ok
 unfold k26 pV
 exact ⟨_,rfl,_,hc,h tb F1 hc hT⟩
end
section
variable {H:Heap}{b:Nat}{F:Foot}{s:SP}{t:TB}{v:KV}{Q:QT}
theorem globals_r (hK:RK H b F s t) (hv:KAll s t v) (h:∀ a l c G H',Own 1 H' a l c (strsV (globsK v t)) G→Fr [] H H'→(∀ x∈G,H.size≤x)→Q (.slice a l c) H'):callS PP n_k78 #[.pointer (some ⟨b,0,none⟩)] Q H:=by
 have hs1:sliceInfo PP 37=some (1,16,some (.string (⟨#[]⟩:ByteArray))):=by kernel_rfl
 have hg:=hv.ks.shape.globs
 obtain ⟨e0,b0,b1⟩:=KS.s1 hv.ks
 have h3:=hv.names.wf.m1
 have h4:=hv.names.wf.len
 apply k78_ok
 unfold k78 A0 iV wW pV sV lV cS
 refine root_r hK hv.ks e0 b0 b1 ⟨_,rfl,words_r hK fun aw lw cw Gw H0 how hfw hGw=>⟨_,_,_,rfl,?_⟩⟩
 rw [show kwords s.h v.globA=globW v.glob from hv.ks.view.globs.kwords] at how
 have hgl:=globW_len v.glob
 have hlw:lw=2*v.glob.length:=by have:=how.len;simp only [intsV,List.length_map,hgl] at this;omega
 have hlen:(globsK v t).length=v.glob.length:=by simp [globsK]
 refine ⟨fun w H'=>∃(i:Nat) (a:Option Addr) (l' c:Nat) (G:Foot),w=[.slice a l' c,.int .i64 (2*i:Nat)]∧i≤v.glob.length∧Own 1 H' a l' c (strsV ((globsK v t).take i)) G∧Fr [] H0 H'∧(∀ x∈G,H0.size≤x),fun w _=>match w with
  | [_,.int _ i]=>(2*v.glob.length-i).toNat
  | _=>0,⟨0,none,0,0,[],rfl,Nat.zero_le _,by simpa [strsV] using Own.nil 1 H0,Fr.refl _ _,by simp⟩,?_⟩
 rintro w H1 ⟨i,a1,l1,c1,G,rfl,hi,ho,hf1,hG⟩ _
 have hl1:l1=i:=by have:=ho.len;simp only [strsV,List.length_map,List.length_take] at this;omega
 refine ⟨_,_,_,_,rfl,?_⟩
 have ew:IntKind.wrap .i64 (((2*i:Nat):Int)+1)=((2*i:Nat):Int)+1:=wrap64_id (by omega) (by omega)
 rw [ew,cond_dec]
 refine ite_i (fun hlt=>?_) fun hlt=>?_
 ·have hlt':i<v.glob.length:=by omega
  obtain ⟨p,rfl,hcell,hlt2⟩:=(how.rd.fr' hf1 (by simp)).int (i:=((2*i:Nat):Int)) (by omega) (by omega)
  rw [Int.toNat_natCast] at hcell hlt2
  have hx:(globW v.glob).getD (2*i) 0=symW v.glob[i].1:=by
   rw [List.getD_eq_getElem?_getD,(globW_get hlt').1];rfl
  rw [hx] at hcell
  have hn:=hv.names.glob _ (List.getElem_mem hlt')
  have htk:(globsK v t).take (i+1)=(globsK v t).take i++[tx t v.glob[i].1]:=by
   rw [List.take_add_one,List.getElem?_eq_getElem (by omega)];simp [globsK]
  have e:IntKind.wrap .i64 (((2*i:Nat):Int)+2)=((2*(i+1):Nat):Int):=by rw [wrap64_id (by omega) (by omega)];omega
  refine ⟨⟨by omega,by omega⟩,_,rfl,_,by rw [Int.toNat_natCast,Nat.mul_one];exact hcell,text_r (hK.nil (hfw.trans hf1)) (I64_small (by unfold symW;omega) (by unfold symW;omega)) ⟨_,rfl,?_⟩⟩
  rw [ktextW_sym hv.names.wf hn]
  refine evS_append1 hs1 rfl (by kernel_rfl) ho rfl (by simp [oneC]) (by omega) (by decide) (by decide) fun a' c' G2 H3 g1 g2 g3=>⟨_,_,_,rfl,?_⟩
  have hfr:=Up.fresh hf1 g2 hG
  rw [e]
  refine ⟨⟨i+1,a',l1+1,c',G2,rfl,by omega,?_,hfr.1,hfr.2⟩,by simp;omega⟩
  rw [htk,strsV_append];exact g1
 ·rw [List.take_of_length_le (by omega)] at ho
  exact h _ _ _ _ H1 ho (hfw.trans hf1) fun x hx=>Nat.le_trans hfw.1 (hG x hx)
theorem value_r (hK:RK H b F s t) (hv:KAll s t v){n:Int} (h:∀ H',Fr [] H H'→Q (.tuple #[.int .i64 (valueK v n).1,.int .i64 (valueK v n).2]) H'):callS PP n_k106 #[.pointer (some ⟨b,0,none⟩),.int .i64 n] Q H:=by
 have hg:=hv.ks.shape.globs
 obtain ⟨e0,b0,b1⟩:=KS.s1 hv.ks
 apply k106_ok
 unfold k106 iV wW pV lV cS
 unfold valueK at h
 rw [cond_dec]
 refine ite_i (fun h1=>?_) fun h1=>?_
 ·rw [dif_neg (by omega)] at h;exact h _ (Fr.refl _ _)
 refine globals_r hK hv fun a l c G H1 ho hf hG=>⟨_,_,_,rfl,?_⟩
 have hl:l=v.glob.length:=by have:=ho.len;simpa [strsV,globsK] using this.symm
 rw [cond_dec]
 refine ite_i (fun h2=>?_) fun h2=>?_
 ·rw [dif_neg (by omega)] at h;exact h _ hf
 rw [dif_pos (by omega)] at h
 have e:IntKind.wrap .i64 (IntKind.wrap .i64 (2*n)+1)=((2*n.toNat+1:Nat):Int):=by rw [wrap64_id (n:=2*n) (by omega) (by omega),wrap64_id (by omega) (by omega)];omega
 refine root_r (hK.nil hf) hv.ks e0 b0 b1 ⟨_,rfl,?_⟩
 rw [e]
 refine slot_r (hK.nil hf) ⟨_,rfl,?_⟩
 rw [(hv.ks.globAt (by omega)).2]
 exact h _ hf
theorem setValue_r (hK:RK H b F s t) (hv:KAll s t v){n w:Int} (h:∀ H' F',RK H' b F' (setValueK s v n w).2 t→Up F H F' H'→Q (.int .i64 (setValueK s v n w).1) H'):callS PP n_k105 #[.pointer (some ⟨b,0,none⟩),.int .i64 n,.int .i64 w] Q H:=by
 have hg:=hv.ks.shape.globs
 obtain ⟨e0,b0,b1⟩:=KS.s1 hv.ks
 apply k105_ok
 unfold k105 iV wW pV cS
 unfold setValueK at h
 refine value_r hK hv fun H1 hf1=>⟨_,_,rfl,?_⟩
 unfold valueK
 by_cases hn:0≤n∧n<v.glob.length
 ·rw [dif_pos hn]
  rw [if_neg (by omega)] at h
  simp only [show ((0:Int) != 0)=false from rfl,cond_false]
  have hK1:=hK.nil hf1
  refine refIs_c ⟨_,rfl,?_⟩
  rw [←decide_not,cond_dec]
  refine ite_i (fun hw=>?_) fun hw=>?_
  ·rw [if_pos hw] at h
   exact h _ _ hK1 (Up.of_nil hf1)
  rw [if_neg hw] at h
  obtain ⟨sb,hb,F1,hc,c0,hR,hsub,_,hup⟩:=hK1.hp
  refine ⟨_,rfl,_,hc,_,rfl,_,c0,slot_r hK1 ⟨_,rfl,⟨⟨c0,trivial⟩,⟨hc,trivial⟩,trivial⟩,?_⟩⟩
  rw [e0]
  refine refOop13_c (I64_small (by omega) (by omega)) ⟨_,rfl,⟨⟨c0,trivial⟩,⟨hc,trivial⟩,trivial⟩,?_⟩
  have e:IntKind.wrap .i64 (IntKind.wrap .i64 (2*n)+1)=2*n+1:=by rw [wrap64_id (n:=2*n) (by omega) (by omega),wrap64_id (by omega) (by omega)]
  rw [refOop_obj b0,e]
  refine rput_c hR fun H4 hR4 hf4=>⟨_,rfl,trivial,?_⟩
  obtain ⟨F',hK4,hu⟩:=hup H4 F1 _ hR4 ⟨hf4,fun x hx=>.inl hx⟩
  exact h _ _ hK4 ((Up.of_nil hf1).trans hu)
 ·rw [dif_neg hn]
  rw [if_pos (by omega)] at h
  simp only [show ((1:Int) != 0)=true from rfl,cond_true]
  exact h _ _ (hK.nil hf1) (Up.of_nil hf1)
theorem taken_r (hK:RK H b F s t) (hv:KAll s t v){name:ByteArray} (h:∀ H',Fr [] H H'→Q (.bool (decide (takenK v t name))) H'):callS PP n_k115 #[.pointer (some ⟨b,0,none⟩),.string name] Q H:=by
 have hg:=hv.ks.shape.globs
 apply k115_ok
 unfold k115 iV wW pV sV lV cS
 refine find_r hK hv fun H1 hf1=>⟨_,_,rfl,globals_r (hK.nil hf1) hv fun a l c G H2 ho hf2 hG=>⟨_,_,_,rfl,?_⟩⟩
 have hF2:=hf1.trans hf2
 have hl:l=(globsK v t).length:=by have:=ho.len;simpa [strsV] using this.symm
 have hl2:(globsK v t).length=v.glob.length:=by simp [globsK]
 refine ⟨fun w H'=>H'=H2∧∃ i:Nat,w=[.int .i64 i]∧i≤l∧∀ j (hj:j<(globsK v t).length),j<i→(globsK v t)[j]≠name,fun w _=>match w with
  | [.int _ i]=>(l-i).toNat
  | _=>0,⟨rfl,0,rfl,Nat.zero_le _,fun j _ hj=>by omega⟩,?_⟩
 rintro w H3 ⟨rfl,i,rfl,hi,hall⟩ _
 refine ⟨_,rfl,?_⟩
 rw [cond_dec]
 refine ite_i (fun hlt=>?_) fun hlt=>?_
 ·obtain ⟨p,hlt2,rfl,hcell⟩:=ho.rd.str (i:=(i:Int)) (by omega) hlt
  simp only [Int.toNat_natCast] at hcell hlt2
  have e:IntKind.wrap .i64 ((i:Int)+1)=((i+1:Nat):Int):=by rw [wrap64_id (by omega) (by omega)];omega
  refine ⟨⟨by omega,hlt⟩,_,rfl,_,by rw [Int.toNat_natCast,Nat.mul_one];exact hcell,?_⟩
  rw [strEq_dec,cond_dec]
  refine ite_i (fun he=>?_) fun he=>?_
  ·have:=h _ hF2
   rw [decide_eq_true (show takenK v t name from .inr (he ▸ List.getElem_mem hlt2))] at this
   exact this
  ·rw [e]
   refine ⟨⟨rfl,i+1,rfl,by omega,fun j hj hji=>?_⟩,by simp;omega⟩
   rcases Nat.lt_or_ge j i with h5 | h5
   ·exact hall j hj h5
   ·have:j=i:=by omega
    subst this;exact he
 ·have hno:name∉globsK v t:=fun hm=>by
   obtain ⟨j,hj,he⟩:=List.getElem_of_mem hm
   exact hall j hj (by omega) he
  have:=h _ hF2
  have e:decide (takenK v t name)=((findK v t name).2 == 0):=by
   rw [beqI,decide_eq_decide];unfold takenK
   exact ⟨fun h=>h.resolve_right hno,.inl⟩
  rw [e] at this;exact this
theorem texts_r (hK:RK H b F s t) (hv:KAll s t v){i:Nat} (hi:i<v.cls.length) (h:∀ a l c G H',Own 1 H' a l c (strsV ((v.cls[i]).own.map (tx t))) G→Fr [] H H'→(∀ x∈G,H.size≤x)→Q (.slice a l c) H'):callS PP n_k264 #[.pointer (some ⟨b,0,none⟩),.int .i64 (v.cls[i]).ownA] Q H:=by
 have hs1:sliceInfo PP 37=some (1,16,some (.string (⟨#[]⟩:ByteArray))):=by kernel_rfl
 have h3:=hv.names.wf.m1
 have h4:=hv.names.wf.len
 have hown:=hv.ks.view.own hi
 have hol:(v.cls[i]).own.length≤8192:=by have:=(hown.bnd hv.ks.wf.h).2.2.1;simpa using this
 apply k264_ok
 unfold k264 A0 iV wW pV sV lV cS
 refine words_r hK fun aw lw cw Gw H0 how hfw hGw=>⟨_,_,_,rfl,?_⟩
 rw [hown.kwords] at how
 have hlw:lw=(v.cls[i]).own.length:=by have:=how.len;simpa [intsV] using this.symm
 refine ⟨fun w H'=>∃(k:Nat) (a:Option Addr) (l' c:Nat) (G:Foot),w=[.slice a l' c,.int .i64 k]∧k≤(v.cls[i]).own.length∧Own 1 H' a l' c (strsV (((v.cls[i]).own.map (tx t)).take k)) G∧Fr [] H0 H'∧(∀ x∈G,H0.size≤x),fun w _=>match w with
  | [_,.int _ k]=>((v.cls[i]).own.length-k).toNat
  | _=>0,⟨0,none,0,0,[],rfl,Nat.zero_le _,by simpa [strsV] using Own.nil 1 H0,Fr.refl _ _,by simp⟩,?_⟩
 rintro w H1 ⟨k,a1,l1,c1,G,rfl,hk,ho,hf1,hG⟩ _
 have hl1:l1=k:=by have:=ho.len;simp only [strsV,List.length_map,List.length_take] at this;omega
 refine ⟨_,_,_,_,rfl,?_⟩
 rw [cond_dec]
 refine ite_i (fun hlt=>?_) fun hlt=>?_
 ·have hlt':k<(v.cls[i]).own.length:=by omega
  obtain ⟨p,rfl,hcell,hlt2⟩:=(how.rd.fr' hf1 (by simp)).int (i:=(k:Int)) (by omega) hlt
  rw [Int.toNat_natCast] at hcell hlt2
  have hx:((v.cls[i]).own.map symW).getD k 0=symW (v.cls[i]).own[k]:=by simp [hlt']
  rw [hx] at hcell
  have hn:=hv.names.own _ (List.getElem_mem hi) _ (List.getElem_mem hlt')
  have htk:((v.cls[i]).own.map (tx t)).take (k+1)=((v.cls[i]).own.map (tx t)).take k++[tx t (v.cls[i]).own[k]]:=by
   rw [List.take_add_one,List.getElem?_eq_getElem (by simpa using hlt')];simp
  have e:IntKind.wrap .i64 ((k:Int)+1)=((k+1:Nat):Int):=by rw [wrap64_id (by omega) (by omega)];omega
  refine ⟨⟨by omega,hlt⟩,_,rfl,_,by rw [Int.toNat_natCast,Nat.mul_one];exact hcell,text_r (hK.nil (hfw.trans hf1)) (I64_small (by unfold symW;omega) (by unfold symW;omega)) ⟨_,rfl,?_⟩⟩
  rw [ktextW_sym hv.names.wf hn]
  refine evS_append1 hs1 rfl (by kernel_rfl) ho rfl (by simp [oneC]) (by omega) (by decide) (by decide) fun a' c' G2 H3 g1 g2 g3=>⟨_,_,_,rfl,?_⟩
  have hfr:=Up.fresh hf1 g2 hG
  rw [e]
  refine ⟨⟨k+1,a',l1+1,c',G2,rfl,by omega,?_,hfr.1,hfr.2⟩,by simp;omega⟩
  rw [htk,strsV_append];exact g1
 ·rw [List.take_of_length_le (by simp;omega)] at ho
  exact h _ _ _ _ H1 ho (hfw.trans hf1) fun x hx=>Nat.le_trans hfw.1 (hG x hx)
end
abbrev infoTailR (R0 LC:Addr) (Q:QT) (H6:Heap):Prop :=
 ∃ s36:ByteArray,cellH H6 LC=some (.string s36)∧∃ s37:ByteArray,cellH H6 (LC.add 1)=some (.string s37)∧∃ a38:Option Addr,∃ l38:Nat,∃ c38:Nat,cellH H6 (LC.add 2)=some (.slice a38 l38 c38)∧∃ n39:Int,cellH H6 (LC.add 3)=some (.int .i64 n39) ∧
 Wr H6 R0∧Wr (setH H6 R0 (.string s36)) (R0.add 1)∧Wr (setH (setH H6 R0 (.string s36)) (R0.add 1) (.string s37)) (R0.add 2)∧Wr (setH (setH (setH H6 R0 (.string s36)) (R0.add 1) (.string s37)) (R0.add 2) (.slice a38 l38 c38)) (R0.add 3) ∧
 ∃ s40:ByteArray,cellH (setH (setH (setH (setH H6 R0 (.string s36)) (R0.add 1) (.string s37)) (R0.add 2) (.slice a38 l38 c38)) (R0.add 3) (.int .i64 n39)) R0=some (.string s40) ∧
 ∃ s41:ByteArray,cellH (setH (setH (setH (setH H6 R0 (.string s36)) (R0.add 1) (.string s37)) (R0.add 2) (.slice a38 l38 c38)) (R0.add 3) (.int .i64 n39)) (R0.add 1)=some (.string s41) ∧
 ∃ a42:Option Addr,∃ l42:Nat,∃ c42:Nat,cellH (setH (setH (setH (setH H6 R0 (.string s36)) (R0.add 1) (.string s37)) (R0.add 2) (.slice a38 l38 c38)) (R0.add 3) (.int .i64 n39)) (R0.add 2)=some (.slice a42 l42 c42) ∧
 ∃ n43:Int,cellH (setH (setH (setH (setH H6 R0 (.string s36)) (R0.add 1) (.string s37)) (R0.add 2) (.slice a38 l38 c38)) (R0.add 3) (.int .i64 n39)) (R0.add 3)=some (.int .i64 n43) ∧
 Q (.agg #[.string s40,.string s41,.slice a42 l42 c42,.int .i64 n43]) (setH (setH (setH (setH H6 R0 (.string s36)) (R0.add 1) (.string s37)) (R0.add 2) (.slice a38 l38 c38)) (R0.add 3) (.int .i64 n39))
section
variable {H:Heap}{b:Nat}{F:Foot}{s:SP}{t:TB}{v:KV}{Q:QT}
theorem info_tailR {r0 lc:Nat}{nm sup:ByteArray}{a:Option Addr}{l c:Nat}{ly:Int}{cs:Array Value} (hLC:Blk H lc #[.string nm,.string sup,.slice a l c,.int .i64 ly]) (hR0:Blk H r0 cs) (hsz:cs.size=4)
  (h:∀ H',Fr [r0] H H'→Q (.agg #[.string nm,.string sup,.slice a l c,.int .i64 ly]) H'):infoTailR ⟨r0,0,none⟩ ⟨lc,0,none⟩ Q H:=by
 obtain ⟨x0,x1,x2,x3,rfl⟩:∃ x0 x1 x2 x3,cs=#[x0,x1,x2,x3]:=by
  obtain ⟨l⟩:=cs
  match l,hsz with
  | [x0,x1,x2,x3],_=>exact ⟨_,_,_,_,rfl⟩
 obtain ⟨w0,w1,w2,w3,hB,hf⟩:=st4 hR0 (o:=0) (by omega) (.string nm) (.string sup) (.slice a l c) (.int .i64 ly)
 exact ⟨_,hLC.cell 0,_,hLC.cell 1,_,_,_,hLC.cell 2,_,hLC.cell 3,w0,w1,w2,w3,_,hB.cell 0,_,hB.cell 1,_,_,_,hB.cell 2,_,hB.cell 3,h _ hf⟩
theorem rnum_c {n:Int} (h0:-1000000000000≤n) (h1:n≤1000000000000) (h:Q (.int .i64 n) H):callS PP n_k265 #[.int .i64 (2*n+1)] Q H:=by
 apply k265_ok
 unfold k265 iV wW
 have e1:IntKind.wrap .i64 (2*n+1-1)=2*n:=by rw [wrap64_id (by omega) (by omega)];omega
 have e2:Int.tdiv (2*n) 2=n:=by rw [Int.mul_comm];exact Int.mul_tdiv_cancel _ (by decide)
 have e3:IntKind.wrap .i64 n=n:=wrap64_id (by omega) (by omega)
 rw [e1,e2,e3]
 exact h
theorem info0_r (hK:RK H b F s t) (hv:KAll s t v){i:Nat} (hi:i<v.cls.length) (h:∀ a l c G H',Own 1 H' a l c (strsV (infoK v t i).own) G→Fr [] H H'→(∀ x∈G,H.size≤x)→Q (.agg #[.string (infoK v t i).name,.string (infoK v t i).sup,.slice a l c,.int .i64 (infoK v t i).lay]) H') :
  callS PP n_k221 #[.pointer (some ⟨b,0,none⟩),.int .i64 (v.cls[i]).oop] Q H:=by
 apply k221_ok
 unfold k221 A0 iV pV sV lV cS;dsimp only [shH]
 have hob:=(hv.ks.view.own hi).bnd hv.ks.wf.h
 have hlay:=hv.ks.shape.lay _ (List.getElem_mem hi)
 have hf0:Fr [] H (H.push (.cells #[.string (⟨#[]⟩:ByteArray),.string (⟨#[]⟩:ByteArray),.slice none 0 0,.int .i64 0] 121)):=Fr.push _ _ _
 have hR0:=Blk.new H #[.string (⟨#[]⟩:ByteArray),.string (⟨#[]⟩:ByteArray),.slice none 0 0,.int .i64 0] 121
 have hK0:=hK.nil hf0
 generalize (H.push (.cells #[.string (⟨#[]⟩:ByteArray),.string (⟨#[]⟩:ByteArray),.slice none 0 0,.int .i64 0] 121))=H0 at hf0 hR0 hK0 ⊢
 have hI:infoK v t i=⟨tx t (v.cls[i]).name,(infoK v t i).sup,(v.cls[i]).own.map (tx t),(v.cls[i]).lay⟩:=by
  unfold infoK;rw [List.getElem?_eq_getElem hi]
 have en:(infoK v t i).name=tx t (v.cls[i]).name:=by rw [hI]
 have eo:(infoK v t i).own=(v.cls[i]).own.map (tx t):=by rw [hI]
 have el:(infoK v t i).lay=(v.cls[i]).lay:=by rw [hI]
 rw [en,eo,el] at h
 refine name_r hK0 hv hi ⟨_,rfl,slot_r hK0 ⟨_,rfl,?_⟩⟩
 rw [hv.ks.c2 hi]
 refine refOop13_c (I64_small (by omega) (by omega)) ⟨_,rfl,?_⟩
 rw [refOop_obj hob.1]
 refine texts_r hK0 hv hi fun a l c G H1 ho hf1 hG=>⟨_,_,_,rfl,slot_r (hK0.nil hf1) ⟨_,rfl,?_⟩⟩
 rw [hv.ks.c5 hi]
 refine rnum_c (by omega) (by omega) ⟨_,rfl,?_⟩
 have hf2:Fr [] H1 (H1.push (.cells #[.string (⟨#[]⟩:ByteArray),.string (⟨#[]⟩:ByteArray),.slice none 0 0,.int .i64 0] 121)):=Fr.push _ _ _
 have hL:=Blk.new H1 #[.string (⟨#[]⟩:ByteArray),.string (⟨#[]⟩:ByteArray),.slice none 0 0,.int .i64 0] 121
 have hl0:H.size<H1.size:=Nat.lt_of_lt_of_le hR0.lt hf1.1
 generalize hH2:(H1.push (.cells #[.string (⟨#[]⟩:ByteArray),.string (⟨#[]⟩:ByteArray),.slice none 0 0,.int .i64 0] 121))=H2 at hf2 hL ⊢
 obtain ⟨w0,w1,w2,w3,hB,hf3⟩:=st4 hL (o:=0) (by simp) (.string (tx t (v.cls[i]).name)) (.string ⟨#[]⟩) (.slice a l c) (.int .i64 (v.cls[i]).lay)
 refine ⟨w0,w1,w2,w3,?_⟩
 have hF2:=(hf0.trans hf1).trans hf2
 have hF3:=(Up.fresh hF2 (F:=[H1.size]) (F':=[H1.size]) ⟨hf3,fun _ h=>.inl h⟩ (by simp;omega)).1
 have hG':∀ x∈G,H.size<x∧x<H1.size:=fun x hx=>⟨Nat.lt_of_lt_of_le hR0.lt (hG x hx),ho.lt x hx⟩
 have hR3:=((hR0.fr hf1 (by simp)).fr hf2 (by simp)).fr hf3 (by simp;omega)
 have hB':Blk _ H1.size #[.string (tx t (v.cls[i]).name),.string ⟨#[]⟩,.slice a l c,.int .i64 (v.cls[i]).lay]:=hB
 have ho3:Own 1 (setH (setH (setH (setH H2 ⟨H1.size,0,none⟩ (.string (tx t (v.cls[i]).name))) ⟨H1.size,0+1,none⟩ (.string ⟨#[]⟩)) ⟨H1.size,0+2,none⟩ (.slice a l c)) ⟨H1.size,0+3,none⟩ (.int .i64 (v.cls[i]).lay)) a l c (strsV ((v.cls[i]).own.map (tx t))) G :=
  (ho.fr hf2 (by simp)).fr hf3 fun x hx hm=>by simp only [List.mem_singleton] at hm;have:=(hG' x hx).2;omega
 have fin:∀ H' (_:Fr [H1.size,H.size] (setH (setH (setH (setH H2 ⟨H1.size,0,none⟩ (.string (tx t (v.cls[i]).name))) ⟨H1.size,0+1,none⟩ (.string ⟨#[]⟩)) ⟨H1.size,0+2,none⟩ (.slice a l c)) ⟨H1.size,0+3,none⟩ (.int .i64 (v.cls[i]).lay)) H'),Q (.agg #[.string (tx t (v.cls[i]).name),.string (infoK v t i).sup,.slice a l c,.int .i64 (v.cls[i]).lay]) H':=by
  intro H' hf'
  refine h a l c G H' (ho3.fr hf' fun x hx hm=>?_) ?_ fun x hx=>Nat.le_of_lt (hG' x hx).1
  ·have:=hG' x hx
   simp only [List.mem_cons,List.not_mem_nil,or_false] at hm
   omega
  ·exact (Up.fresh hF3 (F:=[H1.size,H.size]) (F':=[H1.size,H.size]) ⟨hf',fun _ h=>.inl h⟩ (by simp;omega)).1
 have hK3:=hK.nil hF3
 show callS PP n_k224 _ _ (setH (setH (setH (setH H2 ⟨H1.size,0,none⟩ (.string (tx t (v.cls[i]).name))) ⟨H1.size,0+1,none⟩ (.string ⟨#[]⟩)) ⟨H1.size,0+2,none⟩ (.slice a l c)) ⟨H1.size,0+3,none⟩ (.int .i64 (v.cls[i]).lay))
 generalize (setH (setH (setH (setH H2 ⟨H1.size,0,none⟩ (.string (tx t (v.cls[i]).name))) ⟨H1.size,0+1,none⟩ (.string ⟨#[]⟩)) ⟨H1.size,0+2,none⟩ (.slice a l c)) ⟨H1.size,0+3,none⟩ (.int .i64 (v.cls[i]).lay))=H3 at *
 refine up_r hK3 hv.ks hi ⟨_,rfl,?_⟩
 have hsup:(infoK v t i).sup=match upIdx v i with
  | some j=>match v.cls[j]? with
   | some d=>tx t d.name
   | none=>⟨#[]⟩
  | none=>⟨#[]⟩:=by unfold infoK;rw [List.getElem?_eq_getElem hi] <;> rfl
 rw [bneI,cond_dec]
 rcases hv.ks.upI hi with ⟨_,e0,e1⟩ | ⟨j,hj,hlt,e0,_,e1⟩
 ·rw [e1] at hsup
  simp only at hsup
  rw [e0,if_neg (by decide)]
  rw [hsup] at fin
  exact info_tailR hB' hR3 (by simp) fun H' hf'=>fin H' (hf'.mono (by simp))
 ·rw [e1] at hsup
  simp only [List.getElem?_eq_getElem hj] at hsup
  have hb:=(up_arr hv.ks hj).1
  rw [e0,if_pos (by omega)]
  refine name_r hK3 hv hj ⟨_,rfl,hB'.wr (o:=1) (by simp),?_⟩
  rw [←hsup]
  have hfl:Fr [H1.size] H3 (setH H3 ⟨H1.size,1,none⟩ (.string (infoK v t i).sup)):=Fr.set (by simp)
  exact info_tailR (hB'.set 1 (.string (infoK v t i).sup)) (hR3.fr hfl (by simp;omega)) (by simp) fun H' hf'=>fin H' ((hfl.mono (by simp)).trans (hf'.mono (by simp)))
end
def letterN (n:Nat):Prop:=(97≤n∧n≤122)∨(65≤n∧n≤90)
instance (n:Nat):Decidable (letterN n):=inferInstanceAs (Decidable (_∨_))
def plainN (s:ByteArray):Prop:=1≤s.size∧s.size≤32∧letterN (gB s 0)∧∀ i,i<s.size→alnum (gB s i)
noncomputable instance (s:ByteArray):Decidable (plainN s):=Classical.propDecidable _
section
variable {H:Heap}{Q:QT}
theorem letter_r {n:Nat} (h:Q (.bool (decide (letterN n))) H):callS PP n_k263 #[.int .u8 n] Q H:=by
 apply k263_ok
 unfold k263
 have fin:∀ x:Bool,x=decide (letterN n)→Q (.bool x) H:=fun x hx=>hx ▸ h
 simp only [cond_dec]
 refine ite_i (fun h1=>ite_i (fun h2=>fin _ ?_) fun h2=>ite_i (fun h3=>fin _ ?_) fun h3=>fin _ ?_) fun h1=>ite_i (fun h3=>fin _ ?_) fun h3=>fin _ ?_
 all_goals
  rw [Bool.eq_iff_iff]
  simp only [decide_eq_true_iff,true_iff,false_iff,Bool.false_eq_true]
  unfold letterN
  omega
theorem plain_r {x:ByteArray} (h:Q (.bool (decide (plainN x))) H):callS PP n_k213 #[.string x] Q H:=by
 apply k213_ok
 unfold k213 iV wW cS
 have no:¬ plainN x→Q (.bool false) H:=fun hn=>by rw [decide_eq_false hn] at h;exact h
 rw [cond_dec]
 refine ite_i (fun h1=>no fun hn=>by have:=hn.1;omega) fun h1=>?_
 rw [cond_dec]
 refine ite_i (fun h2=>no fun hn=>by have:=hn.2.1;omega) fun h2=>?_
 have hpos:0<x.size:=by omega
 obtain ⟨g1,g2⟩:=gB_get hpos
 refine ⟨_,⟨Int.le_refl 0,g1⟩,?_⟩
 rw [g2]
 refine letter_r ⟨_,rfl,?_⟩
 rw [←decide_not,cond_dec]
 refine ite_i (fun h3=>no fun hn=>h3 hn.2.2.1) fun h3=>?_
 refine ⟨fun w H'=>H'=H∧∃ i:Nat,w=[.int .i64 i]∧i≤x.size∧∀ j,j<i→alnum (gB x j),fun w _=>match w with
  | [.int _ i]=>(x.size-i).toNat
  | _=>0,⟨rfl,0,rfl,Nat.zero_le _,fun j hj=>by omega⟩,?_⟩
 rintro w H1 ⟨rfl,i,rfl,hi,hall⟩ _
 refine ⟨_,rfl,?_⟩
 rw [cond_dec]
 refine ite_i (fun hlt=>?_) fun hlt=>?_
 ·have hlt':i<x.size:=by omega
  have e:IntKind.wrap .i64 ((i:Int)+1)=((i+1:Nat):Int):=by rw [wrap64_id (by omega) (by omega)];omega
  obtain ⟨k1,k2⟩:=gB_get hlt'
  have go:alnum (gB x i)→(True∧∃ i_1:Nat,[Value.int .i64 (IntKind.wrap .i64 ((i:Int)+1))]=[.int .i64 i_1]∧i_1≤x.size∧∀ j,j<i_1→alnum (gB x j))∧((x.size:Int)-(IntKind.wrap .i64 ((i:Int)+1))).toNat<((x.size:Int)-(i:Int)).toNat:=fun ha=>by
   rw [e]
   refine ⟨⟨trivial,i+1,rfl,by omega,fun j hj=>?_⟩,by omega⟩
   rcases Nat.lt_or_ge j i with h5 | h5
   ·exact hall j h5
   ·have:j=i:=by omega
    rw [this];exact ha
  have bad:¬ alnum (gB x i)→Q (.bool false) H1:=fun ha=>no fun hn=>ha (hn.2.2.2 i hlt')
  have k1':x[Int.toNat (i:Int)]?=some x[i]:=by rw [Int.toNat_natCast];exact k1
  refine ⟨_,⟨by omega,k1'⟩,?_⟩
  rw [k2]
  refine letter_r ⟨_,rfl,?_⟩
  rw [←decide_not,cond_dec]
  have hgo:letterN (gB x i)→alnum (gB x i):=fun h=>by unfold letterN at h;unfold alnum;omega
  refine ite_i (fun h4=>?_) fun h4=>?_
  ·refine ⟨_,⟨by omega,k1'⟩,?_⟩
   rw [k2,cond_dec]
   refine ite_i (fun h5=>bad (by unfold letterN at h4;unfold alnum;omega)) fun h5=>⟨_,⟨by omega,k1'⟩,?_⟩
   rw [k2,cond_dec]
   refine ite_i (fun h6=>bad (by unfold letterN at h4;unfold alnum;omega)) fun h6=>?_
   have:=go (by unfold alnum;omega)
   simpa using this
  ·have:=go (hgo (Classical.byContradiction h4))
   simpa using this
 ·have:i=x.size:=by omega
  subst this
  have hok:plainN x:=⟨hpos,by omega,Classical.byContradiction h3,hall⟩
  rw [decide_eq_true hok] at h
  exact h
theorem className_r {x:ByteArray} (h:Q (.bool (decide (nameOk 65 90 x))) H):callS PP n_k114 #[.string x] Q H:=by
 apply k114_ok
 unfold k114 sV
 refine plain_r ⟨_,rfl,?_⟩
 rw [cond_dec]
 have fin:∀ y:Bool,y=decide (nameOk 65 90 x)→Q (.bool y) H:=fun y hy=>hy ▸ h
 refine ite_i (fun hp=>?_) fun hp=>?_
 ·obtain ⟨g1,g2⟩:=gB_get (show 0<x.size from hp.1)
  refine ⟨_,⟨Int.le_refl 0,g1⟩,?_⟩
  rw [g2]
  refine fin _ ?_
  rw [decide_eq_decide]
  have hl:=hp.2.2.1
  unfold letterN at hl
  constructor
  ·exact fun h5=>⟨hp.1,hp.2.1,by omega,by omega,hp.2.2.2⟩
  ·rintro ⟨_,_,h6,h7,_⟩;omega
 ·refine fin _ ?_
  have hno:¬ nameOk 65 90 x:=fun hn=>hp ⟨hn.1,hn.2.1,.inr ⟨hn.2.2.1,hn.2.2.2.1⟩,hn.2.2.2.2⟩
  rw [decide_eq_false hno]
theorem fieldName_r {x:ByteArray} (h:Q (.bool (decide (fieldOk x))) H):callS PP n_k260 #[.string x] Q H:=by
 apply k260_ok
 unfold k260 sV
 refine plain_r ⟨_,rfl,?_⟩
 rw [cond_dec]
 have no:¬ fieldOk x→Q (.bool false) H:=fun hn=>by rw [decide_eq_false hn] at h;exact h
 refine ite_i (fun hp=>?_) fun hp=>no fun hn=>hp ⟨hn.2.1,hn.2.2.1,.inl ⟨hn.2.2.2.1,hn.2.2.2.2.1⟩,hn.2.2.2.2.2⟩
 obtain ⟨g1,g2⟩:=gB_get (show 0<x.size from hp.1)
 refine ⟨_,⟨Int.le_refl 0,g1⟩,?_⟩
 rw [g2]
 simp only [strEq_dec,←decide_not,cond_dec]
 refine ite_i (fun h0=>?_) fun h0=>no fun hn=>by have:=hn.2.2.2.1;omega
 refine ite_i (fun h1=>?_) fun h1=>no fun hn=>h1 fun e=>hn.1 (.inl e)
 refine ite_i (fun h2=>?_) fun h2=>no fun hn=>h2 fun e=>hn.1 (.inr (.inl e))
 refine ite_i (fun h3=>?_) fun h3=>no fun hn=>h3 fun e=>hn.1 (.inr (.inr (.inl e)))
 refine ite_i (fun h4=>?_) fun h4=>no fun hn=>h4 fun e=>hn.1 (.inr (.inr (.inr (.inl e))))
 have hl:=hp.2.2.1
 unfold letterN at hl
 have e:decide (fieldOk x)=decide (¬ x=(⟨#[102,97,108,115,101]⟩:ByteArray)):=by
  rw [decide_eq_decide]
  constructor
  ·exact fun hn e=>hn.1 (.inr (.inr (.inr (.inr e))))
  ·refine fun h5=>⟨fun hr=>?_,hp.1,hp.2.1,by omega,by omega,hp.2.2.2⟩
   rcases hr with e | e | e | e | e <;> contradiction
 rw [e] at h;exact h
end
def InfoR:RepT CI:=fun H ys x F=>∃ a l c,ys=[.string x.name,.string x.sup,.slice a l c,.int .i64 x.lay]∧Own 1 H a l c (strsV x.own) F
theorem InfoR.fr:FrR InfoR:=fun H H' ys x F ⟨a,l,c,e,h⟩ he=>⟨a,l,c,e,h.keep he⟩
theorem InfoR.lt:LtR InfoR:=fun H ys x F ⟨a,l,c,e,h⟩=>h.lt
def infosK (v:KV) (t:TB):List CI:=(List.range v.cls.length).map (infoK v t)
section
variable {H:Heap}{b:Nat}{F:Foot}{s:SP}{t:TB}{v:KV}{Q:QT}
theorem infos_r (hK:RK H b F s t) (hv:KAll s t v) (h:∀ a l c G H',LRep 4 InfoR H' a l c (infosK v t) G→Fr [] H H'→(∀ x∈G,H.size≤x)→Q (.slice a l c) H'):callS PP n_k223 #[.pointer (some ⟨b,0,none⟩)] Q H:=by
 have hs1:sliceInfo PP 40=some (4,64,some (.agg #[.string (⟨#[]⟩:ByteArray),.string (⟨#[]⟩:ByteArray),.slice none 0 0,.int .i64 0])):=by kernel_rfl
 have hm1:=hv.ks.shape.many1
 apply k223_ok
 unfold k223 A0 iV wW pV sV lV cS
 refine all_r hK hv.ks fun al ll cl Gl H0 hol hfl hGl=>⟨_,_,_,rfl,?_⟩
 have hll:ll=v.cls.length:=by have:=hol.len;simpa [intsV,oopsK] using this.symm
 have hlen:(infosK v t).length=v.cls.length:=by simp [infosK]
 refine ⟨fun w H'=>∃(i:Nat) (a:Option Addr) (l' c:Nat) (G:Foot),w=[.slice a l' c,.int .i64 i]∧i≤v.cls.length∧LRep 4 InfoR H' a l' c ((infosK v t).take i) G∧Fr [] H0 H'∧(∀ x∈G,H0.size≤x),fun w _=>match w with
  | [_,.int _ i]=>(v.cls.length-i).toNat
  | _=>0,⟨0,none,0,0,[],rfl,Nat.zero_le _,by simpa using LRep.nil,Fr.refl _ _,by simp⟩,?_⟩
 rintro w H1 ⟨i,a1,l1,c1,G,rfl,hi,ho,hf1,hG⟩ _
 have hl1:l1=i:=by have:=ho.len;simp only [List.length_take] at this;omega
 refine ⟨_,_,_,_,rfl,?_⟩
 rw [cond_dec]
 refine ite_i (fun hlt=>?_) fun hlt=>?_
 ·have hlt':i<v.cls.length:=by omega
  obtain ⟨p,rfl,hcell⟩:=rd_oops hol hf1 hlt'
  have htk:(infosK v t).take (i+1)=(infosK v t).take i++[infoK v t i]:=by
   rw [List.take_add_one,List.getElem?_eq_getElem (by omega)];simp [infosK]
  have e:IntKind.wrap .i64 ((i:Int)+1)=((i+1:Nat):Int):=by rw [wrap64_id (by omega) (by omega)];omega
  refine ⟨⟨by omega,hlt⟩,_,rfl,_,by rw [Int.toNat_natCast];exact hcell,info0_r (hK.nil (hfl.trans hf1)) hv hlt' fun a l c G2 H2 ho2 hf2 hG2=>⟨_,_,_,_,_,_,rfl,?_⟩⟩
  have hlt1:=ho.lt InfoR.lt
  refine LRep.snoc (x:=infoK v t i) (G:=G2) InfoR.fr InfoR.lt hs1 rfl (by kernel_rfl) (ho.fr InfoR.fr InfoR.lt hf2 (Disj.nil_right _)) ⟨a,l,c,rfl,ho2⟩ rfl (fun x hx hx2=>?_) (by simp [oneC]) (by omega) (by decide) (by decide) fun a' c' F' H3 g1 g2 g3=>⟨_,_,_,rfl,?_⟩
  ·have:=hlt1 x hx
   have:=hG2 x hx2
   omega
  ·rw [e]
   have hf3:Fr [] H0 H3:=(Up.fresh (hf1.trans hf2) (F:=G) (F':=G) ⟨g2,fun _ h=>.inl h⟩ hG).1
   refine ⟨⟨i+1,a',l1+1,c',F',rfl,by omega,by rw [htk];exact g1,hf3,fun x hx=>?_⟩,by simp;omega⟩
   rcases g3 x hx with h5 | h5 | h5
   ·exact hG x h5
   ·exact Nat.le_trans hf1.1 (hG2 x h5)
   ·exact Nat.le_trans (hf1.trans hf2).1 h5
 ·rw [List.take_of_length_le (by omega)] at ho
  exact h _ _ _ _ H1 ho (hfl.trans hf1) fun x hx=>Nat.le_trans hfl.1 (hG x hx)
theorem info_get {a:Option Addr}{l c:Nat}{G:Foot} (hL:LRep 4 InfoR H a l c (infosK v t) G){i:Nat} (hi:i<v.cls.length):∃ p a2 l2 c2 G2,a=some p∧p.spot=none∧cellH H (p.add (i*4))=some (.string (infoK v t i).name)∧cellH H ((p.add (i*4)).add 1)=some (.string (infoK v t i).sup) ∧
  cellH H ((p.add (i*4)).add 2)=some (.slice a2 l2 c2)∧Own 1 H a2 l2 c2 (strsV (infoK v t i).own) G2∧∀ x∈G2,x∈G:=by
 obtain ⟨p,ys,G2,hp,hsp,hoff,hcell,hyl,⟨a2,l2,c2,e,ho⟩,hsub⟩:=hL.get (i:=i) (by simpa [infosK] using hi)
 have ei:(infosK v t)[i]'(by simpa [infosK] using hi)=infoK v t i:=by simp [infosK]
 rw [ei] at e ho
 subst e
 obtain ⟨pb,po,ps⟩:=p
 simp only at hsp hoff
 subst hsp hoff
 have h0:=hcell 0 (by decide)
 have h1:=hcell 1 (by decide)
 have h2:=hcell 2 (by decide)
 refine ⟨_,a2,l2,c2,G2,hp,rfl,?_,?_,?_,ho,hsub⟩
 ·rw [add_none,Nat.zero_add];exact h0
 ·rw [add_none,add_none,Nat.zero_add];exact h1
 ·rw [add_none,add_none,Nat.zero_add];exact h2
theorem at_r {a:Option Addr}{l c:Nat}{G:Foot} (hL:LRep 4 InfoR H a l c (infosK v t) G){n:Nat} (hn:n≤v.cls.length) (hm:v.cls.length≤256){x:ByteArray}
  (h1:∀ j,j<n→(infoK v t j).name=x→(∀ k,k<j→(infoK v t k).name≠x)→Q (.int .i64 j) H) (h2:(∀ k,k<n→(infoK v t k).name≠x)→Q (.int .i64 (-1)) H) :
  callS PP n_k266 #[.slice a l c,.int .i64 n,.string x] Q H:=by
 have hl:l=v.cls.length:=by have:=hL.len;simpa [infosK] using this
 apply k266_ok
 unfold k266 iV wW sV
 refine ⟨fun w H'=>H'=H∧∃ i:Nat,w=[.int .i64 i]∧i≤n∧∀ k,k<i→(infoK v t k).name≠x,fun w _=>match w with
  | [.int _ i]=>(n-i).toNat
  | _=>0,⟨rfl,0,rfl,Nat.zero_le _,fun k hk=>by omega⟩,?_⟩
 rintro w H1 ⟨rfl,i,rfl,hi,hno⟩ _
 refine ⟨_,rfl,?_⟩
 rw [cond_dec]
 refine ite_i (fun hlt=>?_) fun hlt=>?_
 ·obtain ⟨p,a2,l2,c2,G2,rfl,_,c0,_⟩:=info_get hL (i:=i) (by omega)
  have e:IntKind.wrap .i64 ((i:Int)+1)=((i+1:Nat):Int):=by rw [wrap64_id (by omega) (by omega)];omega
  refine ⟨⟨by omega,by omega⟩,_,rfl,_,by rw [Int.toNat_natCast];exact c0,?_⟩
  rw [strEq_dec,cond_dec]
  refine ite_i (fun he=>h1 i (by omega) he hno) fun he=>?_
  rw [e]
  refine ⟨⟨rfl,i+1,rfl,by omega,fun k hk=>?_⟩,by simp;omega⟩
  rcases Nat.lt_or_ge k i with h5 | h5
  ·exact hno k h5
  ·have:k=i:=by omega
   subst this;exact he
 ·have:i=n:=by omega
  subst this
  exact h2 hno
end
def HB (H:Heap) (b sb hb:Nat):Prop:=cellH H ⟨b,0,none⟩=some (.pointer (some ⟨sb,0,none⟩))∧cellH H ⟨sb,0,none⟩=some (.pointer (some ⟨hb,0,none⟩))
theorem cell_lt {H:Heap}{b o:Nat}{v:Value} (h:cellH H ⟨b,o,none⟩=some v):b<H.size:=by
 unfold cellH at h
 rcases Nat.lt_or_ge b H.size with h1 | h1
 ·exact h1
 ·simp only [Array.getElem?_eq_none h1] at h;cases h
theorem HB.nil {H H':Heap}{b sb hb:Nat} (h:HB H b sb hb) (hf:Fr [] H H'):HB H' b sb hb:=by
 obtain ⟨h1,h2⟩:=h
 exact ⟨by rw [cell_fr hf (by simp) (cell_lt h1)];exact h1,by rw [cell_fr hf (by simp) (cell_lt h2)];exact h2⟩
section
variable {H:Heap}{b sb hb:Nat}{F:Foot}{s:SP}{t:TB}{Q:QT}
theorem PK.hp (hK:PK H b F s t) (hB:HB H b sb hb):∃ F1,HRep H hb F1 s.h∧(∀ x∈F1,x∈F)∧∀ H' r',HRep H' hb F1 r'→Fr F1 H H'→PK H' b F { s with h:=r' } t∧HB H' b sb hb:=by
 obtain ⟨sb',F1,hc,hS,hsub,hbF,_,hup⟩:=hK.sp
 obtain ⟨hc1,hc2⟩:=hB
 rw [hc] at hc1
 have e:sb'=sb:=by simpa using hc1
 subst e
 obtain ⟨hb',F2,hR,c0,_,_,hsub2,hnb,hup2⟩:=hS.upd
 rw [c0] at hc2
 have e:hb'=hb:=by simpa using hc2
 subst e
 have hbl:=hK.lt b hK.bmem
 have hsl:=hS.lt _ hS.bmem
 refine ⟨F2,hR,fun x hx=>hsub x (hsub2 x hx),fun H' r' hR' hf=>⟨hup H' _ (hup2 H' r' hR' hf) (hf.mono hsub2),?_,?_⟩⟩
 ·rw [cell_fr hf (fun hm=>hbF (hsub2 b hm)) hbl];exact hc
 ·rw [cell_fr hf hnb hsl];exact c0
theorem PK.tbB (hK:PK H b F s t) (hB:HB H b sb hb):∃ tb F2,cellH H ⟨b,1,none⟩=some (.pointer (some ⟨tb,0,none⟩))∧PTb H tb F2 t∧∀ H' F2' t',PTb H' tb F2' t'→Up F2 H F2' H'→(∃ F',PK H' b F' s t'∧Up F H F' H')∧HB H' b sb hb:=by
 obtain ⟨sb0,tb,F1,F2,rfl,h1,h2,h3,k1,k2,hBl,hS,hT⟩:=hK
 have hK:PK H b (b :: (F1++F2)) s t:=⟨sb0,tb,F1,F2,rfl,h1,h2,h3,k1,k2,hBl,hS,hT⟩
 obtain ⟨tb',F2',hc',hT',hsub',hbF',hup',_⟩:=hK.tb
 obtain ⟨hc1,hc2⟩:=hB
 have e0:cellH H ⟨b,0,none⟩=some (.pointer (some ⟨sb0,0,none⟩)):=hBl.cell 0
 rw [e0] at hc1
 have e:sb0=sb:=by simpa using hc1
 subst e
 have hbl:=hK.lt b hK.bmem
 have hsl:=hS.lt _ hS.bmem
 refine ⟨tb,F2,hBl.cell 1,hT,fun H' F2' t' hT2 hu=>⟨?_,?_,?_⟩⟩
 ·have hlt:=hK.lt
  have hgl:=hK.kinds.lt
  have hgS:=hS.gk
  refine ⟨b :: (F1++F2'),⟨_,tb,F1,F2',rfl,h1,Up.out hu h2 hbl,fun x hx hx2=>?_,k1,Up.out hu k2 hgl,hBl.fr hu.1 h2,hS.fr hu.1 h3 k2,hT2⟩,hu.1.mono fun x hx=>by simp [hx],fun x hx=>?_⟩
  ·rcases hu.2 x hx2 with h4 | h4
   ·exact h3 x hx h4
   ·have:=hlt x (by simp [hx]);omega
  ·rcases List.mem_cons.1 hx with rfl | hx
   ·exact .inl (by simp)
   ·rcases List.mem_append.1 hx with hx | hx
    ·exact .inl (by simp [hx])
    ·exact (hu.2 x hx).imp (fun h4=>by simp [h4]) id
 ·rw [cell_fr hu.1 h2 hbl];exact e0
 ·rw [cell_fr hu.1 (h3 _ hS.bmem) hsl];exact hc2
theorem put_all {r:RH} (h:∀ k x,objAt r.objs k=some x→x.fmt=0) (k i w:Int):∀ j x,objAt (r.put k i w).2.objs j=some x→x.fmt=0:=fun j x hx=>by
 obtain ⟨y,h1,h2⟩:=put_fmt k i w j hx
 rw [h2];exact h j y h1
theorem lay_all (o:Int) (l:List Int):∀ (i:Int){r:RH},(∀ k x,objAt r.objs k=some x→x.fmt=0)→∀ j x,objAt (r.lay o i l).objs j=some x→x.fmt=0:=by
 induction l with
 | nil=>intro i r h;exact h
 | cons w l ih=>intro i r h;exact ih (i+1) (put_all h o i w)
theorem fillN_all {r:RH} (h:∀ k x,objAt r.objs k=some x→x.fmt=0) (n:Nat):∀ j x,objAt (fillN r n).objs j=some x→x.fmt=0:=by
 induction n with
 | zero=>exact h
 | succ n ih=>exact put_all (lay_all _ _ _ ih) _ _ _
theorem fill_k (hK:PK H b F s ⟨4096,[]⟩) (hB:HB H b sb hb) (hfmt:∀ k x,objAt s.h.objs k=some x→x.fmt=0)
  (h:∀ H' F',PK H' b F' { s with h:=bootH s.h } bootT→HB H' b sb hb→Up F H F' H'→Q (.tuple #[]) H'):callS PP n_k52 #[.pointer (some ⟨b,0,none⟩)] Q H:=by
 have h14:kNames.length=14:=rfl
 apply k52_ok
 unfold k52 A0 iV wW pV sV lV cS
 obtain ⟨sb0,F1,hc,hS,_⟩:=hK.sp
 have e0:sb0=sb:=by
  have:=hB.1
  rw [hc] at this;simpa using this
 subst e0
 refine ⟨_,rfl,_,hc,?_⟩
 have hps:∀ {Q':Value→Heap→Prop},Q' (.pointer (some ⟨hb,0,none⟩)) H→callS PP n_k20 #[.pointer (some ⟨sb0,0,none⟩)] Q' H:=by
  intro Q' hq
  obtain ⟨hb',F1',hR,c0,_⟩:=hS.upd
  obtain ⟨hc1,hc2⟩:=hB
  rw [c0] at hc2
  have e:hb'=hb:=by simpa using hc2
  subst e
  apply k20_ok
  unfold k20 pV
  refine sgone_c hS ⟨_,rfl,?_⟩
  simp only [cond_false]
  exact ⟨_,rfl,_,c0,hq⟩
 refine hps ⟨_,rfl,?_⟩
 apply k48_ok
 unfold k48 A0 sV lV
 refine ⟨_,_,_,rfl,?_⟩
 have fp:=(Fr.push [] H (.cells (strsV kNames).toArray 9))
 have hN:Rd 1 (H.push (.cells (strsV kNames).toArray 9)) (some ⟨H.size,0,none⟩) 14 (strsV kNames):=by
  refine ⟨rfl,(fun h=>by cases h),fun p hp k hk=>?_⟩
  cases hp
  rw [add_none,Nat.zero_add,(Blk.new H _ _).cell]
  simp
 have hNo:Out (H.push (.cells (strsV kNames).toArray 9)) (some ⟨H.size,0,none⟩) F:=fun p hp=>by
  cases hp
  exact ⟨by simp,fun hm=>absurd (hK.lt _ hm) (Nat.lt_irrefl _)⟩
 have hK1:=hK.nil fp
 have hB1:HB (H.push (.cells (strsV kNames).toArray 9)) b sb0 hb:=HB.nil hB fp
 show ∃(I8:List Value→Heap→Prop) (μ8:List Value→Heap→Nat),I8 [.int .i64 0] (H.push (.cells (strsV kNames).toArray 9))∧_
 generalize (H.push (.cells (strsV kNames).toArray 9))=H0 at fp hN hNo hK1 hB1 ⊢
 refine ⟨fun w H'=>∃(i:Nat) (F':Foot),w=[.int .i64 i]∧i≤14∧PK H' b F' { s with h:=fillN s.h i } ⟨4096,kNames.take i⟩∧HB H' b sb0 hb∧Up F H0 F' H',fun w _=>match w with
  | [.int _ i]=>(14-i).toNat
  | _=>0,⟨0,F,rfl,by decide,hK1,hB1,Up.refl _ _⟩,?_⟩
 rintro w H3 ⟨i,F3,rfl,hi,hK3,hB3,hu3⟩ _
 refine ⟨_,rfl,?_⟩
 rw [cond_dec]
 refine ite_i (fun hlt=>?_) fun hlt=>?_
 ·have hlt':i<kNames.length:=by omega
  obtain ⟨p,hlt2,hp,hcell⟩:=(hNo.rd hu3 hN).str (i:=(i:Int)) (by omega) (by omega)
  cases hp
  simp only [Int.toNat_natCast] at hcell hlt2
  have e1:IntKind.wrap .i64 ((i:Int)+1)=((i+1:Nat):Int):=by rw [wrap64_id (by omega) (by omega)];omega
  have e1':IntKind.wrap .i64 ((i:Int)+1)=(i:Int)+1:=wrap64_id (by omega) (by omega)
  have e4:IntKind.wrap .i64 (4+(i:Int))=4+(i:Int):=wrap64_id (by omega) (by omega)
  obtain ⟨tb,F4,hc4,hT4,hup4⟩:=PK.tbB hK3 hB3
  refine ⟨⟨by omega,hlt⟩,_,rfl,_,by rw [Int.toNat_natCast,Nat.mul_one];exact hcell,_,rfl,_,hc4,ptAdd_c hT4 fun H4 F4' hT4' hu4=>⟨_,_,rfl,?_⟩⟩
  rw [bootAdd hlt'] at hT4' ⊢
  obtain ⟨⟨F5,hK5,hu5⟩,hB5⟩:=hup4 H4 F4' _ hT4' hu4
  refine sym_c ⟨by simp only;omega,by simp only;omega⟩ ⟨_,_,rfl,object_c (by decide) ⟨_,rfl,?_⟩⟩
  refine ⟨fun w H'=>w=[.int .i64 (if i=0 then 4 else 16)]∧H'=H4,?_,?_⟩
  ·rw [beqI,cond_dec]
   refine ite_i (fun h0=>object_c (by decide) ⟨_,rfl,?_,rfl⟩) fun h0=>⟨?_,rfl⟩
   ·rw [if_pos (by omega)];rfl
   ·rw [if_neg (by omega)];rfl
  rintro w H4' ⟨rfl,rfl⟩ _
  refine ⟨_,rfl,object_c (by decide) ⟨_,rfl,object_c (by decide) ⟨_,rfl,object_c (by decide) ⟨_,rfl,integer_c (by decide) ⟨_,rfl,?_⟩⟩⟩⟩⟩
  rw [e1',e4]
  refine integer_c ⟨by omega,by omega⟩ ⟨_,rfl,?_⟩
  have fq:=(Fr.push [] H4' (.cells (intsV (fillW i)).toArray 36))
  have hW:Rd 1 (H4'.push (.cells (intsV (fillW i)).toArray 36)) (some ⟨H4'.size,0,none⟩) 7 (intsV (fillW i)):=rd_new (cs:=fillW i)
  have hWo:Out (H4'.push (.cells (intsV (fillW i)).toArray 36)) (some ⟨H4'.size,0,none⟩) F5:=fun p hp=>by
   cases hp
   exact ⟨by simp,fun hm=>absurd (hK5.lt _ hm) (Nat.lt_irrefl _)⟩
  have hK6:=hK5.nil fq
  have hB6:HB (H4'.push (.cells (intsV (fillW i)).toArray 36)) b sb0 hb:=HB.nil hB5 fq
  show ∃(I38:List Value→Heap→Prop) (μ38:List Value→Heap→Nat),I38 [.int .i64 0] (H4'.push (.cells (intsV (fillW i)).toArray 36))∧_
  generalize (H4'.push (.cells (intsV (fillW i)).toArray 36))=H6 at fq hW hWo hK6 hB6 ⊢
  refine ⟨fun w H'=>∃(k:Nat) (r:RH),w=[.int .i64 k]∧k≤7∧PK H' b F5 { s with h:=r } ⟨4096,kNames.take (i+1)⟩∧HB H' b sb0 hb∧Fr F5 H6 H'∧r.lay (4+i) k ((fillW i).drop k)=(fillN s.h i).lay (4+i) 0 (fillW i)∧∀ j x,objAt r.objs j=some x→x.fmt=0,fun w _=>match w with
   | [.int _ k]=>(7-k).toNat
   | _=>0,⟨0,fillN s.h i,rfl,by decide,hK6,hB6,Fr.refl _ _,rfl,fillN_all hfmt i⟩,?_⟩
  rintro w H7 ⟨k,r,rfl,hk7,hK7,hB7,hf7,hlay,hr⟩ _
  refine ⟨_,rfl,?_⟩
  rw [cond_dec]
  refine ite_i (fun hkl=>?_) fun hkl=>?_
  ·have hkl':k<(fillW i).length:=by show k<7;omega
   obtain ⟨p,hp,hcell,hlt3⟩:=(hW.fr' hf7 fun p hp=>(hWo p hp).2).int (i:=(k:Int)) (by omega) (by omega)
   cases hp
   rw [Int.toNat_natCast] at hcell hlt3
   have hx:(fillW i).getD k 0=(fillW i)[k]:=by simp [hkl']
   rw [hx] at hcell
   have ed:(fillW i).drop k=(fillW i)[k] :: (fillW i).drop (k+1):=List.drop_eq_getElem_cons hkl'
   have ek:IntKind.wrap .i64 ((k:Int)+1)=((k+1:Nat):Int):=by rw [wrap64_id (by omega) (by omega)];omega
   obtain ⟨F8,hR8,hsub8,hup8⟩:=PK.hp hK7 hB7
   refine ⟨⟨by omega,hkl⟩,_,rfl,_,by rw [Int.toNat_natCast,Nat.mul_one];exact hcell,put_c hR8 (hr _) fun H9 hR9 hf9=>⟨_,rfl,?_⟩⟩
   obtain ⟨hK9,hB9⟩:=hup8 H9 _ hR9 hf9
   rw [ek]
   refine ⟨⟨k+1,(r.put (4+i) k (fillW i)[k]).2,rfl,by omega,hK9,hB9,hf7.trans (hf9.mono hsub8),?_,put_all hr _ _ _⟩,by simp;omega⟩
   rw [←hlay,ed]
   rfl
  ·have hk:k=7:=by omega
   subst hk
   have hz:(fillW i).drop 7=[]:=rfl
   rw [hz] at hlay
   simp only [RH.lay] at hlay
   subst hlay
   refine object_c ⟨by omega,by omega⟩ ⟨_,rfl,?_⟩
   obtain ⟨F8,hR8,hsub8,hup8⟩:=PK.hp hK7 hB7
   refine put_c hR8 (hr _) fun H9 hR9 hf9=>⟨_,rfl,?_⟩
   obtain ⟨hK9,hB9⟩:=hup8 H9 _ hR9 hf9
   rw [show (i:Int)+1=((i+1:Nat):Int) by omega]
   refine ⟨⟨i+1,F5,rfl,by omega,hK9,hB9,?_⟩,by simp;omega⟩
   exact (hu3.trans hu5).trans ((Up.of_nil fq).trans ⟨hf7.trans (hf9.mono hsub8),fun _ h=>.inl h⟩)
 ·have hi14:i=14:=by omega
  subst hi14
  have fq:=(Fr.push [] H3 (.cells (intsV [20,18,18,18,1,2,3]).toArray 3))
  have hW:Rd 1 (H3.push (.cells (intsV [20,18,18,18,1,2,3]).toArray 3)) (some ⟨H3.size,0,none⟩) 7 (intsV [20,18,18,18,1,2,3]):=rd_new (cs:=[20,18,18,18,1,2,3])
  have hWo:Out (H3.push (.cells (intsV [20,18,18,18,1,2,3]).toArray 3)) (some ⟨H3.size,0,none⟩) F3:=fun p hp=>by
   cases hp
   exact ⟨by simp,fun hm=>absurd (hK3.lt _ hm) (Nat.lt_irrefl _)⟩
  have hK6:=hK3.nil fq
  have hB6:HB (H3.push (.cells (intsV [20,18,18,18,1,2,3]).toArray 3)) b sb0 hb:=HB.nil hB3 fq
  show ∃(I38:List Value→Heap→Prop) (μ38:List Value→Heap→Nat),I38 [.int .i64 0] (H3.push (.cells (intsV [20,18,18,18,1,2,3]).toArray 3))∧_
  generalize (H3.push (.cells (intsV [20,18,18,18,1,2,3]).toArray 3))=H6 at fq hW hWo hK6 hB6 ⊢
  refine ⟨fun w H'=>∃(k:Nat) (r:RH),w=[.int .i64 k]∧k≤7∧PK H' b F3 { s with h:=r } bootT∧HB H' b sb0 hb∧Fr F3 H6 H'∧r.lay 19 k (fillR.drop k)=bootH s.h∧∀ j x,objAt r.objs j=some x→x.fmt=0,fun w _=>match w with
   | [.int _ k]=>(7-k).toNat
   | _=>0,⟨0,fillN s.h 14,rfl,by decide,by rw [show bootT=⟨4096,kNames.take 14⟩ from rfl];exact hK6,hB6,Fr.refl _ _,by rw [bootH];rfl,fillN_all hfmt 14⟩,?_⟩
  rintro w H7 ⟨k,r,rfl,hk7,hK7,hB7,hf7,hlay,hr⟩ _
  refine ⟨_,rfl,?_⟩
  rw [cond_dec]
  refine ite_i (fun hkl=>?_) fun hkl=>?_
  ·have hkl':k<7:=by omega
   obtain ⟨p,hp,hcell,hlt3⟩:=(hW.fr' hf7 fun p hp=>(hWo p hp).2).int (i:=(k:Int)) (by omega) (by omega)
   cases hp
   rw [Int.toNat_natCast] at hcell hlt3
   have ek:IntKind.wrap .i64 ((k:Int)+1)=((k+1:Nat):Int):=by rw [wrap64_id (by omega) (by omega)];omega
   have hx:1≤([20,18,18,18,1,2,3]:List Int).getD k 0∧([20,18,18,18,1,2,3]:List Int).getD k 0≤65536∧fillR.drop k=4*([20,18,18,18,1,2,3]:List Int).getD k 0 :: fillR.drop (k+1):=by
    rcases k with _ | _ | _ | _ | _ | _ | _ | k
    all_goals first | exact ⟨by decide,by decide,by decide⟩ | omega
   obtain ⟨F8,hR8,hsub8,hup8⟩:=PK.hp hK7 hB7
   refine ⟨⟨by omega,hkl⟩,_,rfl,_,by rw [Int.toNat_natCast,Nat.mul_one];exact hcell,object_c ⟨hx.1,hx.2.1⟩ ⟨_,rfl,put_c hR8 (hr _) fun H9 hR9 hf9=>⟨_,rfl,?_⟩⟩⟩
   obtain ⟨hK9,hB9⟩:=hup8 H9 _ hR9 hf9
   rw [ek]
   refine ⟨⟨k+1,_,rfl,by omega,hK9,hB9,hf7.trans (hf9.mono hsub8),?_,put_all hr _ _ _⟩,by simp;omega⟩
   rw [←hlay,hx.2.2]
   rfl
  ·have hk:k=7:=by omega
   subst hk
   have hz:fillR.drop 7=[]:=rfl
   rw [hz] at hlay
   have hlay':r=bootH s.h:=hlay
   rw [hlay'] at hK7
   have hu7:Up F3 H3 F3 H7:=(Up.of_nil fq).trans ⟨hf7,fun _ h=>.inl h⟩
   have hu9:Up F H F3 H7:=((Up.of_nil fp).trans hu3).trans hu7
   exact h H7 F3 hK7 hB7 hu9
end
def tailT (pl:List (Value × List ByteArray)) (n:Nat):List ByteArray:=((pl.drop n).reverse.map (·.2)).flatten
theorem tailT_step {pl:List (Value × List ByteArray)}{n:Nat} (h:n<pl.length):tailT pl n=tailT pl (n+1)++(pl[n]).2:=by
 unfold tailT
 rw [List.drop_eq_getElem_cons h]
 simp only [List.reverse_cons,List.map_append,List.map_cons,List.map_nil,List.flatten_append,List.flatten_cons,List.flatten_nil,List.append_nil]
theorem tailT_end (pl:List (Value × List ByteArray)):tailT pl pl.length=[]:=by simp [tailT]
theorem tailT_snoc (pl:List (Value × List ByteArray)) (x:Value × List ByteArray):tailT (pl++[x]) 0=x.2++tailT pl 0:=by simp [tailT]
theorem tailT_pre {pl:List (Value × List ByteArray)}:∀ (k n:Nat),n+k=pl.length→∃ r,tailT pl 0=tailT pl n++r∧True:=by
 intro k n hk
 induction n generalizing k with
 | zero=>exact ⟨[],by simp,trivial⟩
 | succ n ih =>
  obtain ⟨r,e,_⟩:=ih (k+1) (by omega)
  exact ⟨(pl[n]'(by omega)).2++r,by rw [e,tailT_step (by omega)];simp,trivial⟩
def PartOK (H:Heap) (p:Value × List ByteArray):Prop:=∃ a l c,p.1=.slice a l c∧Rd 1 H a l (strsV p.2)
section
variable {H:Heap}{b:Nat}{F:Foot}{s:SP}{t:TB}{v:KV}{Q:QT}
theorem infoK_name {i:Nat} (hi:i<v.cls.length):(infoK v t i).name=tx t (v.cls[i]).name∧(infoK v t i).own=(v.cls[i]).own.map (tx t):=by
 unfold infoK;rw [List.getElem?_eq_getElem hi];exact ⟨rfl,rfl⟩
theorem name_inj (hv:KAll s t v){i j:Nat} (hi:i<v.cls.length) (hj:j<v.cls.length) (h:(infoK v t i).name=(infoK v t j).name):i=j:=by
 rw [(infoK_name hi).1,(infoK_name hj).1] at h
 have:=tx_inj hv.names.wf (hv.names.name _ (List.getElem_mem hi)) (hv.names.name _ (List.getElem_mem hj)) h
 have hn:=hv.names.nodup
 have e1:(v.cls.map (·.name))[i]'(by simpa using hi)=(v.cls.map (·.name))[j]'(by simpa using hj):=by simpa using this
 exact (List.getElem_inj hn).1 e1
theorem name_ne (hv:KAll s t v){i:Nat} (hi:i<v.cls.length):(infoK v t i).name≠⟨#[]⟩:=by
 rw [(infoK_name hi).1]
 have:=tx_good hv.names.wf (hv.names.name _ (List.getElem_mem hi))
 intro e
 rw [e] at this
 exact absurd this.1 (by decide)
theorem atSup_r (hv:KAll s t v){a:Option Addr}{l c:Nat}{G:Foot} (hL:LRep 4 InfoR H a l c (infosK v t) G){i:Nat} (hi:i<v.cls.length)
  (h:Q (.int .i64 (match upIdx v i with | some j=>(j:Int) | none=>-1)) H):callS PP n_k266 #[.slice a l c,.int .i64 i,.string (infoK v t i).sup] Q H:=by
 have hm1:=hv.ks.shape.many1
 have hsup:(infoK v t i).sup=match upIdx v i with
  | some j=>match v.cls[j]? with
   | some d=>tx t d.name
   | none=>⟨#[]⟩
  | none=>⟨#[]⟩:=by unfold infoK;rw [List.getElem?_eq_getElem hi] <;> rfl
 rcases hv.ks.upI hi with ⟨_,e0,e1⟩ | ⟨j,hj,hlt,e0,_,e1⟩
 ·rw [e1] at hsup h
  simp only at hsup h
  refine at_r hL (Nat.le_of_lt hi) hm1 (fun k hk he _=>?_) fun _=>h
  rw [hsup] at he
  exact absurd he (name_ne hv (by omega))
 ·rw [e1] at hsup h
  simp only [List.getElem?_eq_getElem hj] at hsup h
  have hsj:(infoK v t i).sup=(infoK v t j).name:=by rw [hsup,(infoK_name hj).1]
  refine at_r hL (Nat.le_of_lt hi) hm1 (fun k hk he _=>?_) fun hno=>?_
  ·rw [hsj] at he
   have:=name_inj hv (by omega) hj he
   subst this;exact h
  ·exact absurd hsj.symm (hno j hlt)
theorem fields20_r (hv:KAll s t v){a:Option Addr}{l c:Nat}{G:Foot} (hL:LRep 4 InfoR H a l c (infosK v t) G){i:Nat} (hi:i<v.cls.length)
  (h:∀ a l c G H',Own 1 H' a l c (strsV ((fieldsK v i).map (tx t))) G→Fr [] H H'→(∀ x∈G,H.size≤x)→Q (.slice a l c) H'):callS PP n_k222 #[.slice a l c,.int .i64 i,.int .i64 (-1),.slice none 0 0] Q H:=by
 have hs1:sliceInfo PP 37=some (1,16,some (.string (⟨#[]⟩:ByteArray))):=by kernel_rfl
 have hs2:sliceInfo PP 80=some (1,24,some (.slice none 0 0)):=by kernel_rfl
 have hm1:=hv.ks.shape.many1
 have hfl:=fields_len hv.ks i hi
 have hl:l=v.cls.length:=by have:=hL.len;simpa [infosK] using this
 apply k222_ok
 unfold k222 A0 iV wW sV lV cS
 refine ⟨fun w H'=>∃(cx:Int) (a8:Option Addr) (l8 c8:Nat) (G8:Foot) (pl:List (Value × List ByteArray)),w=[.int .i64 cx,.slice a8 l8 c8]∧Own 1 H' a8 l8 c8 (pl.map (·.1)) G8∧Fr [] H H'∧(∀ x∈G8,H.size≤x)∧(∀ p∈pl,PartOK H p)∧pl.length+(cx+1).toNat≤i+1 ∧
   ((cx=-1∧(fieldsK v i).map (tx t)=tailT pl 0)∨∃ j,∃ _:j<v.cls.length,cx=(j:Int)∧(fieldsK v i).map (tx t)=(fieldsK v j).map (tx t)++tailT pl 0),fun w _=>match w with
  | [.int _ cx,_]=>(cx+1).toNat
  | _=>0,⟨i,none,0,0,[],[],rfl,Own.nil 1 H,Fr.refl _ _,by simp,by simp,by first | (simp;done) | (simp;omega),.inr ⟨i,hi,rfl,by simp [tailT]⟩⟩,?_⟩
 rintro w H1 ⟨cx,a8,l8,c8,G8,pl,rfl,ho8,hf8,hG8,hpl,hlen8,hcase⟩ _
 have hl8:l8=pl.length:=by have:=ho8.len;simpa using this.symm
 refine ⟨_,_,_,_,rfl,?_⟩
 rw [cond_dec]
 refine ite_i (fun hge=>?_) fun hge=>?_
 ·
  rcases hcase with ⟨e,_⟩ | ⟨j,hj,rfl,heq⟩
  ·omega
  rw [beqI,cond_dec,if_neg (by omega)]
  obtain ⟨p,a2,l2,c2,G2,rfl,hspot,_,_,cc2,ho2,_⟩:=info_get (hL.fr InfoR.fr InfoR.lt hf8 (Disj.nil_right _)) hj
  obtain ⟨p',a2',l2',c2',G2',hp',_,_,_,cc2',ho2',_⟩:=info_get hL hj
  cases hp'
  refine ⟨⟨by omega,by omega⟩,_,rfl,_,_,_,by rw [Int.toNat_natCast];exact cc2,?_⟩
  refine evS_append1 hs2 rfl (by kernel_rfl) ho8 rfl (by simp [oneC]) (by omega) (by decide) (by decide) fun a' c' G3 H3 g1 g2 g3=>⟨_,_,_,rfl,⟨by omega,by omega⟩,_,rfl,?_⟩
  have hfr:=Up.fresh hf8 g2 hG8
  have hL3:=hL.fr InfoR.fr InfoR.lt hfr.1 (Disj.nil_right _)
  obtain ⟨p',a3,l3,c3,G4,hp',_,_,cc1,_⟩:=info_get hL3 hj
  cases hp'
  refine ⟨_,by rw [Int.toNat_natCast];exact cc1,atSup_r hv hL3 hj ⟨_,rfl,?_⟩⟩
  have hj':(v.cls[j]).own.map (tx t)=(infoK v t j).own:=(infoK_name hj).2.symm
  have hsl:Value.slice a2 l2 c2=.slice a2' l2' c2':=by
   have e2:cellH H1 ((p.add (j*4)).add 2)=cellH H ((p.add (j*4)).add 2):=by
    obtain ⟨pb,po,ps⟩:=p
    simp only at hspot
    subst hspot
    rw [add_none,add_none] at cc2' ⊢
    exact cell_fr hf8 (by simp) (cell_lt cc2')
   rw [cc2,cc2'] at e2
   exact Option.some.inj e2
  have hpart:PartOK H (.slice a2 l2 c2,(infoK v t j).own):=⟨a2',l2',c2',hsl,ho2'.rd⟩
  rcases hv.ks.upI hj with ⟨h0,_,e1⟩ | ⟨k,hk,hlt,_,_,e1⟩
  ·rw [e1]
   simp only
   refine ⟨⟨-1,a',l8+1,c',G3,pl++[(.slice a2 l2 c2,(infoK v t j).own)],rfl,by simpa using g1,hfr.1,hfr.2,fun q hq=>?_,by first | (simp;done) | (simp;omega),.inl ⟨rfl,?_⟩⟩,by first | (simp;done) | (simp;omega)⟩
   ·rcases List.mem_append.1 hq with hq | hq
    ·exact hpl q hq
    ·simp only [List.mem_singleton] at hq;rw [hq];exact hpart
   ·subst h0
    rw [tailT_snoc,heq,hv.ks.fields0 hj,hj']
  ·rw [e1]
   simp only
   refine ⟨⟨k,a',l8+1,c',G3,pl++[(.slice a2 l2 c2,(infoK v t j).own)],rfl,by simpa using g1,hfr.1,hfr.2,fun q hq=>?_,by first | (simp;done) | (simp;omega),.inr ⟨k,hk,rfl,?_⟩⟩,by first | (simp;done) | (simp;omega)⟩
   ·rcases List.mem_append.1 hq with hq | hq
    ·exact hpl q hq
    ·simp only [List.mem_singleton] at hq;rw [hq];exact hpart
   ·rw [tailT_snoc,heq,hv.ks.fieldsS hj hlt e1,List.map_append,hj',List.append_assoc]
 ·
  have heq:(fieldsK v i).map (tx t)=tailT pl 0:=by
   rcases hcase with ⟨_,e⟩ | ⟨j,_,e,_⟩
   ·exact e
   ·omega
  have htot:(tailT pl 0).length≤3000000:=by rw [←heq,List.length_map];omega
  have hpn:pl.length≤1000:=by omega
  have e0:IntKind.wrap .i64 ((l8:Int)-1)=(pl.length:Int)-1:=by rw [wrap64_id (by omega) (by omega)];omega
  refine ⟨fun w H'=>∃(n:Nat) (a3:Option Addr) (l3 c3:Nat) (G3:Foot),w=[.slice a3 l3 c3,.int .i64 ((n:Int)-1)]∧n≤pl.length∧Own 1 H' a3 l3 c3 (strsV (tailT pl n)) G3∧Fr [] H1 H'∧(∀ x∈G3,H1.size≤x),fun w _=>match w with
   | [_,.int _ n]=>(n+1).toNat
   | _=>0,⟨pl.length,none,0,0,[],by rw [e0],Nat.le_refl _,by rw [tailT_end];exact Own.nil 1 H1,Fr.refl _ _,by simp⟩,?_⟩
  rintro w H6 ⟨n,a3,l3,c3,G3,rfl,hn,ho3,hf3,hG3⟩ _
  refine ⟨_,_,_,_,rfl,?_⟩
  rw [cond_dec]
  refine ite_i (fun hge2=>?_) fun hge2=>?_
  ·have hnp:n-1<pl.length:=by omega
   have en:(n:Int)-1=((n-1:Nat):Int):=by omega
   have hp:=hpl _ (List.getElem_mem hnp)
   obtain ⟨ap,lp,cp,ep,hrp⟩:=hp
   obtain ⟨r,er,_⟩:=tailT_pre (pl:=pl) (pl.length-(n-1)) (n-1) (by omega)
   have es:=tailT_step hnp
   rw [show n-1+1=n by omega] at es
   have hlp:lp=(pl[n-1]).2.length:=by have:=hrp.1;simpa [strsV] using this.symm
   have hle:(tailT pl n).length+(pl[n-1]).2.length≤3000000:=by
    rw [er,es] at htot
    simp only [List.length_append] at htot
    omega
   have hcellP:∀ {H':Heap},Fr [] H1 H'→∃ q,a8=some q∧cellH H' (q.add ((n-1)*1))=some (.slice ap lp cp):=by
    intro H' hf'
    have hr8:=(ho8.fr hf' (by simp)).rd
    cases ha:a8 with
    | none =>
     have:=hr8.2.1 ha
     omega
    | some q =>
     refine ⟨q,rfl,?_⟩
     rw [hr8.2.2 q ha ((n-1)*1) (by omega)]
     rw [Nat.mul_one,List.getElem?_map,List.getElem?_eq_getElem hnp,←ep]
     rfl
   refine ⟨fun w H'=>∃(k:Nat) (a4:Option Addr) (l4 c4:Nat) (G4:Foot),w=[.slice a4 l4 c4,.int .i64 k]∧k≤(pl[n-1]).2.length∧Own 1 H' a4 l4 c4 (strsV (tailT pl n++(pl[n-1]).2.take k)) G4∧Fr [] H1 H'∧(∀ x∈G4,H1.size≤x),fun w _=>match w with
    | [_,.int _ k]=>((pl[n-1]).2.length-k).toNat
    | _=>0,⟨0,a3,l3,c3,G3,rfl,Nat.zero_le _,by simpa using ho3,hf3,hG3⟩,?_⟩
   rintro w H7 ⟨k,a4,l4,c4,G4,rfl,hk,ho4,hf4,hG4⟩ _
   have hl4:l4=(tailT pl n).length+k:=by
    have:=ho4.len
    simp only [strsV,List.length_map,List.length_append,List.length_take] at this
    omega
   obtain ⟨q,hq,hcq⟩:=hcellP hf4
   subst hq
   rw [en]
   refine ⟨_,_,_,_,rfl,⟨by omega,by omega⟩,_,rfl,_,_,_,by rw [Int.toNat_natCast];exact hcq,?_⟩
   rw [cond_dec]
   refine ite_i (fun hlt=>?_) fun hlt=>?_
   ·obtain ⟨pp,hlt2,rfl,hcell⟩:=(hrp.fr' (hf8.trans hf4) (by simp)).str (i:=(k:Int)) (by omega) hlt
    simp only [Int.toNat_natCast] at hcell hlt2
    have e1:IntKind.wrap .i64 ((k:Int)+1)=((k+1:Nat):Int):=by rw [wrap64_id (by omega) (by omega)];omega
    refine ⟨⟨by omega,by omega⟩,_,rfl,_,_,_,by rw [Int.toNat_natCast];exact hcq,⟨by omega,hlt⟩,_,rfl,_,by rw [Int.toNat_natCast,Nat.mul_one];exact hcell,?_⟩
    refine evS_append1 hs1 rfl (by kernel_rfl) ho4 rfl (by simp [oneC]) (by omega) (by decide) (by decide) fun a' c' G5 H8 g1 g2 g3=>⟨_,_,_,rfl,?_⟩
    have hfr:=Up.fresh hf4 g2 hG4
    rw [e1]
    refine ⟨⟨k+1,a',l4+1,c',G5,rfl,by omega,?_,hfr.1,hfr.2⟩,by first | (simp;done) | (simp;omega)⟩
    rw [List.take_add_one,List.getElem?_eq_getElem hlt2,←List.append_assoc,strsV_append]
    exact g1
   ·have hkl:k=(pl[n-1]).2.length:=by omega
    rw [hkl,List.take_length,←es] at ho4
    have e1:IntKind.wrap .i64 (((n-1:Nat):Int)-1)=((n-1:Nat):Int)-1:=wrap64_id (by omega) (by omega)
    rw [e1]
    exact ⟨⟨n-1,a4,l4,c4,G4,rfl,by omega,ho4,hf4,hG4⟩,by first | (simp;done) | (simp;omega)⟩
  ·have:n=0:=by omega
   subst this
   rw [←heq] at ho3
   exact h _ _ _ G3 H6 ho3 (hf8.trans hf3) fun x hx=>Nat.le_trans hf8.1 (hG3 x hx)
end
section
variable {H:Heap}{b:Nat}{F:Foot}{s:SP}{t:TB}{v:KV}{Q:QT}
theorem fields_r (hK:RK H b F s t) (hv:KAll s t v){o:Int} (h1:∀ i,plK v o=some i→∀ a l c G H',Own 1 H' a l c (strsV ((fieldsK v i).map (tx t))) G→Fr [] H H'→(∀ x∈G,H.size≤x)→Q (.tuple #[.slice a l c,.int .i64 0]) H')
  (h2:plK v o=none→∀ H',Fr [] H H'→Q (.tuple #[.slice none 0 0,.int .i64 130]) H'):callS PP n_k125 #[.pointer (some ⟨b,0,none⟩),.int .i64 o] Q H:=by
 have hm1:=hv.ks.shape.many1
 apply k125_ok
 unfold k125 iV wW pV lV cS
 refine place_r hK hv.ks fun H1 hf1=>⟨_,rfl,?_⟩
 unfold placeN
 cases hp:plK v o with
 | none=>exact h2 hp H1 hf1
 | some i =>
  obtain ⟨hi,rfl⟩:=plK_some hp
  rw [beqI,cond_dec,if_neg (by simp only;omega)]
  refine infos_r (hK.nil hf1) hv fun a l c G H2 hL hf2 hG=>⟨_,_,_,rfl,?_⟩
  have e:IntKind.wrap .i64 ((i:Int)+1-1)=(i:Int):=by rw [wrap64_id (by omega) (by omega)];omega
  simp only [e]
  exact fields20_r hv hL hi fun a2 l2 c2 G2 H3 ho hf3 hG2=>⟨_,_,_,rfl,h1 i hp a2 l2 c2 G2 H3 ho ((hf1.trans hf2).trans hf3) fun x hx=>Nat.le_trans (hf1.trans hf2).1 (hG2 x hx)⟩
end
section
variable {H:Heap}{b:Nat}{F:Foot}{s:SP}{t:TB}{v:KV}{Q:QT}
theorem seek {a a4:Option Addr}{l l4:Nat}{xs own:List ByteArray}{x:ByteArray}{n k:Nat} (hk:Rd 1 H a l (strsV xs)) (h4:Rd 1 H a4 l4 (strsV own)) (hn:own[n]?=some x) (hkl:k≤l) (hlk:l≤1000000000000000) (hl4:l4=own.length)
  {bad good:Heap→Prop} (hbad:x∈xs.take k→bad H) (hgood:x∉xs.take k→good H) :
  ∃(I:List Value→Heap→Prop) (μ:List Value→Heap→Nat),I [.int .i64 0] H∧∀ w H1,I w H1→∀ _g:Nat→Value,∃ m:Int,w=[.int .i64 m]∧cond (decide (m<(k:Int))) (((0:Int)≤m∧m<(l:Int))∧∃ q,a=some q∧∃ s:ByteArray,cellH H1 (q.add (Int.toNat m*1))=some (.string s)∧((0:Int)≤(n:Int)∧(n:Int)<(l4:Int))∧∃ q4,a4=some q4∧∃ s4:ByteArray,cellH H1 (q4.add (Int.toNat (n:Int)*1))=some (.string s4)∧cond (strEq s s4) (bad H1) (I [.int .i64 (IntKind.wrap .i64 (m+1))] H1∧μ [.int .i64 (IntKind.wrap .i64 (m+1))] H1<μ w H1)) (good H1):=by
 have hl:l=xs.length:=by have:=hk.1;simpa [strsV] using this.symm
 have hnl:n<own.length:=by
  rcases Nat.lt_or_ge n own.length with h1 | h1
  ·exact h1
  ·rw [List.getElem?_eq_none h1] at hn;cases hn
 refine ⟨fun w H'=>H'=H∧∃ i:Nat,w=[.int .i64 i]∧i≤k∧∀ j (hj:j<xs.length),j<i→xs[j]≠x,fun w _=>match w with
  | [.int _ i]=>(k-i).toNat
  | _=>0,⟨rfl,0,rfl,Nat.zero_le _,fun j _ hj=>by omega⟩,?_⟩
 rintro w H1 ⟨rfl,i,rfl,hi,hall⟩ _
 refine ⟨_,rfl,?_⟩
 rw [cond_dec]
 refine ite_i (fun hlt=>?_) fun hlt=>?_
 ·obtain ⟨p,hlt2,rfl,hcell⟩:=hk.str (i:=(i:Int)) (by omega) (by omega)
  simp only [Int.toNat_natCast] at hcell hlt2
  obtain ⟨p4,hlt4,rfl,hcell4⟩:=h4.str (i:=(n:Int)) (by omega) (by omega)
  simp only [Int.toNat_natCast] at hcell4 hlt4
  have ex:own[n]=x:=by rw [List.getElem?_eq_getElem hnl] at hn;exact Option.some.inj hn
  rw [ex] at hcell4
  have e:IntKind.wrap .i64 ((i:Int)+1)=((i+1:Nat):Int):=by rw [wrap64_id (by omega) (by omega)];omega
  refine ⟨⟨by omega,by omega⟩,_,rfl,_,by rw [Int.toNat_natCast,Nat.mul_one];exact hcell,⟨by omega,by omega⟩,_,rfl,_,by rw [Int.toNat_natCast,Nat.mul_one];exact hcell4,?_⟩
  rw [strEq_dec,cond_dec]
  refine ite_i (fun he=>hbad ?_) fun he=>?_
  ·rw [←he]
   exact List.mem_take_iff_getElem.2 ⟨i,by omega,rfl⟩
  ·rw [e]
   refine ⟨⟨rfl,i+1,rfl,by omega,fun j hj hji=>?_⟩,by simp;omega⟩
   rcases Nat.lt_or_ge j i with h5 | h5
   ·exact hall j hj h5
   ·have:j=i:=by omega
    subst this;exact he
 ·refine hgood fun hm=>?_
  obtain ⟨j,hj,he⟩:=List.mem_take_iff_getElem.1 hm
  exact hall j (by omega) (by omega) he
theorem refused_r (hK:RK H b F s t) (hv:KAll s t v){name sup:ByteArray}{a:Option Addr}{l c:Nat}{own:List ByteArray} (hk:Rd 1 H a l (strsV own)) (hlk:l≤1000000000000000)
  (h:∀ H',Fr [] H H'→Q (.tuple #[.int .i64 (defK v t name sup own).1,.int .i64 (defK v t name sup own).2]) H'):callS PP n_k208 #[.pointer (some ⟨b,0,none⟩),.string name,.string sup,.slice a l c] Q H:=by
 have hm1:=hv.ks.shape.many1
 have hl:l=own.length:=by have:=hk.1;simpa [strsV] using this.symm
 apply k208_ok
 unfold k208 iV wW pV sV lV cS
 unfold defK at h
 refine className_r ⟨_,rfl,?_⟩
 rw [←decide_not,cond_dec]
 refine ite_i (fun h1=>?_) fun h1=>?_
 ·rw [if_pos h1] at h;exact h H (Fr.refl _ _)
 rw [if_neg h1] at h
 refine taken_r hK hv fun H2 hf2=>⟨_,rfl,?_⟩
 rw [cond_dec]
 refine ite_i (fun h2=>?_) fun h2=>?_
 ·rw [if_pos h2] at h;exact h H2 hf2
 rw [if_neg h2] at h
 refine find_r (hK.nil hf2) hv fun H3 hf3=>⟨_,_,rfl,?_⟩
 have hF3:=hf2.trans hf3
 rw [bneI,cond_dec]
 refine ite_i (fun h3=>?_) fun h3=>?_
 ·rw [if_pos h3] at h
  have e130:(findK v t sup).2=130:=by
   rcases findK_cases v t sup with ⟨e,_⟩ | ⟨j,hj,e,_⟩
   ·rw [e]
   ·rw [e] at h3;simp at h3
  rw [e130] at h;exact h H3 hF3
 rw [if_neg h3] at h
 rcases findK_cases v t sup with ⟨e,_⟩ | ⟨j,hj,e,_⟩
 ·rw [e] at h3;simp at h3
 have hfl:=fields_len hv.ks j hj
 rw [e] at h ⊢
 have hpl:=hv.ks.idx hj
 simp only [hpl] at h
 refine place_r (hK.nil hF3) hv.ks fun H4 hf4=>⟨_,rfl,?_⟩
 have hF4:=hF3.trans hf4
 have epn:placeN v (v.cls[j]).oop=(j:Int)+1:=by unfold placeN;rw [hpl]
 rw [epn]
 refine ⟨fun w H'=>w=[]∧H'=H4∧¬ (1≤j∧j<14),?_,?_⟩
 ·rw [cond_dec]
  refine ite_i (fun h4=>?_) fun h4=>⟨rfl,rfl,by omega⟩
  rw [cond_dec]
  refine ite_i (fun h5=>?_) fun h5=>⟨rfl,rfl,by omega⟩
  rw [if_pos (by omega)] at h
  exact h H4 hF4
 rintro w H5 ⟨rfl,rfl,h4⟩ _
 rw [if_neg h4] at h
 refine ⟨rfl,fields_r (hK.nil hF4) hv (fun j' hp' a6 l6 c6 G H6 ho6 hf6 hG=>?_) fun hp'=>by rw [hpl] at hp';cases hp'⟩
 rw [hpl] at hp'
 cases hp'
 refine ⟨_,_,_,_,rfl,?_⟩
 have hF6:=hF4.trans hf6
 have hl6:l6=(fieldsK v j).length:=by have:=ho6.len;simpa [strsV] using this.symm
 have hk6:Rd 1 H6 a l (strsV own):=hk.fr' hF6 (by simp)
 refine ⟨fun w H'=>H'=H6∧∃ i:Nat,w=[.int .i64 i]∧i≤l∧ownE ((fieldsK v j).map (tx t)) (own.take i) (own.drop i)=ownE ((fieldsK v j).map (tx t)) [] own,fun w _=>match w with
  | [.int _ i]=>(l-i).toNat
  | _=>0,⟨rfl,0,rfl,Nat.zero_le _,by simp⟩,?_⟩
 rintro w H7 ⟨rfl,i,rfl,hi,hown⟩ _
 refine ⟨_,rfl,?_⟩
 rw [cond_dec]
 refine ite_i (fun hlt=>?_) fun hlt=>?_
 ·have hlt':i<own.length:=by omega
  obtain ⟨p,hlt2,rfl,hcell⟩:=hk6.str (i:=(i:Int)) (by omega) hlt
  simp only [Int.toNat_natCast] at hcell hlt2
  have e1:IntKind.wrap .i64 ((i:Int)+1)=((i+1:Nat):Int):=by rw [wrap64_id (by omega) (by omega)];omega
  have ed:own.drop i=own[i] :: own.drop (i+1):=List.drop_eq_getElem_cons hlt'
  have et:own.take (i+1)=own.take i++[own[i]]:=by rw [List.take_add_one];simp [hlt']
  have eg:own[i]?=some own[i]:=List.getElem?_eq_getElem hlt'
  rw [ed,ownE] at hown
  refine ⟨⟨by omega,hlt⟩,_,rfl,_,by rw [Int.toNat_natCast,Nat.mul_one];exact hcell,fieldName_r ⟨_,rfl,?_⟩⟩
  rw [←decide_not,cond_dec]
  refine ite_i (fun h5=>?_) fun h5=>?_
  ·rw [if_pos h5] at hown
   rw [if_pos (by rw [←hown];decide),←hown] at h
   exact h _ hF6
  rw [if_neg h5] at hown
  refine seek (xs:=own) hk6 hk6 eg hi hlk hl (fun hin=>?_) fun hnin=>?_
  ·rw [if_pos hin] at hown
   rw [if_pos (by rw [←hown];decide),←hown] at h
   exact h _ hF6
  rw [if_neg hnin] at hown
  refine seek (xs:=(fieldsK v j).map (tx t)) ho6.rd hk6 eg (Nat.le_refl _) (by omega) hl (fun hin=>?_) fun hnin2=>?_
  ·rw [List.take_of_length_le (by simp;omega)] at hin
   rw [if_pos hin] at hown
   rw [if_pos (by rw [←hown];decide),←hown] at h
   exact h _ hF6
  rw [List.take_of_length_le (by simp;omega)] at hnin2
  rw [if_neg hnin2] at hown
  rw [e1]
  exact ⟨⟨rfl,i+1,rfl,by omega,by rw [et];exact hown⟩,by simp;omega⟩
 ·have hil:i=own.length:=by omega
  rw [hil,List.drop_length] at hown
  have h0:ownE ((fieldsK v j).map (tx t)) [] own=0:=by rw [←hown];rfl
  rw [if_neg (by rw [h0];decide)] at h
  have ew:IntKind.wrap .i64 ((l6:Int)+(l:Int))=(l6:Int)+l:=wrap64_id (by omega) (by omega)
  rw [ew,cond_dec]
  refine ite_i (fun h5=>?_) fun h5=>?_
  ·rw [if_pos (by omega)] at h;exact h _ hF6
  rw [if_neg (by omega)] at h
  refine all_r (hK.nil hF6) hv.ks fun a8 l8 c8 G8 H8 ho8 hf8 hG8=>⟨_,_,_,rfl,?_⟩
  have hl8:l8=v.cls.length:=by have:=ho8.len;simpa [intsV,oopsK] using this.symm
  rw [cond_dec]
  refine ite_i (fun h6=>?_) fun h6=>?_
  ·rw [if_pos (by omega)] at h;exact h H8 (hF6.trans hf8)
  rw [if_neg (by omega)] at h
  exact h H8 (hF6.trans hf8)
theorem begin_r (hK:RK H b F s t) (h:∀ H' nb,RK H' b F s t→Blk H' nb #[.int .i64 (t.texts.length:Int),.int .i64 s.h.mark,.int .i64 (s.stack.length:Int)]→nb∉F→Fr [] H H'→H.size≤nb→Q (.pointer (some ⟨nb,0,none⟩)) H'):callS PP n_k116 #[.pointer (some ⟨b,0,none⟩)] Q H:=by
 apply k116_ok
 unfold k116 A0 iV pV lV cS
 obtain ⟨tb,F2,hc2,hT,_⟩:=hK.tb
 obtain ⟨sb,hb,F1,hc,c0,hR,_⟩:=hK.hp
 obtain ⟨sb',F3,hc',hS,_⟩:=hK.sp
 have esb:sb'=sb:=by rw [hc] at hc';simpa using hc'.symm
 subst esb
 obtain ⟨_,a,l,c,_,F4,_,_,_,_,_,_,_,_,hB,_,hO,_⟩:=hS
 have hcS:cellH H ⟨sb',2,none⟩=some (.slice a l c):=hB.cell 2
 have hl:l=s.stack.length:=by have:=hO.len;simpa [intsV] using this.symm
 subst hl
 refine ⟨_,rfl,_,hc2,_,rfl,_,hc,_,rfl,_,c0,_,rfl,_,hc,_,rfl,_,_,_,by rw [add_none];exact hcS,tcount_c hT ⟨_,rfl,⟨⟨by rw [add_none];exact hcS,trivial⟩,⟨hc,trivial⟩,⟨c0,trivial⟩,⟨hc,trivial⟩,trivial⟩,rmarked_c hR ⟨_,rfl,⟨⟨by rw [add_none];exact hcS,trivial⟩,⟨hc,trivial⟩,trivial⟩,trivial,?_⟩⟩⟩
 have hf2:=Fr.push [] H (.cells #[.int .i64 (t.texts.length:Int),.int .i64 s.h.mark,.int .i64 (s.stack.length:Int)] 257)
 exact h _ H.size (hK.nil hf2) (Blk.new _ _ _) (fun hm=>absurd (hK.lt _ hm) (Nat.lt_irrefl _)) hf2 (Nat.le_refl _)
end
section
variable {H:Heap}{b:Nat}{F:Foot}{s:SP}{t:TB}{v:KV}{Q:QT}
theorem end_r (hK:RK H b F s t){nb:Nat}{cnt mk kp:Int} (hN:Blk H nb #[.int .i64 cnt,.int .i64 mk,.int .i64 kp]) (hnb:nb∉F) (hkp:0≤kp∧kp≤1000000){e:Int} (h:∀ H' F',RK H' b F' (kEnd s t mk cnt kp e).1 (kEnd s t mk cnt kp e).2→Up F H F' H'→Q (.int .i64 e) H') :
  callS PP n_k123 #[.pointer (some ⟨b,0,none⟩),.pointer (some ⟨nb,0,none⟩),.int .i64 e] Q H:=by
 have hmany:=hK.wfs.many
 apply k123_ok
 unfold k123 iV wW pV lV cS
 unfold kEnd at h
 obtain ⟨sb,F1,hc,hS,hsub,_,hup⟩:=hK.sp
 have hS':=hS
 obtain ⟨_,a,l,c,_,F4,_,_,_,_,_,_,_,_,hB,_,hO,_⟩:=hS'
 have hcS:cellH H ⟨sb,2,none⟩=some (.slice a l c):=hB.cell 2
 have hl:l=s.stack.length:=by have:=hO.len;simpa [intsV] using this.symm
 subst hl
 have ew:IntKind.wrap .i64 ((s.stack.length:Int)-kp)=(s.stack.length:Int)-kp:=wrap64_id (by omega) (by omega)
 refine ⟨_,rfl,_,hc,_,rfl,_,hc,_,rfl,_,_,_,by rw [add_none];exact hcS,_,rfl,_,hN.cell 2,?_⟩
 rw [ew]
 refine rsDrop_c hS fun H2 F2 hS2 hu2=>⟨_,rfl,trivial,?_⟩
 obtain ⟨F',hK2,hu2'⟩:=hup H2 F2 _ hS2 hu2
 rw [beqI,cond_dec]
 refine ite_i (fun h1=>?_) fun h1=>?_
 ·rw [if_pos h1] at h
  have:=h H2 F' hK2 hu2'
  rw [h1] at this;exact this
 rw [if_neg h1] at h
 have hN2:=hN.fr hu2'.1 hnb
 have hnb2:=Up.out hu2' hnb hN.lt
 obtain ⟨tb,F3,hc3,hT,hsub3,_,hup3⟩:=hK2.tb
 refine ⟨_,rfl,_,hc3,_,rfl,_,hN2.cell 0,tback_c hT fun H3 F4 hT3 hu3=>⟨_,rfl,trivial,?_⟩⟩
 obtain ⟨F5,hK3,hu3'⟩:=hup3 H3 F4 _ hT3 hu3
 have hN3:=hN2.fr hu3'.1 hnb2
 have hu23:=hu2'.trans hu3'
 have ed:(s.drop ((s.stack.length:Int)-kp)).2.h=s.h:=by unfold SP.drop;split <;> rfl
 rw [bneI,cond_dec]
 refine ite_i (fun h2=>?_) fun h2=>?_
 ·rw [if_neg h2] at h
  obtain ⟨sb4,hb4,F6,hc4,c04,hR4,hsub4,_,hup4⟩:=hK3.hp
  refine ⟨_,rfl,_,hc4,_,rfl,_,c04,_,rfl,_,hN3.cell 1,rmarks_c hR4 fun H5 hR5 hf5=>⟨_,rfl,trivial,?_⟩⟩
  obtain ⟨F7,hK5,hu5⟩:=hup4 H5 F6 _ hR5 ⟨hf5,fun _ h=>.inl h⟩
  simp only [ed] at hK5
  exact h H5 F7 hK5 (hu23.trans hu5)
 ·have h24:e=24:=Classical.byContradiction h2
  rw [if_pos h24] at h
  refine h H3 F5 ?_ hu23
  generalize (s.drop ((s.stack.length:Int)-kp)).2=s' at *
  cases s'
  simp only at ed
  subst ed
  exact hK3
theorem symbols_r (hK:RK H b F s t){a:Option Addr}{l c:Nat}{own:List ByteArray} (hr:Rd 1 H a l (strsV own)) (hout:Outs H a l F) (hlk:l≤100000000)
  (h:∀ H' F' a' l' c' G,RK H' b F' s (t.addAll [] own).2→Up F H F' H'→Own 1 H' a' l' c' (intsV (t.addAll [] own).1.1) G→(∀ x∈G,H.size≤x∧x∉F')→Q (.tuple #[.slice a' l' c',.int .i64 (t.addAll [] own).1.2]) H') :
  callS PP n_k117 #[.pointer (some ⟨b,0,none⟩),.slice a l c] Q H:=by
 have hs1:sliceInfo PP 108=some (1,8,some (.int .i64 0)):=by kernel_rfl
 have hl:l=own.length:=by have:=hr.1;simpa [strsV] using this.symm
 apply k117_ok
 unfold k117 A0 iV wW pV sV lV cS
 refine ⟨fun w H'=>∃(i:Nat) (t':TB) (acc:List Int) (a':Option Addr) (l' c':Nat) (G F':Foot),w=[.slice a' l' c',.int .i64 i]∧i≤own.length∧RK H' b F' s t'∧Up F H F' H'∧t'.addAll acc (own.drop i)=t.addAll [] own∧Own 1 H' a' l' c' (intsV acc) G∧(∀ x∈G,H.size≤x∧x∉F')∧acc.length=i,fun w _=>match w with
  | [_,.int _ i]=>(own.length-i).toNat
  | _=>0,⟨0,t,[],none,0,0,[],F,rfl,Nat.zero_le _,hK,Up.refl _ _,rfl,by simpa [intsV] using Own.nil 1 H,by simp,rfl⟩,?_⟩
 rintro w H2 ⟨i,t2,acc,a2,l2,c2,G,F2,rfl,hi,hK2,hu2,hadd,ho,hG,hacc⟩ _
 have hl2:l2=i:=by have:=ho.len;simp only [intsV,List.length_map] at this;omega
 refine ⟨_,_,_,_,rfl,?_⟩
 rw [cond_dec]
 refine ite_i (fun hlt=>?_) fun hlt=>?_
 ·obtain ⟨p,hlt2,rfl,hcell⟩:=(hout.rd hu2 hr).str (i:=(i:Int)) (by omega) hlt
  simp only [Int.toNat_natCast] at hcell hlt2
  have e1:IntKind.wrap .i64 ((i:Int)+1)=((i+1:Nat):Int):=by rw [wrap64_id (by omega) (by omega)];omega
  have ed:own.drop i=own[i] :: own.drop (i+1):=List.drop_eq_getElem_cons hlt2
  rw [ed,TB.addAll] at hadd
  obtain ⟨tb,F3,hc3,hT,hsub3,_,hup3⟩:=hK2.tb
  refine ⟨_,rfl,_,hc3,⟨by omega,hlt⟩,_,rfl,_,by rw [Int.toNat_natCast,Nat.mul_one];exact hcell,tadd_c hT fun H3 F4 hT3 hu3=>⟨_,_,rfl,trivial,?_⟩⟩
  obtain ⟨F5,hK3,hu3'⟩:=hup3 H3 F4 _ hT3 hu3
  rw [bneI,cond_dec]
  refine ite_i (fun h3=>?_) fun h3=>?_
  ·rw [if_pos h3] at hadd
   rw [←hadd] at h
   exact h H3 F5 none 0 0 [] hK3 (hu2.trans hu3') (Own.nil 1 _) (by simp)
  rw [if_neg h3] at hadd
  have hz3:(t2.add own[i]).1.2=0:=Classical.byContradiction h3
  obtain ⟨n,en,en2,_⟩:=add_ok own[i] hz3
  have hw3:=hK3.wft
  have h5:=(tx_some en2).2
  have h6:=hw3.m1
  have h7:=hw3.len
  rw [en] at hadd ⊢
  refine refSym_c ⟨by omega,by omega⟩ ⟨_,rfl,?_⟩
  have hoG:∀ x∈G,x<H2.size:=ho.lt
  have ho3:Own 1 H3 a2 l2 c2 (intsV acc) G:=ho.fr hu3'.1 fun x hx=>(hG x hx).2
  refine evS_append1 hs1 rfl (by kernel_rfl) ho3 rfl (by simp [oneC]) (by omega) (by decide) (by decide) fun a' c' G2 H4 g1 g2 g3=>⟨_,_,_,rfl,?_⟩
  rw [e1]
  have hG3:∀ x∈G,H.size≤x∧x∉F5:=fun x hx=>⟨(hG x hx).1,Up.out hu3' (hG x hx).2 (hoG x hx)⟩
  have hF5lt:=hK3.lt
  have hK4:RK H4 b F5 s (t2.add own[i]).2:=hK3.fr g2.1 fun x hx hm=>(hG3 x hm).2 hx
  have hu4:Up F H F5 H4:=by
   have h12:=hu2.trans hu3'
   refine ⟨⟨Nat.le_trans h12.1.1 g2.1.1,fun x hx hn=>?_⟩,h12.2⟩
   rw [g2.1.2 x (Nat.lt_of_lt_of_le hx h12.1.1) (fun hm=>by have:=(hG3 x hm).1;omega),h12.1.2 x hx hn]
  refine ⟨⟨i+1,_,_,a',l2+1,c',G2,F5,rfl,by omega,hK4,hu4,hadd,?_,fun x hx=>?_,by simp [hacc]⟩,by simp;omega⟩
  ·rw [intsV_append];exact g1
  ·rcases g2.2 x hx with h5 | h5
   ·exact hG3 x h5
   ·exact ⟨Nat.le_trans (hu2.trans hu3').1.1 h5,fun hm=>by have:=hF5lt x hm;omega⟩
 ·have hil:i=own.length:=by omega
  rw [hil,List.drop_length,TB.addAll] at hadd
  rw [←hadd] at h
  exact h H2 F2 a2 l2 c2 G hK2 hu2 ho hG
theorem layB_r (hK:RK H b F s t){o:Int}{a:Option Addr}{l c:Nat}{ws:List Int} (hk:Rd 1 H a l (intsV ws)) (hout:Out H a F) (hlk:l≤1000000000)
  (h:∀ H' F',RK H' b F' { s with h:=s.h.lay o 0 ws } t→Up F H F' H'→(∀ o,cellH H' ⟨b,o,none⟩=cellH H ⟨b,o,none⟩)→Q (.tuple #[]) H'):callS PP n_k61 #[.pointer (some ⟨b,0,none⟩),.int .i64 o,.slice a l c] Q H:=by
 have hl:l=ws.length:=by have:=hk.1;simpa [intsV] using this.symm
 apply k61_ok
 unfold k61 iV wW pV cS
 refine ⟨fun w H'=>∃(i:Nat) (r:RH) (F':Foot),w=[.int .i64 i]∧i≤ws.length∧RK H' b F' { s with h:=r } t∧Up F H F' H'∧(∀ o,cellH H' ⟨b,o,none⟩=cellH H ⟨b,o,none⟩)∧r.lay o i (ws.drop i)=s.h.lay o 0 ws,fun w _=>match w with
  | [.int _ i]=>(ws.length-i).toNat
  | _=>0,⟨0,s.h,F,rfl,Nat.zero_le _,hK,Up.refl _ _,fun _=>rfl,rfl⟩,?_⟩
 rintro w H4 ⟨i,r,F4,rfl,hi,hK4,hu4,hce,hlay⟩ _
 refine ⟨_,rfl,?_⟩
 rw [cond_dec]
 refine ite_i (fun hlt=>?_) fun hlt=>?_
 ·obtain ⟨p,rfl,hcell,hlt2⟩:=(hout.rd hu4 hk).int (i:=(i:Int)) (by omega) hlt
  rw [Int.toNat_natCast] at hcell hlt2
  have hx:ws.getD i 0=ws[i]:=by simp [hlt2]
  rw [hx] at hcell
  have ed:ws.drop i=ws[i] :: ws.drop (i+1):=List.drop_eq_getElem_cons hlt2
  have e:IntKind.wrap .i64 ((i:Int)+1)=((i+1:Nat):Int):=by rw [wrap64_id (by omega) (by omega)];omega
  obtain ⟨sb,hb,F1,hc,c0,hR,hsub,hbn,hup⟩:=hK4.hp
  have hbl:=hK4.lt b hK4.bmem
  refine ⟨_,rfl,_,hc,_,rfl,_,c0,⟨by omega,hlt⟩,_,rfl,_,by rw [Int.toNat_natCast,Nat.mul_one];exact hcell,rput_c hR fun H6 hR6 hf6=>⟨_,rfl,trivial,?_⟩⟩
  obtain ⟨F7,hK7,hu7⟩:=hup H6 F1 _ hR6 ⟨hf6,fun _ h=>.inl h⟩
  rw [e]
  refine ⟨⟨i+1,(r.put o i ws[i]).2,F7,rfl,by omega,hK7,hu4.trans hu7,fun o=>by rw [cell_fr hf6 hbn hbl];exact hce o,?_⟩,by simp;omega⟩
  rw [←hlay,ed]
  rfl
 ·have hil:i=ws.length:=by omega
  subst hil
  rw [List.drop_length] at hlay
  simp only [RH.lay] at hlay
  rw [hlay] at hK4
  exact h H4 F4 hK4 hu4 hce
theorem lay_r (hK:RK H b F s t){o:Int}{a:Option Addr}{l c:Nat}{ws:List Int} (hk:Rd 1 H a l (intsV ws)) (hout:Out H a F) (hlk:l≤1000000000)
  (h:∀ H' F',RK H' b F' { s with h:=s.h.lay o 0 ws } t→Up F H F' H'→Q (.tuple #[]) H'):callS PP n_k61 #[.pointer (some ⟨b,0,none⟩),.int .i64 o,.slice a l c] Q H :=
 layB_r hK hk hout hlk fun H' F' h1 h2 _=>h H' F' h1 h2
theorem made_r (hK:RK H b F s t){cls:Int} (hcls:1≤cls∧cls≤65536){a:Option Addr}{l c:Nat}{ws:List Int} (hk:Rd 1 H a l (intsV ws)) (hout:Out H a F) (hlk:l≤1000000000) (hne:cls=11→ws≠[])
  (h:∀ H' F',RK H' b F' (s.make cls ws).2 t→Up F H F' H'→Q (.tuple #[.int .i64 (s.make cls ws).1.1,.int .i64 (s.make cls ws).1.2]) H'):callS PP n_k121 #[.pointer (some ⟨b,0,none⟩),.int .i64 cls,.slice a l c] Q H:=by
 have hl:l=ws.length:=by have:=hk.1;simpa [intsV] using this.symm
 apply k121_ok
 unfold k121 A0 iV pV lV cS
 unfold SP.make at h
 refine ⟨fun w H'=>w=[]∧H'=H,?_,?_⟩
 ·rw [beqI,cond_dec]
  refine ite_i (fun h1=>?_) fun h1=>⟨rfl,rfl⟩
  rw [beqI,cond_dec]
  refine ite_i (fun h2=>?_) fun h2=>⟨rfl,rfl⟩
  exact absurd (List.eq_nil_of_length_eq_zero (by omega)) (hne h1)
 rintro w H2 ⟨rfl,rfl⟩ _
 obtain ⟨sb,F1,hc,hS,hsub,_,hup⟩:=hK.sp
 refine ⟨rfl,_,rfl,_,hc,refObj_c ⟨by omega,by omega⟩ ⟨_,rfl,⟨⟨hc,trivial⟩,trivial⟩,?_⟩⟩
 rw [hl]
 refine rsAlloc_c hS fun H1 F3 hS1 hu1=>⟨_,_,rfl,trivial,?_⟩
 obtain ⟨F4,hK4,hu4⟩:=hup H1 F3 _ hS1 hu1
 rw [bneI,cond_dec]
 refine ite_i (fun h1=>?_) fun h1=>?_
 ·rw [if_pos h1] at h;exact h _ _ hK4 hu4
 rw [if_neg h1] at h
 have hz:(s.alloc (4*cls) ws.length 0).1.2=0:=Classical.byContradiction h1
 obtain ⟨o,e1,o1,o2,_⟩:=salloc_ok hK.wfs hz
 rw [e1] at h ⊢
 have e2:4*o / 4=o:=by omega
 rw [e2] at h
 generalize (s.alloc (4*cls) ws.length 0).2=s1 at *
 refine refOop13_c (I64_small (by omega) (by omega)) ⟨_,rfl,?_⟩
 rw [refOop_obj o1,←hl]
 refine lay_r hK4 (hout.rd hu4 hk) (hout.up hu4) (by omega) fun H5 F5 hK5 hu5=>⟨rfl,?_⟩
 have fp:=Fr.push [] H5 (.cells #[.int .i64 (4*o)] 36)
 have hcx:∃ sb,cellH H5 ⟨b,0,none⟩=some (.pointer (some ⟨sb,0,none⟩)):=by obtain ⟨sb,_,hc,_⟩:=hK5.sp;exact ⟨sb,hc⟩
 obtain ⟨sb5,hc5⟩:=hcx
 refine ⟨_,rfl,_,hc5,?_⟩
 have hK6:=hK5.nil fp
 obtain ⟨sb6,F6,hc6,hS6,hsub6,_,hup6⟩:=hK6.sp
 have esb:sb6=sb5:=by
  rw [cell_fr fp (by simp) (cell_lt hc5),hc5] at hc6
  simpa using hc6.symm
 subst esb
 refine rsKeep_c hS6 (rd_new (cs:=[4*o])) (by decide) fun H7 F7 hS7 hu7=>⟨_,rfl,?_⟩
 obtain ⟨F8,hK8,hu8⟩:=hup6 H7 F7 _ hS7 hu7
 exact h H7 F8 hK8 ((hu4.trans hu5).trans ((Up.of_nil fp).trans hu8))
theorem madeA_r (hK:RK H b F s t){a:Option Addr}{l c:Nat}{ws:List Int} (hk:Rd 1 H a l (intsV ws)) (hout:Out H a F) (hlk:l≤1000000000)
  (h:∀ H' F',RK H' b F' (s.array ws).2 t→Up F H F' H'→Q (.tuple #[.int .i64 (s.array ws).1.1,.int .i64 (s.array ws).1.2]) H'):callS PP n_k121 #[.pointer (some ⟨b,0,none⟩),.int .i64 11,.slice a l c] Q H:=by
 unfold SP.array at h
 by_cases he:ws=[]
 ·rw [if_pos he] at h
  have hl:l=0:=by have:=hk.1;rw [he] at this;simpa [intsV] using this.symm
  apply k121_ok
  unfold k121 A0 iV pV lV cS
  refine ⟨fun w H'=>False,?_,fun _ _ hf=>hf.elim⟩
  rw [beqI,cond_dec,if_pos rfl,beqI,cond_dec,if_pos (by omega)]
  exact refObj_c (by decide) ⟨_,rfl,h H F hK (Up.refl _ _)⟩
 ·rw [if_neg he] at h
  exact made_r hK (by decide) hk hout hlk (fun _=>he) h
end
theorem Up.mid {F F1 G:Foot}{H H1 H2:Heap} (hu:Up F H F1 H1) (hg:Fr G H1 H2) (hG:∀ x∈G,H.size≤x):Up F H F1 H2 :=
 ⟨⟨Nat.le_trans hu.1.1 hg.1,fun x hx hn=>by rw [hg.2 x (Nat.lt_of_lt_of_le hx hu.1.1) (fun hm=>by have:=hG x hm;omega),hu.1.2 x hx hn]⟩,hu.2⟩
theorem rd_str {H:Heap}{x:ByteArray}{t:TypeId}:Rd 1 (H.push (.cells #[.string x] t)) (some ⟨H.size,0,none⟩) 1 (strsV [x]):=by
 refine ⟨rfl,(fun h=>by cases h),fun p hp k hk=>?_⟩
 cases hp
 rw [add_none,Nat.zero_add,(Blk.new H _ _).cell]
 have:k=0:=by omega
 subst this;rfl
theorem addAll_one (t:TB) (x:ByteArray):t.addAll [] [x]=if (t.add x).1.2≠0 then (([],(t.add x).1.2),(t.add x).2) else (([4*(t.add x).1.1+2],0),(t.add x).2):=by
 rw [TB.addAll]
 split
 ·rfl
 ·rw [TB.addAll];rfl
section
variable {H:Heap}{b:Nat}{F:Foot}{s:SP}{t:TB}{v:KV}{Q:QT}
theorem rappend {H0:Heap}{F0:Foot} (hu:Up F0 H0 F H) (hK:RK H b F s t){a:Option Addr}{l c l2 c2:Nat}{a2:Option Addr}{G:Foot}{ws xs:List Int} (ho:Own 1 H a l c (intsV ws) G) (hG:∀ x∈G,H0.size≤x∧x∉F) (hws:ws.length≤8192) (h2:Rd 1 H a2 l2 (intsV xs)) (hxs:l2≤8192)
  {K:Value→Heap→Prop} (h:∀ a' c' H' G',RK H' b F s t→Up F0 H0 F H'→Own 1 H' a' (l+l2) c' (intsV (ws++xs)) G'→(∀ x∈G',H0.size≤x∧x∉F)→K (.slice a' (l+l2) c') H') :
  evS PP (Builtin.append_ #[108,108] 108 #[.slice a l c,.slice a2 l2 c2]) K H:=by
 have hs1:sliceInfo PP 108=some (1,8,some (.int .i64 0)):=by kernel_rfl
 have hl:l=ws.length:=by have:=ho.len;simpa [intsV] using this.symm
 have hlt:=hK.lt
 refine evS_append hs1 rfl (by kernel_rfl) ho h2 intsV_one (by omega) (by decide) (by decide) fun a' c' G' H' g1 g2 g3=>?_
 rw [←intsV_append] at g1
 refine h a' c' H' G' (hK.fr g2.1 fun x hx hm=>(hG x hm).2 hx) (Up.mid hu g2.1 fun x hx=>(hG x hx).1) g1 fun x hx=>?_
 rcases g2.2 x hx with h5 | h5
 ·exact hG x h5
 ·exact ⟨Nat.le_trans hu.1.1 h5,fun hm=>by have:=hlt x hm;omega⟩
theorem own_out {a:Option Addr}{l c:Nat}{xs:List Value}{G:Foot} (h:Own 1 H a l c xs G) (hd:∀ x∈G,x∉F):Out H a F:=Own.out h fun x hx hm=>hd x hx hm
theorem define_r (hK:RK H b F s t) (hk:KS s v){name:ByteArray}{up:Int} (hup:1≤up∧up≤65536) (hst:s.stack.length<60000){a:Option Addr}{l c:Nat}{own:List ByteArray} (hr:Rd 1 H a l (strsV own)) (hout:Outs H a l F) (hlk:l≤100000000)
  (h:∀ H' F',RK H' b F' (kDef s t v.clsW name up own).2.1 (kDef s t v.clsW name up own).2.2→Up F H F' H'→Q (.tuple #[.int .i64 (kDef s t v.clsW name up own).1.1,.int .i64 (kDef s t v.clsW name up own).1.2]) H') :
  callS PP n_k209 #[.pointer (some ⟨b,0,none⟩),.string name,.int .i64 up,.slice a l c] Q H:=by
 have hm1:=hk.shape.many1
 have hcw:v.clsW.length=v.cls.length:=by simp [KV.clsW]
 apply k209_ok
 unfold k209 A0 iV wW pV sV lV cS
 unfold kDef at h
 have fp:=Fr.push [] H (.cells #[.string name] 9)
 have hup0:Up F H F (H.push (.cells #[.string name] 9)):=Up.of_nil fp
 refine symbols_r (hK.nil fp) (own:=[name]) rd_str (.inr fun p hp=>?_) (by decide) fun H1 F1 a6 l6 c6 G6 hK1 hu1 ho6 hG6=>⟨_,_,_,_,rfl,?_⟩
 ·cases hp
  exact ⟨by simp,fun hm=>absurd (hK.lt _ hm) (Nat.lt_irrefl _)⟩
 have hu01:=hup0.trans hu1
 rw [addAll_one] at hK1 ho6 ⊢
 rw [bneI,cond_dec]
 by_cases h1:(t.add name).1.2=0
 rotate_left
 ·rw [if_pos h1] at h
  rw [if_pos (show (t.add name).1.2≠0 from h1)] at hK1 ⊢
  rw [if_pos h1]
  exact h H1 F1 hK1 hu01
 rw [if_neg (show ¬ (t.add name).1.2≠0 from fun hn=>hn h1)] at hK1 ho6 h ⊢
 rw [if_neg (fun hn=>hn rfl)]
 obtain ⟨nn,en,en2,_⟩:=add_ok name h1
 rw [en] at h ho6
 generalize (t.add name).2=t1 at *
 have hout1:=hout.up hu01
 have hr1:=hout.rd hu01 hr
 have hG6':∀ x∈G6,H.size≤x∧x∉F1:=fun x hx=>⟨Nat.le_trans fp.1 (hG6 x hx).1,(hG6 x hx).2⟩
 refine symbols_r hK1 hr1 hout1 hlk fun H2 F2 a9 l9 c9 G9 hK2 hu2 ho9 hG9=>⟨_,_,_,_,rfl,?_⟩
 have hu02:=hu01.trans hu2
 rw [bneI,cond_dec]
 refine ite_i (fun h2=>?_) fun h2=>?_
 ·rw [if_pos h2] at h;exact h H2 F2 hK2 hu02
 rw [if_neg h2] at h
 have hz2:(t1.addAll [] own).1.2=0:=Classical.byContradiction h2
 obtain ⟨ns,ens,ens2⟩:=addAll_ok [] own hz2
 rw [List.nil_append] at ens
 have hwt2:=hK2.wft
 have hns:∀ n∈ns,n<(t1.addAll [] own).2.texts.length:=fun n hn=>by
  have:(t1.addAll [] own).2.texts[n]?∈own.map some:=by rw [←ens2];exact List.mem_map.2 ⟨n,hn,rfl⟩
  obtain ⟨s,_,hs⟩:=List.mem_map.1 this
  exact (tx_some hs.symm).2
 have hnn:nn<(t1.addAll [] own).2.texts.length:=by
  have h5:=(tx_some en2).2
  obtain ⟨m,e⟩:=(addAll_pre t1 [] own).2
  rw [e,List.length_append];omega
 have hws:∀ w∈(t1.addAll [] own).1.1,isW w:=fun w hw=>by
  rw [ens] at hw
  obtain ⟨x,hx,rfl⟩:=List.mem_map.1 hw
  exact isW_sym hwt2 (hns x hx)
 have hl9:l9≤1000000000:=by
  have e1:=ho9.len
  have e2:ns.length=own.length:=by have:=congrArg List.length ens2;simpa using this
  rw [ens] at e1
  simp only [intsV,List.length_map] at e1
  have e3:l=own.length:=by have:=hr.1;simpa [strsV] using this.symm
  omega
 unfold kDef1 at h
 generalize (t1.addAll [] own).1.1=acc at *
 generalize (t1.addAll [] own).2=t2 at *
 obtain ⟨a1,a2,⟨m1,a3,a3'⟩,a4⟩:=array_ok hk (by omega) hws
 refine madeA_r hK2 ho9.rd (own_out ho9 fun x hx=>(hG9 x hx).2) hl9 fun H3 F3 hK3 hu3=>⟨_,_,rfl,?_⟩
 have hu03:=hu02.trans hu3
 rw [bneI,cond_dec]
 refine ite_i (fun h3=>?_) fun h3=>?_
 ·rw [if_pos h3] at h;exact h H3 F3 hK3 hu03
 rw [if_neg h3] at h
 have hz3:(s.array acc).1.2=0:=Classical.byContradiction h3
 obtain ⟨lo,elo,lo1,lo2,_⟩:=a4 hz3
 rw [elo] at h ⊢
 generalize (s.array acc).2=s1 at *
 obtain ⟨e0,b0,b1⟩:=KS.s0 a1
 refine root_r hK3 a1 e0 b0 b1 ⟨_,rfl,words_r hK3 fun aw lw cw Gw H6 how hf6 hGw=>⟨_,_,_,rfl,?_⟩⟩
 rw [show kwords s1.h v.clsA=v.clsW from a1.view.all.kwords] at how
 have hlw:lw=v.clsW.length:=by have:=how.len;simpa [intsV] using this.symm
 have hK6:=hK3.nil hf6
 have hl6:l6=1:=by have:=ho6.len;simpa [intsV] using this.symm
 have hout6:Out H1 a6 F1:=own_out ho6 fun x hx=>(hG6 x hx).2
 have hr6:=(hout6.rd ((hu2.trans hu3).trans (Up.of_nil hf6)) ho6.rd)
 obtain ⟨q6,hq6,hcell6,_⟩:=hr6.int (i:=0) (by decide) (by omega)
 subst hq6
 have hcell6':cellH H6 (q6.add (Int.toNat 0*1))=some (.int .i64 (4*(nn:Int)+2)):=by simpa using hcell6
 have ew:IntKind.wrap .i64 ((lw:Int)+1)=(lw:Int)+1:=wrap64_id (by omega) (by omega)
 refine ⟨⟨Int.le_refl 0,by omega⟩,_,rfl,_,hcell6',refObj_c ⟨by omega,by omega⟩ ⟨_,rfl,⟨⟨hcell6',trivial⟩,trivial⟩,refObj_c (by decide) ⟨_,rfl,⟨⟨hcell6',trivial⟩,trivial⟩,refObj_c (by decide) ⟨_,rfl,⟨⟨hcell6',trivial⟩,trivial⟩,refInt_c (by decide) ⟨_,rfl,⟨⟨hcell6',trivial⟩,trivial⟩,?_⟩⟩⟩⟩⟩
 rw [ew]
 refine refInt_c ⟨by omega,by omega⟩ ⟨_,rfl,⟨⟨hcell6',trivial⟩,trivial⟩,trivial,?_⟩
 unfold kDef2 at h
 have hws2:=clsSlots_words (n:=4*(nn:Int)+2) (up:=up) (l:=4*lo) (k:=v.clsW.length) (isW_sym hwt2 hnn) (isW_obj hup.1 hup.2) (isW_obj lo1 lo2) (by omega)
 obtain ⟨k1,k2,k3,k4⟩:=make_ok a1 (by rw [a3,List.length_append];omega) (cls:=12) (by decide) hws2
 have fp6:=Fr.push [] H6 (.cells (intsV (clsSlots (4*(nn:Int)+2) up (4*lo) v.clsW.length)).toArray 36)
 have hlt6:=hK6.lt
 rw [hlw]
 refine made_r (s:=s1) (ws:=clsSlots (4*(nn:Int)+2) up (4*lo) v.clsW.length) (hK6.nil fp6) (by decide) rd_new
  (fun p hp=>by cases hp;exact ⟨by simp,fun hm=>absurd (hlt6 _ hm) (Nat.lt_irrefl _)⟩) (by decide) (fun h=>absurd h (by decide)) fun H7 F7 hK7 hu7=>⟨_,_,rfl,trivial,?_⟩
 have hu07:=(hu03.trans (Up.of_nil hf6)).trans ((Up.of_nil fp6).trans hu7)
 rw [bneI,cond_dec]
 refine ite_i (fun h4=>?_) fun h4=>?_
 ·rw [if_pos h4] at h;exact h H7 F7 hK7 hu07
 rw [if_neg h4] at h
 have hz4:(s1.make 12 (clsSlots (4*(nn:Int)+2) up (4*lo) v.clsW.length)).1.2=0:=Classical.byContradiction h4
 obtain ⟨cc,ec,est,cc1,cc2,_⟩:=k4 hz4
 rw [ec] at h ⊢
 generalize (s1.make 12 (clsSlots (4*(nn:Int)+2) up (4*lo) v.clsW.length)).2=s2 at *
 unfold kDef3 at h
 have hGw':∀ x∈Gw,H.size≤x∧x∉F7:=fun x hx=>by
  have h5:=hGw x hx
  refine ⟨Nat.le_trans hu03.1.1 h5,Up.out ((Up.of_nil fp6).trans hu7) (fun hm=>by have:=hK3.lt x hm;omega) (how.lt x hx)⟩
 have how7:Own 1 H7 aw lw cw (intsV v.clsW) Gw:=(how.fr fp6 (by simp)).fr hu7.1 fun x hx hm=>by
  have h5:=hGw x hx
  have:=hK3.lt x hm
  omega
 have fp7:=Fr.push [] H7 (.cells #[.int .i64 (4*cc)] 36)
 subst hlw
 refine rappend (hu07.trans (Up.of_nil fp7)) (hK7.nil fp7) (how7.fr fp7 (by simp)) hGw' (by omega) (rd_new (cs:=[4*cc])) (by simp) fun a8 c8 H8 G8 hK8 hu8 ho8 hG8=>⟨_,_,_,rfl,?_⟩
 refine madeA_r hK8 ho8.rd (own_out ho8 fun x hx=>(hG8 x hx).2) (by simp;omega) fun H9 F9 hK9 hu9=>⟨_,_,rfl,?_⟩
 have hws3:∀ w∈v.clsW++[4*cc],isW w:=fun w hw=>by
  rcases List.mem_append.1 hw with hw | hw
  ·exact clsW_words hk w hw
  ·simp only [List.mem_singleton] at hw;rw [hw];exact isW_obj cc1 cc2
 obtain ⟨x1,x2,x3,x4⟩:=array_ok k1 (by rw [est,a3];simp;omega) hws3
 rw [bneI,cond_dec]
 refine ite_i (fun h5=>?_) fun h5=>?_
 ·rw [if_pos h5] at h;exact h H9 F9 hK9 (hu8.trans hu9)
 rw [if_neg h5] at h
 obtain ⟨sb,Fs,hcs,hS,hsub,_,hup9⟩:=hK9.sp
 refine ⟨_,rfl,_,hcs,rsSetRoot_c hS fun HA hSA hfA=>⟨_,rfl,refOop13_c (I64_small (by omega) (by omega)) ⟨_,rfl,?_⟩⟩⟩
 obtain ⟨FA,hKA,huA⟩:=hup9 HA Fs _ hSA ⟨hfA,fun _ h=>.inl h⟩
 have:=h HA FA hKA ((hu8.trans hu9).trans huA)
 rw [refOop_obj cc1]
 have e4:4*cc / 4=cc:=by omega
 simp only [e4] at this
 exact this
theorem define0_r (hK:RK H b F s t) (hv:KAll s t v){name sup:ByteArray}{a:Option Addr}{l c:Nat}{own:List ByteArray} (hr:Rd 1 H a l (strsV own)) (hout:Outs H a l F) (hlk:l≤1000000000000000)
  (h:∀ H' F',RK H' b F' (kDefineAll s v t name sup own).2.1 (kDefineAll s v t name sup own).2.2→Up F H F' H'→Q (.tuple #[.int .i64 (kDefineAll s v t name sup own).1.1,.int .i64 (kDefineAll s v t name sup own).1.2]) H') :
  callS PP n_k103 #[.pointer (some ⟨b,0,none⟩),.string name,.string sup,.slice a l c] Q H:=by
 apply k103_ok
 unfold k103 iV pV sV lV cS
 unfold kDefineAll at h
 refine refused_r hK hv hr (by omega) fun H1 hf1=>⟨_,_,rfl,?_⟩
 rw [bneI,cond_dec]
 refine ite_i (fun h1=>?_) fun h1=>?_
 ·rw [if_pos h1] at h;exact h H1 F (hK.nil hf1) (Up.of_nil hf1)
 rw [if_neg h1] at h
 obtain ⟨j,hj,ej,hlt,hno,_,_⟩:=defK_ok hv (Classical.byContradiction h1)
 rw [ej] at h ⊢
 have hb:=up_arr hv.ks hj
 have hst:s.stack.length<60000:=by rw [hv.stack];decide
 refine begin_r (hK.nil hf1) fun H2 nb hK2 hN hnb hf2 hge=>⟨_,rfl,?_⟩
 have hu2:Up F H F H2:=Up.of_nil (hf1.trans hf2)
 have hl32:=defK_len (Classical.byContradiction h1)
 refine define_r hK2 hv.ks hb hst (hout.rd hu2 hr) (hout.up hu2) (by have:=hr.1;simp only [strsV,List.length_map] at this;omega) fun H3 F3 hK3 hu3=>⟨_,_,rfl,?_⟩
 refine end_r hK3 (hN.fr hu3.1 hnb) (Up.out hu3 hnb hN.lt) ⟨by omega,by omega⟩ fun H4 F4 hK4 hu4=>⟨_,rfl,?_⟩
 have:=h H4 F4 hK4 ((hu2.trans hu3).trans hu4)
 unfold kDefine at this
 rw [bneI,cond_dec]
 refine ite_i (fun h2=>?_) fun h2=>?_
 ·rw [if_neg h2] at this;exact this
 ·have hz:=Classical.byContradiction h2
  rw [if_pos hz] at this
  have e0:(kDef s t v.clsW name (v.cls[j]).oop own).1.2=0:=hz
  rw [e0] at this
  exact this
theorem global_r (hK:RK H b F s t) (hv:KAll s t v){name:ByteArray}
  (h:∀ H' F',RK H' b F' (kGlobalAll s v t name).2.1 (kGlobalAll s v t name).2.2→Up F H F' H'→Q (.int .i64 (kGlobalAll s v t name).1) H') :
  callS PP n_k27 #[.pointer (some ⟨b,0,none⟩),.string name] Q H:=by
 have hg:=hv.ks.shape.globs
 obtain ⟨e0,b0,b1⟩:=KS.s1 hv.ks
 apply k27_ok
 unfold k27 A0 iV pV sV lV cS
 unfold kGlobalAll globK at h
 refine className_r ⟨_,rfl,?_⟩
 rw [←decide_not,cond_dec]
 refine ite_i (fun h1=>?_) fun h1=>?_
 ·rw [if_pos h1,if_pos (by decide)] at h;exact h H F hK (Up.refl _ _)
 rw [if_neg h1] at h
 refine taken_r hK hv fun H2 hF2=>⟨_,rfl,?_⟩
 rw [cond_dec]
 refine ite_i (fun h2=>?_) fun h2=>?_
 ·rw [if_pos h2,if_pos (by decide)] at h;exact h H2 F (hK.nil hF2) (Up.of_nil hF2)
 rw [if_neg h2] at h
 refine globals_r (hK.nil hF2) hv fun a l c G H3 ho hf3 hG=>⟨_,_,_,rfl,?_⟩
 have hF3:=hF2.trans hf3
 have hl:l=v.glob.length:=by have:=ho.len;simpa [strsV,globsK] using this.symm
 rw [cond_dec]
 refine ite_i (fun h3=>?_) fun h3=>?_
 ·rw [if_pos (show 256≤v.glob.length by omega),if_pos (by decide)] at h;exact h H3 F (hK.nil hF3) (Up.of_nil hF3)
 rw [if_neg (show ¬ 256≤v.glob.length by omega),if_neg (by decide)] at h
 refine begin_r (hK.nil hF3) fun H4 nb hK4 hN hnb hf4 hge=>⟨_,rfl,?_⟩
 have hF4:=hF3.trans hf4
 unfold kGlobal at h
 have hst:s.stack.length<60000:=by rw [hv.stack];decide
 have fp:=Fr.push [] H4 (.cells #[.string name] 9)
 have hu4:Up F H F (H4.push (.cells #[.string name] 9)):=Up.of_nil (hF4.trans fp)
 have fin:∀ (R:Int × SP × TB) (H5:Heap) (F5:Foot),kGlob s t (globW v.glob) name=R→RK H5 b F5 R.2.1 R.2.2→Up F H4 F5 H5→callS PP n_k123 #[.pointer (some ⟨b,0,none⟩),.pointer (some ⟨nb,0,none⟩),.int .i64 R.1] (fun v37 H13=>∃ n38:Int,v37=.int .i64 n38∧Q (.int .i64 n38) H13) H5:=by
  intro R H5 F5 eR hK5 hu5
  rw [eR] at h
  exact end_r hK5 (hN.fr hu5.1 hnb) (Up.out hu5 hnb hN.lt) ⟨by omega,by omega⟩ fun H6 F6 hK6 hu6=>⟨_,rfl,h H6 F6 hK6 (((Up.of_nil hF4).trans hu5).trans hu6)⟩
 refine symbols_r (hK4.nil fp) (own:=[name]) rd_str (.inr fun p hp=>?_) (by decide) fun H5 F5 a6 l6 c6 G6 hK5 hu5 ho6 hG6=>⟨_,_,_,_,rfl,?_⟩
 ·cases hp
  exact ⟨by simp,fun hm=>absurd (hK4.lt _ hm) (Nat.lt_irrefl _)⟩
 have hu45:Up F H4 F5 H5:=(Up.of_nil fp).trans hu5
 rw [addAll_one] at hK5 ho6 ⊢
 rw [beqI,cond_dec]
 by_cases h5:(t.add name).1.2=0
 rotate_left
 ·rw [if_pos (show (t.add name).1.2≠0 from h5)] at hK5 ⊢
  rw [if_neg h5]
  have eR:kGlob s t (globW v.glob) name=((t.add name).1.2,s,(t.add name).2):=by unfold kGlob;rw [if_pos h5]
  have:=fin _ H5 F5 eR hK5 hu45
  exact this
 rw [if_neg (show ¬ (t.add name).1.2≠0 from fun hn=>hn h5)] at hK5 ho6 ⊢
 rw [if_pos rfl]
 obtain ⟨nn,en,en2,_⟩:=add_ok name h5
 have eR:kGlob s t (globW v.glob) name=kGlob1 s (t.add name).2 (globW v.glob) (4*(t.add name).1.1+2):=by unfold kGlob;rw [if_neg (by simpa using h5)]
 rw [en] at eR ho6
 generalize (t.add name).2=t1 at *
 unfold kGlob1 at eR
 have hwt1:=hK5.wft
 have hnn:=(tx_some en2).2
 have hws:∀ w∈globW v.glob++[4*(nn:Int)+2,4],isW w:=fun w hw=>by
  rcases List.mem_append.1 hw with hw | hw
  ·exact globW_words hv.ks w hw
  ·simp only [List.mem_cons,List.not_mem_nil,or_false] at hw
   rcases hw with rfl | rfl
   ·exact isW_sym hwt1 hnn
   ·decide
 have hgl:=globW_len v.glob
 have hl6:l6=1:=by have:=ho6.len;simpa [intsV] using this.symm
 have ho6':∀ {H':Heap},Fr [] H5 H'→∃ q,a6=some q∧cellH H' (q.add (Int.toNat 0*1))=some (.int .i64 (4*(nn:Int)+2)):=by
  intro H' hf'
  obtain ⟨q6,hq6,hcell6,_⟩:=((ho6.fr hf' (by simp)).rd).int (i:=0) (by decide) (by omega)
  exact ⟨q6,hq6,by simpa using hcell6⟩
 obtain ⟨q6,hq6,hc6⟩:=ho6' (Fr.refl _ _)
 subst hq6
 have hcell:∀ {H':Heap},Fr [] H5 H'→cellH H' (q6.add (Int.toNat 0*1))=some (.int .i64 (4*(nn:Int)+2)):=fun hf'=>by
  obtain ⟨q,hq,hc⟩:=ho6' hf'
  cases hq;exact hc
 have kwg:kwords s.h v.globA=globW v.glob:=hv.ks.view.globs.kwords
 have one:∀ {H':Heap},Rd 1 (H'.push (.cells #[.int .i64 (4*(nn:Int)+2)] 36)) (some ⟨H'.size,0,none⟩) 1 (intsV [4*(nn:Int)+2]):=fun {H'}=>rd_new (H:=H') (cs:=[4*(nn:Int)+2])
 have hlt5:=hK5.lt
 have app:∀ {H':Heap}{aw:Option Addr}{lw cw:Nat}{Gw:Foot}{a2:Option Addr}{c2:Nat},Fr [] H5 H'→Own 1 H' aw lw cw (intsV (globW v.glob)) Gw→(∀ x∈Gw,H5.size≤x)→Rd 1 H' a2 1 (intsV [4*(nn:Int)+2])→∀ {K:Value→Heap→Prop} (_:∀ a' l' c' H'' G',RK H'' b F5 s t1→Up F H4 F5 H''→Own 1 H'' a' l' c' (intsV (globW v.glob++[4*(nn:Int)+2])) G'→(∀ x∈G',H4.size≤x∧x∉F5)→K (.slice a' l' c') H''),
   evS PP (Builtin.append_ #[108,108] 108 #[.slice aw lw cw,.slice a2 1 c2]) K H':=by
  intro H' aw lw cw Gw a2 c2 hf' how hGw hr2 K hK'
  exact rappend (hu45.trans (Up.of_nil hf')) (hK5.nil hf') how (fun x hx=>⟨Nat.le_trans hu45.1.1 (hGw x hx),fun hm=>by have:=hlt5 x hm;have:=hGw x hx;omega⟩) (by omega) hr2 (by decide) fun a' c' H'' G' k1 k2 k3 k4=>hK' a' _ c' H'' G' k1 k2 k3 k4
 refine ⟨fun w H'=>∃(a':Option Addr) (l' c':Nat) (G':Foot),w=[.slice a' l' c']∧RK H' b F5 s t1∧Up F H4 F5 H'∧Own 1 H' a' l' c' (intsV (globW v.glob++[4*(nn:Int)+2])) G'∧∀ x∈G',H4.size≤x∧x∉F5,⟨⟨Int.le_refl 0,by omega⟩,_,rfl,_,hc6,?_,?_⟩,?_⟩
 ·refine slot_r hK5 ⟨_,rfl,⟨⟨hc6,trivial⟩,trivial⟩,?_,?_⟩
  ·rw [e0]
   refine refOop13_c (I64_small (by omega) (by omega)) ⟨_,rfl,⟨⟨hc6,trivial⟩,trivial⟩,?_,?_⟩
   ·rw [refOop_obj b0]
    refine words_r hK5 fun aw lw cw Gw H8 how hf8 hGw=>⟨_,_,_,rfl,⟨⟨hcell hf8,trivial⟩,trivial⟩,trivial,?_⟩
    rw [kwg] at how
    have fq:=Fr.push [] H8 (.cells #[.int .i64 (4*(nn:Int)+2)] 36)
    exact app (hf8.trans fq) (how.fr fq (by simp)) hGw one fun a' l' c' H'' G' k1 k2 k3 k4=>⟨_,_,_,rfl,trivial,a',l',c',G',rfl,k1,k2,k3,k4⟩
   ·have fq:=Fr.push [] H5 (.cells #[.int .i64 (4*(nn:Int)+2)] 36)
    rw [refOop_obj b0]
    refine ⟨trivial,words_r (hK5.nil fq) fun aw lw cw Gw H8 how hf8 hGw=>⟨_,_,_,rfl,trivial,?_⟩⟩
    rw [kwg] at how
    exact app (fq.trans hf8) how (fun x hx=>Nat.le_trans fq.1 (hGw x hx)) (one.fr' hf8 (by simp)) fun a' l' c' H'' G' k1 k2 k3 k4=>⟨_,_,_,rfl,trivial,a',l',c',G',rfl,k1,k2,k3,k4⟩
  ·have fq:=Fr.push [] H5 (.cells #[.int .i64 (4*(nn:Int)+2)] 36)
   rw [e0]
   refine ⟨trivial,refOop13_c (I64_small (by omega) (by omega)) ⟨_,rfl,trivial,?_⟩⟩
   rw [refOop_obj b0]
   refine words_r (hK5.nil fq) fun aw lw cw Gw H8 how hf8 hGw=>⟨_,_,_,rfl,trivial,?_⟩
   rw [kwg] at how
   exact app (fq.trans hf8) how (fun x hx=>Nat.le_trans fq.1 (hGw x hx)) (one.fr' hf8 (by simp)) fun a' l' c' H'' G' k1 k2 k3 k4=>⟨_,_,_,rfl,trivial,a',l',c',G',rfl,k1,k2,k3,k4⟩
 ·have fq:=Fr.push [] H5 (.cells #[.int .i64 (4*(nn:Int)+2)] 36)
  refine ⟨trivial,slot_r (hK5.nil fq) ⟨_,rfl,trivial,?_⟩⟩
  rw [e0]
  refine refOop13_c (I64_small (by omega) (by omega)) ⟨_,rfl,trivial,?_⟩
  rw [refOop_obj b0]
  refine words_r (hK5.nil fq) fun aw lw cw Gw H8 how hf8 hGw=>⟨_,_,_,rfl,trivial,?_⟩
  rw [kwg] at how
  exact app (fq.trans hf8) how (fun x hx=>Nat.le_trans fq.1 (hGw x hx)) (one.fr' hf8 (by simp)) fun a' l' c' H'' G' k1 k2 k3 k4=>⟨_,_,_,rfl,trivial,a',l',c',G',rfl,k1,k2,k3,k4⟩
 rintro w H6 ⟨a',l',c',G',rfl,hK6,hu6,ho7,hG7⟩ _
 refine ⟨_,_,_,rfl,refObj_c (by decide) ⟨_,rfl,?_⟩⟩
 rw [show ((4:Int)*1)=4 from rfl]
 have fq:=Fr.push [] H6 (.cells #[.int .i64 4] 36)
 have hr4:Rd 1 (H6.push (.cells #[.int .i64 4] 36)) (some ⟨H6.size,0,none⟩) 1 (intsV [4]):=rd_new (cs:=[4])
 generalize (H6.push (.cells #[.int .i64 4] 36))=H6' at fq hr4 ⊢
 refine rappend (hu6.trans (Up.of_nil fq)) (hK6.nil fq) (ho7.fr fq (by simp)) hG7 (by simp;omega) hr4 (by decide) fun a8 c8 H8 G8 hK8 hu8 ho8 hG8=>⟨_,_,_,rfl,?_⟩
 have ecat:globW v.glob++[4*(nn:Int)+2]++[4]=globW v.glob++[4*(nn:Int)+2,4]:=by simp
 rw [ecat] at ho8
 have hl8:l'+1≤1000000000:=by have:=ho7.len;simp only [intsV,List.length_map,List.length_append,hgl] at this;simp at this;omega
 refine madeA_r hK8 ho8.rd (own_out ho8 fun x hx=>(hG8 x hx).2) hl8 fun H9 F9 hK9 hu9=>⟨_,_,rfl,?_⟩
 obtain ⟨k1,_⟩:=array_ok hv.ks (by omega) hws
 rw [beqI,cond_dec]
 refine ite_i (fun h6=>?_) fun h6=>?_
 ·rw [if_neg (by simpa using h6)] at eR
  obtain ⟨sb,Fs,hcs,hS,hsub,_,hup9⟩:=hK9.sp
  refine ⟨_,rfl,_,hcs,rsSetRoot_c hS fun HA hSA hfA=>⟨_,rfl,?_⟩⟩
  obtain ⟨FA,hKA,huA⟩:=hup9 HA Fs _ hSA ⟨hfA,fun _ h=>.inl h⟩
  have:=fin _ HA FA eR hKA ((hu8.trans hu9).trans huA)
  rw [h6];exact this
 ·rw [if_pos h6] at eR
  have:=fin _ H9 F9 eR hK9 (hu8.trans hu9)
  exact this
end
def planV:List (Int × Int)→List Value
 | []=>[]
 | (c,n) :: l=>.int .i64 c :: .int .i64 n :: planV l
theorem planV_append (l m:List (Int × Int)):planV (l++m)=planV l++planV m:=by
 induction l with
 | nil=>rfl
 | cons x l ih=>obtain ⟨c,n⟩:=x;simp [planV,ih]
theorem planV_len (l:List (Int × Int)):(planV l).length=2*l.length:=by
 induction l with
 | nil=>rfl
 | cons x l ih=>obtain ⟨c,n⟩:=x;simp only [planV,List.length_cons,ih];omega
theorem planV_one (l:List (Int × Int)):∀ v∈planV l,oneC v=true:=by
 induction l with
 | nil=>intro v hv;cases hv
 | cons x l ih =>
  obtain ⟨c,n⟩:=x
  intro v hv
  simp only [planV,List.mem_cons] at hv
  rcases hv with rfl | rfl | hv
  ·rfl
  ·rfl
  ·exact ih v hv
theorem planV_get {l:List (Int × Int)}{i:Nat} (h:i<l.length):(planV l)[i*2]?=some (.int .i64 l[i].1)∧(planV l)[i*2+1]?=some (.int .i64 l[i].2):=by
 induction l generalizing i with
 | nil=>simp at h
 | cons x l ih =>
  obtain ⟨c,n⟩:=x
  cases i with
  | zero=>simp [planV]
  | succ i =>
   have:=ih (i:=i) (by simpa using h)
   have e:(i+1)*2=i*2+2:=by omega
   rw [e]
   simpa [planV] using this
theorem allocAll_cons (r:RH) (x:Int × Int) (l:List (Int × Int)):r.allocAll (x :: l)=if (r.alloc (4*x.1) x.2 0).1.2≠0 then ((r.alloc (4*x.1) x.2 0).1.2,(r.alloc (4*x.1) x.2 0).2) else RH.allocAll (r.alloc (4*x.1) x.2 0).2 l:=by
 obtain ⟨c,n⟩:=x;rfl
theorem bootRH_eq (words oops:Int):bootH (((bootR0 words oops).allocAll bootPlan).2)=bootRH words oops:=rfl
theorem boot_objs {words oops:Int} (hz:((bootR0 words oops).allocAll bootPlan).1=0):((bootR0 words oops).allocAll bootPlan).2.objs=bootL:=by
 rw [allocAll_grow bootPlan (r:=bootR0 words oops) rfl hz];rfl
theorem boot_root {words oops:Int} (hw:WFH (bootRH words oops)) (hz:((bootR0 words oops).allocAll bootPlan).1=0):((bootRH words oops).clsAt 19).2=0:=by
 obtain ⟨x,hx,_⟩:=bootArr hw hz (p:=(19,[80,72,72,72,4,8,12,4])) (by decide)
 unfold RH.clsAt
 simp only at hx
 rw [hx]
attribute [local irreducible] bootRH bootH bootL
section
variable {H:Heap}{Q:QT}
theorem bootPlan_b:∀ i (hi:i<bootPlan.length),1≤(bootPlan[i]).1∧(bootPlan[i]).1≤65536:=by decide
theorem kboot_k {words oops:Int} (hk:Kinds H) (hbad:¬ (0≤words∧words≤1048576∧0≤oops∧oops≤65536)→Q (.tuple #[.pointer none,.int .i64 1]) H)
  (h1:(0≤words∧words≤1048576∧0≤oops∧oops≤65536)→((bootR0 words oops).allocAll bootPlan).1≠0→∀ H',Fr [] H H'→Q (.tuple #[.pointer none,.int .i64 ((bootR0 words oops).allocAll bootPlan).1]) H')
  (h2:(0≤words∧words≤1048576∧0≤oops∧oops≤65536)→((bootR0 words oops).allocAll bootPlan).1=0→∀ b F H',PK H' b F (bootS words oops) bootT→Fr [] H H'→(∀ x∈F,H.size≤x)→Q (.tuple #[.pointer (some ⟨b,0,none⟩),.int .i64 0]) H') :
  callS PP n_k10 #[.int .i64 words,.int .i64 oops] Q H:=by
 have hs1:sliceInfo PP 92=some (2,16,some (.agg #[.int .i64 0,.int .i64 0])):=by kernel_rfl
 apply k10_ok
 unfold k10 A0 iV wW pV lV cS;dsimp only [shH]
 refine psNew_c hk (fun hb=>⟨_,_,rfl,hbad hb⟩) fun hg sb F1 H1 hS1 hf1 hF1=>⟨_,_,rfl,?_⟩
 simp only [show ((0:Int) != 0)=false from rfl,cond_false]
 have h1:=h1 hg
 have h2:=h2 hg
 refine ptNew_c (fun hb=>absurd ⟨by decide,by decide⟩ hb) fun _ tb F2 H2 hT2 hf2 hF2=>⟨_,_,rfl,?_⟩
 simp only [show ((0:Int) != 0)=false from rfl,cond_false]
 have hf12:=hf1.trans hf2
 have hS2:=hS1.nilfr hf2
 have hgl:=hk.lt
 have hK3:PK (H2.push (.cells #[.pointer (some ⟨sb,0,none⟩),.pointer (some ⟨tb,0,none⟩)] 90)) H2.size (H2.size :: (F1++F2)) ⟨bootR0 words oops,0,[],false,0,0,0⟩ ⟨4096,[]⟩:=by
  have fp:=Fr.push [] H2 (.cells #[.pointer (some ⟨sb,0,none⟩),.pointer (some ⟨tb,0,none⟩)] 90)
  have l1:=hS2.lt
  have l1':=hS1.lt
  have l2:=hT2.lt
  refine ⟨sb,tb,F1,F2,rfl,fun hm=>absurd (l1 _ hm) (Nat.lt_irrefl _),fun hm=>absurd (l2 _ hm) (Nat.lt_irrefl _),fun x hx hx2=>?_,?_,fun hm=>?_,Blk.new _ _ _,hS2.nilfr fp,hT2.fr fp (Disj.nil_right _)⟩
  ·have:=hF2 x hx2;have:=l1' x hx;omega
  ·have:=hf12.1;omega
  ·have:=hF2 _ hm;have:=hf1.1;omega
 have hf3:Fr [] H (H2.push (.cells #[.pointer (some ⟨sb,0,none⟩),.pointer (some ⟨tb,0,none⟩)] 90)):=hf12.more
 have hF3:∀ x∈H2.size :: (F1++F2),H.size≤x:=fun x hx=>by
  rcases List.mem_cons.1 hx with rfl | hx
  ·exact hf12.1
  ·rcases List.mem_append.1 hx with hx | hx
   ·exact hF1 x hx
   ·exact Nat.le_trans hf1.1 (hF2 x hx)
 generalize hH3:(H2.push (.cells #[.pointer (some ⟨sb,0,none⟩),.pointer (some ⟨tb,0,none⟩)] 90))=H3 at hK3 hf3 ⊢
 generalize (H2.size :: (F1++F2))=F3 at hK3 hF3
 apply k48_ok
 unfold k48 A0 sV lV
 refine ⟨_,_,_,rfl,?_⟩
 have hlt3:=hK3.lt
 have hO0:Own 2 (H3.push (.cells (planV [(5,0),(6,0),(7,0)]).toArray 91)) (some ⟨H3.size,0,none⟩) 3 3 (planV [(5,0),(6,0),(7,0)]) [H3.size]:=⟨rfl,Nat.le_refl _,.inr ⟨H3.size,_,rfl,rfl,Blk.new _ _ _,rfl,rfl⟩⟩
 have fq:Fr [] H3 (H3.push (.cells (planV [(5,0),(6,0),(7,0)]).toArray 91)):=Fr.push _ _ _
 generalize hH4:(H3.push (.cells (planV [(5,0),(6,0),(7,0)]).toArray 91))=H4 at hO0 fq
 have hO1:Own 2 (H4.push (.cells (strsV kNames).toArray 9)) (some ⟨H3.size,0,none⟩) 3 3 (planV [(5,0),(6,0),(7,0)]) [H3.size]:=hO0.fr (Fr.push [] _ _) (by simp)
 have fr1:Fr [] H3 (H4.push (.cells (strsV kNames).toArray 9)):=fq.more
 show ∃(I11:List Value→Heap→Prop) (μ11:List Value→Heap→Nat),I11 [.slice (some ⟨H3.size,0,none⟩) 3 3,.int .i64 0] ((H3.push (.cells (planV [(5,0),(6,0),(7,0)]).toArray 91)).push (.cells (strsV kNames).toArray 9))∧_
 rw [hH4]
 generalize (H4.push (.cells (strsV kNames).toArray 9))=H5 at hO1 fr1 ⊢
 refine ⟨fun w H'=>∃(i:Nat) (a:Option Addr) (l c:Nat) (G:Foot),w=[.slice a l c,.int .i64 i]∧i≤14∧Own 2 H' a l c (planV ([(5,0),(6,0),(7,0)]++List.replicate i (12,7))) G∧Fr [] H3 H'∧(∀ x∈G,H3.size≤x),fun w _=>match w with
  | [_,.int _ i]=>(14-i).toNat
  | _=>0,⟨0,_,_,_,_,rfl,by decide,hO1,fr1,by simp⟩,?_⟩
 rintro w H6 ⟨i,a,l,c,G,rfl,hi,ho,hf6,hG⟩ _
 have hl:l=3+i:=by have:=ho.len;rw [planV_len] at this;simp at this;omega
 refine ⟨_,_,_,_,rfl,?_⟩
 rw [cond_dec]
 refine ite_i (fun hlt=>?_) fun hlt=>?_
 ·have e1:IntKind.wrap .i64 ((i:Int)+1)=((i+1:Nat):Int):=by rw [wrap64_id (by omega) (by omega)];omega
  refine evS_append1 hs1 rfl (by kernel_rfl) ho rfl (by simp [oneC]) (by omega) (by decide) (by decide) fun a' c' G2 H7 g1 g2 g3=>⟨_,_,_,rfl,?_⟩
  obtain ⟨f7,hG7⟩:=Up.fresh hf6 g2 hG
  rw [e1]
  refine ⟨⟨i+1,a',l+1,c',G2,rfl,by omega,?_,f7,hG7⟩,by simp;omega⟩
  rw [List.replicate_succ',←List.append_assoc,planV_append]
  exact g1
 have hi14:i=14:=by omega
 subst hi14
 have fl:Fr [] H6 (H6.push (.cells (planV [(11,0),(11,8),(11,14)]).toArray 91)):=Fr.push _ _ _
 refine evS_append (l2:=3) (ys:=planV [(11,0),(11,8),(11,14)]) hs1 rfl (by kernel_rfl) (ho.fr fl (by simp)) ⟨rfl,(fun h=>by cases h),fun p hp k hk'=>?_⟩ (planV_one _) (by omega) (by decide) (by decide) fun a' c' G2 H7 g1 g2 g3=>⟨_,_,_,rfl,?_⟩
 ·cases hp
  rw [add_none,Nat.zero_add]
  exact ((Blk.new H6 (planV [(11,0),(11,8),(11,14)]).toArray 91).cell k).trans (by simp)
 obtain ⟨f7,hG7⟩:=Up.fresh (hf6.trans fl) g2 hG
 rw [←planV_append] at g1
 have ep:[(5,0),(6,0),(7,0)]++List.replicate 14 (12,7)++[(11,0),(11,8),(11,14)]=bootPlan:=rfl
 rw [ep] at g1
 subst hl
 have hr7:Rd 2 H7 a' 20 (planV bootPlan):=g1.rd
 have ho7:Out H7 a' F3:=fun p hp=>by
  have hlt:=g1.lt
  rcases g1.2.2 with ⟨h3,_⟩ | ⟨b',cs,h3,h4,_⟩
  ·rw [h3] at hp;cases hp
  ·rw [h3] at hp;cases hp
   have hb':b'∈G2:=by rw [h4];simp
   exact ⟨hlt _ hb',fun hm=>by have h5:=hG7 _ hb';have h6:=hlt3 _ hm;simp only at h6;omega⟩
 have hK7:=hK3.nil f7
 have hc3:cellH H3 ⟨H2.size,0,none⟩=some (.pointer (some ⟨sb,0,none⟩)):=by rw [←hH3];exact (Blk.new H2 _ _).cell 0
 have hc7:cellH H7 ⟨H2.size,0,none⟩=some (.pointer (some ⟨sb,0,none⟩)):=by rw [cell_fr f7 (by simp) (cell_lt hc3)];exact hc3
 have hf7:=hf3.trans f7
 have h20:bootPlan.length=20:=rfl
 refine ⟨fun w H'=>∃(k:Nat) (r:RH) (st:List Int) (F':Foot),w=[.int .i64 k]∧k≤20∧PK H' H2.size F' ⟨r,0,st,false,0,0,0⟩ ⟨4096,[]⟩∧Up F3 H7 F' H'∧st.length=k∧cellH H' ⟨H2.size,0,none⟩=some (.pointer (some ⟨sb,0,none⟩))∧r.allocAll (bootPlan.drop k)=(bootR0 words oops).allocAll bootPlan,fun w _=>match w with
  | [.int _ k]=>(20-k).toNat
  | _=>0,⟨0,_,_,_,rfl,by decide,hK7,Up.refl _ _,rfl,hc7,rfl⟩,?_⟩
 rintro w H8 ⟨k,r,st,F8,rfl,hk20,hK8,hu8,hst,hcb,hall⟩ _
 refine ⟨_,rfl,?_⟩
 rw [cond_dec]
 refine ite_i (fun hlt=>?_) fun hlt=>?_
 ·have hkl:k<bootPlan.length:=by omega
  have e1:IntKind.wrap .i64 ((k:Int)+1)=((k+1:Nat):Int):=by rw [wrap64_id (by omega) (by omega)];omega
  have hr8:Rd 2 H8 a' 20 (planV bootPlan):=hr7.fr' hu8.1 fun p hp=>(ho7 p hp).2
  have hpb:=bootPlan_b k hkl
  obtain ⟨q0,q1⟩:=planV_get hkl
  have ed:bootPlan.drop k=bootPlan[k] :: bootPlan.drop (k+1):=List.drop_eq_getElem_cons hkl
  rw [ed] at hall
  have hex:∃ q,a'=some q:=by
   cases ha:a' with
   | none=>have:=hr8.2.1 ha;omega
   | some q=>exact ⟨q,rfl⟩
  obtain ⟨q,rfl⟩:=hex
  have c0:=hr8.2.2 q rfl (k*2) (by omega)
  have c1:=hr8.2.2 q rfl (k*2+1) (by omega)
  rw [q0] at c0
  rw [q1] at c1
  have eadd:(q.add (k*2)).add 1=q.add (k*2+1):=Addr.add_add _ _ _
  refine ⟨⟨by omega,by omega⟩,_,rfl,_,by rw [Int.toNat_natCast];exact c0,_,by rw [Int.toNat_natCast,eadd];exact c1,?_⟩
  have fpx:Fr [] H8 (H8.push (.cells #[.int .i64 0,.int .i64 0] 91)):=Fr.push _ _ _
  have hBx:=Blk.new H8 #[.int .i64 0,.int .i64 0] 91
  generalize (H8.push (.cells #[.int .i64 0,.int .i64 0] 91))=H9 at fpx hBx ⊢
  have hB9:=(hBx.set 0 (.int .i64 (bootPlan[k]).1)).set 1 (.int .i64 (bootPlan[k]).2)
  have f9:Fr [] H8 (setH (setH H9 ⟨H8.size,0,none⟩ (.int .i64 (bootPlan[k]).1)) ⟨H8.size,1,none⟩ (.int .i64 (bootPlan[k]).2)):=Fr.late (Fr.late fpx (Nat.le_refl _)) (Nat.le_refl _)
  refine ⟨hBx.wr (o:=0) (by simp),(hBx.set 0 _).wr (o:=1) (by simp),?_⟩
  show ∃ n25:Int,cellH (setH (setH H9 ⟨H8.size,0,none⟩ (.int .i64 (bootPlan[k]).1)) ⟨H8.size,1,none⟩ (.int .i64 (bootPlan[k]).2)) ⟨H8.size,0,none⟩=some (.int .i64 n25)∧∃ n26:Int,cellH (setH (setH H9 ⟨H8.size,0,none⟩ (.int .i64 (bootPlan[k]).1)) ⟨H8.size,1,none⟩ (.int .i64 (bootPlan[k]).2)) ⟨H8.size,1,none⟩=some (.int .i64 n26)∧callS PP n_k20 _ _ (setH (setH H9 ⟨H8.size,0,none⟩ (.int .i64 (bootPlan[k]).1)) ⟨H8.size,1,none⟩ (.int .i64 (bootPlan[k]).2))
  generalize (setH (setH H9 ⟨H8.size,0,none⟩ (.int .i64 (bootPlan[k]).1)) ⟨H8.size,1,none⟩ (.int .i64 (bootPlan[k]).2))=HA at hB9 f9 ⊢
  have hKA:=hK8.nil f9
  obtain ⟨sbA,FA,hcA,hSA,hsubA,hbA,hupA,hupA2⟩:=hKA.sp
  have esb:sbA=sb:=by rw [cell_fr f9 (by simp) (cell_lt hcb),hcb] at hcA;simpa using hcA.symm
  subst esb
  refine ⟨_,hB9.cell 0,_,hB9.cell 1,psHeap_c hSA fun hb FB hRB hsubB hupB=>⟨_,rfl,⟨⟨hB9.cell 1,trivial⟩,⟨hB9.cell 0,trivial⟩,trivial⟩,object_c hpb ⟨_,rfl,⟨⟨hB9.cell 1,trivial⟩,trivial⟩,alloc_c hRB fun HB' hRB' hfB=>⟨_,_,rfl,trivial,?_⟩⟩⟩⟩
  have hSB:=hupB HB' _ hRB' hfB
  have hKB:=hupA2 HB' _ hSB (hfB.mono hsubB)
  have huB:Up F8 HA F8 HB':=⟨(hfB.mono hsubB).mono hsubA,fun _ h=>.inl h⟩
  have hu8B:Up F3 H7 F8 HB':=hu8.trans ((Up.of_nil f9).trans huB)
  rw [allocAll_cons] at hall
  rw [bneI,cond_dec]
  refine ite_i (fun he=>?_) fun he=>?_
  ·rw [if_pos he] at hall
   have e0:((bootR0 words oops).allocAll bootPlan).1=(r.alloc (4*(bootPlan[k]).1) (bootPlan[k]).2 0).1.2:=by rw [←hall]
   have:=h1 (by rw [e0];exact he) HB' ?_
   ·rw [e0] at this;exact this
   ·exact (Up.fresh hf7 hu8B hF3).1
  rw [if_neg he] at hall
  have hz:(r.alloc (4*(bootPlan[k]).1) (bootPlan[k]).2 0).1.2=0:=Classical.byContradiction he
  have hob:=alloc_ok hK8.wfs.h hz
  refine object_c ⟨hob.2.1,hob.2.2.1⟩ ⟨_,rfl,?_⟩
  have fpy:Fr [] HB' (HB'.push (.cells #[.int .i64 (4*(r.alloc (4*(bootPlan[k]).1) (bootPlan[k]).2 0).1.1)] 36)):=Fr.push _ _ _
  have hKC:=hKB.nil fpy
  obtain ⟨sbC,FC,hcC,hSC,hsubC,hbC,hupC,_⟩:=hKC.sp
  have hcB':cellH HB' ⟨H2.size,0,none⟩=some (.pointer (some ⟨sbA,0,none⟩)):=by rw [cell_fr hfB (fun hm=>hbA (hsubB _ hm)) (cell_lt hcA)];exact hcA
  have hcP:=cell_fr fpy (b:=H2.size) (o:=0) (by simp) (cell_lt hcB')
  rw [hcB'] at hcP
  have esb:sbC=sbA:=by rw [hcP] at hcC;simpa using hcC.symm
  subst esb
  have hkw:=keepW_one (s:=⟨(r.alloc (4*(bootPlan[k]).1) (bootPlan[k]).2 0).2,0,st,false,0,0,0⟩) (isW_obj hob.2.1 hob.2.2.1) (by show st.length<65536;omega)
  refine psKeep_c hSC (rd_new (cs:=[4*(r.alloc (4*(bootPlan[k]).1) (bootPlan[k]).2 0).1.1])) (by decide) fun HD FD hSD huD=>⟨_,rfl,?_⟩
  rw [hkw] at hSD ⊢
  simp only [show ((0:Int) != 0)=false from rfl,cond_false]
  obtain ⟨FE,hKE,huE⟩:=hupC HD FD _ hSD huD
  rw [e1]
  exact ⟨⟨k+1,_,_,FE,rfl,by omega,hKE,hu8B.trans ((Up.of_nil fpy).trans huE),by simp [hst],by rw [cell_fr huD.1 hbC (cell_lt hcC)];exact hcC,hall⟩,by simp;omega⟩
 ·have hk20':k=20:=by omega
  subst hk20'
  have ez:bootPlan.drop 20=[]:=rfl
  rw [ez] at hall
  have hall':(0,r)=(bootR0 words oops).allocAll bootPlan:=hall
  have hz:((bootR0 words oops).allocAll bootPlan).1=0:=by rw [←hall']
  have hrr:r=((bootR0 words oops).allocAll bootPlan).2:=by rw [←hall']
  have hbH:bootH r=bootRH words oops:=by rw [hrr];exact bootRH_eq _ _
  have hro:r.objs=bootL:=by rw [hrr];exact boot_objs hz
  obtain ⟨sb8,F9,hc8,hS8,_⟩:=hK8.sp
  obtain ⟨hb8,_,_,hcx,_⟩:=hS8.upd
  have esb8:sb8=sb:=by rw [hcb] at hc8;simpa using hc8.symm
  subst esb8
  refine fill_k hK8 ⟨hc8,hcx⟩ (fun j x hx=>?_) fun H9 FA hKA hBA huA=>⟨rfl,?_⟩
  ·rw [hro] at hx
   exact of_decide_eq_true (List.all_eq_true.1 bootL_fmt x (objAt_some hx).1)
  have hKA':PK H9 H2.size FA ⟨bootRH words oops,0,st,false,0,0,0⟩ bootT:=by rw [←hbH];exact hKA
  obtain ⟨sbA,F10,hcA,hSA,hsubA,hbA,_,hupA⟩:=hKA'.sp
  have esb:sbA=sb8:=by have:=hBA.1;rw [hcA] at this;simpa using this
  subst esb
  have hwf:WFH (bootRH words oops):=hKA'.wfs.h
  have hcl:((bootRH words oops).clsAt 19).2=0:=boot_root hwf hz
  refine psCrown_c hSA fun HB hSB hfB=>⟨_,rfl,?_⟩
  have ecr:(SP.crown ⟨bootRH words oops,0,st,false,0,0,0⟩ 19)=(0,⟨bootRH words oops,19,st,false,0,0,0⟩):=by
   unfold SP.crown
   rw [if_neg (by simpa using hcl)]
  rw [ecr] at hSB
  have hKB:=hupA HB _ hSB hfB
  obtain ⟨sbB,F11,hcB,hSB',hsubB,_,_,hupB⟩:=hKB.sp
  have esb:sbB=sbA:=by rw [cell_fr hfB hbA (cell_lt hcA),hcA] at hcB;simpa using hcB.symm
  subst esb
  refine psDrop_c hSB' ⟨by decide,by decide⟩ fun HC hSC hfC=>⟨_,rfl,?_⟩
  have edr:(SP.drop ⟨bootRH words oops,19,st,false,0,0,0⟩ ((20:Nat):Int))=(0,bootS words oops):=by
   unfold SP.drop
   rw [if_neg (by simp only [hst];decide)]
   simp [hst,bootS]
  have e20:((3+14+3:Nat):Int)=((20:Nat):Int):=rfl
  rw [edr] at hSC
  have hKC:=hupB HC _ hSC hfC
  have huC:Up F3 H7 FA HC:=(hu8.trans huA).trans ⟨(hfB.mono hsubA).trans (hfC.mono hsubB),fun _ h=>.inl h⟩
  have:=Up.fresh hf7 huC hF3
  exact h2 hz H2.size FA HC hKC this.1 this.2
end
end Go.Proofs.YtmkdkplipbocjaaGreatDoor
namespace Go.Proofs.YtmkdkplipbocjaaGreatDoor
open Kw
def NamesAt (H:Heap):Prop:=∀ i (hi:i<kNames.length),cellH H ⟨g_kilnref13_Names,i,none⟩=some (.string kNames[i])
theorem NamesAt.fr {H H':Heap}{F:Foot} (h:NamesAt H) (hf:Fr F H H') (hn:g_kilnref13_Names∉F):NamesAt H':=fun i hi=>by
 rw [cell_fr hf hn (cell_lt (h i hi))];exact h i hi
theorem NamesAt.lt {H:Heap} (h:NamesAt H):g_kilnref13_Names<H.size:=cell_lt (h 0 (by decide))
theorem lay8 (x:RH):x.lay 19 0 [80,72,72,72,4,8,12,4]=((x.lay 19 0 fillR).put 19 7 4).2:=rfl
theorem boot_put7 (w o m b t:Int):((bootH ⟨w,o,m,b,t,bootL⟩).put 19 7 4).2=bootH ⟨w,o,m,b,t,bootL⟩:=by kernel_rfl
theorem boot_lay8 {words oops:Int} (hz:((bootR0 words oops).allocAll bootPlan).1=0):(fillN ((bootR0 words oops).allocAll bootPlan).2 14).lay 19 0 [80,72,72,72,4,8,12,4]=bootRH words oops:=by
 have e:((bootR0 words oops).allocAll bootPlan).2=⟨words,oops,0,20,0,bootL⟩:=by
  rw [allocAll_grow bootPlan (r:=bootR0 words oops) rfl hz]
  kernel_rfl
 have e2:bootRH words oops=bootH ⟨words,oops,0,20,0,bootL⟩:=by unfold bootRH;rw [e]
 rw [lay8,e2,e]
 exact boot_put7 words oops 0 20 0
attribute [local irreducible] bootRH bootH bootL
section
variable {H:Heap}{Q:QT}
theorem row_r {k:Nat} (hk:k<bootPlan.length) (h:Q (.tuple #[.int .i64 (bootPlan[k]).1,.int .i64 (bootPlan[k]).2]) H):callS PP n_k57 #[.int .i64 ((k:Int)+1)] Q H:=by
 apply k57_ok
 unfold k57 iV wW
 have h20:k<20:=hk
 rcases k with _ | _ | _ | _ | _ | _ | _ | _ | _ | _ | _ | _ | _ | _ | _ | _ | _ | _ | _ | _ | k
 all_goals first | exact h | omega
theorem boot_r {words oops:Int} (hN:NamesAt H) (hbad:¬ (0≤words∧words≤1048576∧0≤oops∧oops≤65536)→Q (.tuple #[.pointer none,.int .i64 1]) H)
  (h1:(0≤words∧words≤1048576∧0≤oops∧oops≤65536)→((bootR0 words oops).allocAll bootPlan).1≠0→∀ H',Fr [] H H'→Q (.tuple #[.pointer none,.int .i64 ((bootR0 words oops).allocAll bootPlan).1]) H')
  (h2:(0≤words∧words≤1048576∧0≤oops∧oops≤65536)→((bootR0 words oops).allocAll bootPlan).1=0→∀ b F H',RK H' b F (bootS words oops) bootT→Fr [] H H'→(∀ x∈F,H.size≤x)→Q (.tuple #[.pointer (some ⟨b,0,none⟩),.int .i64 0]) H') :
  callS PP n_k11 #[.int .i64 words,.int .i64 oops] Q H:=by
 have h14:kNames.length=14:=rfl
 apply k11_ok
 unfold k11 A0 iV wW pV sV lV cS
 refine rsNew_c (fun hb=>⟨_,_,rfl,hbad hb⟩) fun hg sb F1 H1 hS1 hf1 hF1=>⟨_,_,rfl,?_⟩
 simp only [show ((0:Int) != 0)=false from rfl,cond_false]
 have h1:=h1 hg
 have h2:=h2 hg
 refine rtNew_c (fun hb=>absurd ⟨by decide,by decide⟩ hb) fun _ H2 hT2 hf2=>⟨_,_,rfl,?_⟩
 have hf12:=hf1.trans hf2
 have hS2:=hS1.fr hf2 (Disj.nil_right _)
 have hK3:RK (H2.push (.cells #[.pointer (some ⟨sb,0,none⟩),.pointer (some ⟨H1.size,0,none⟩)] 104)) H2.size (H2.size :: (F1++[H1.size])) ⟨bootR0 words oops,0,[],false,0,0,0⟩ ⟨4096,[]⟩:=by
  have fp:=Fr.push [] H2 (.cells #[.pointer (some ⟨sb,0,none⟩),.pointer (some ⟨H1.size,0,none⟩)] 104)
  have l1:=hS2.lt
  have l1':=hS1.lt
  have l2:=hT2.lt
  exact ⟨sb,H1.size,F1,[H1.size],rfl,fun hm=>absurd (l1 _ hm) (Nat.lt_irrefl _),fun hm=>absurd (l2 _ hm) (Nat.lt_irrefl _),fun x hx hx2=>by simp only [List.mem_singleton] at hx2;have:=l1' x hx;omega,Blk.new _ _ _,hS2.fr fp (Disj.nil_right _),hT2.fr fp (Disj.nil_right _)⟩
 have hf3:Fr [] H (H2.push (.cells #[.pointer (some ⟨sb,0,none⟩),.pointer (some ⟨H1.size,0,none⟩)] 104)):=hf12.more
 have hF3:∀ x∈H2.size :: (F1++[H1.size]),H.size≤x:=fun x hx=>by
  rcases List.mem_cons.1 hx with rfl | hx
  ·exact hf12.1
  ·rcases List.mem_append.1 hx with hx | hx
   ·exact hF1 x hx
   ·simp only [List.mem_singleton] at hx;rw [hx];exact hf1.1
 have hc0:cellH (H2.push (.cells #[.pointer (some ⟨sb,0,none⟩),.pointer (some ⟨H1.size,0,none⟩)] 104)) ⟨H2.size,0,none⟩=some (.pointer (some ⟨sb,0,none⟩)):=(Blk.new H2 _ _).cell 0
 have hc1:cellH (H2.push (.cells #[.pointer (some ⟨sb,0,none⟩),.pointer (some ⟨H1.size,0,none⟩)] 104)) ⟨H2.size,1,none⟩=some (.pointer (some ⟨H1.size,0,none⟩)):=(Blk.new H2 _ _).cell 1
 generalize (H2.push (.cells #[.pointer (some ⟨sb,0,none⟩),.pointer (some ⟨H1.size,0,none⟩)] 104))=H3 at hK3 hf3 hc0 hc1 ⊢
 generalize (H2.size :: (F1++[H1.size]))=F3 at hK3 hF3
 have h20:bootPlan.length=20:=rfl
 have hgF:∀ {H':Heap}{F':Foot},Up F3 H3 F' H'→g_kilnref13_Names∉F':=fun {H' F'} hu hm=>by
  have hlt:=hN.lt
  rcases hu.2 _ hm with h5 | h5
  ·have:=hF3 _ h5;omega
  ·have:=hf3.1;omega
 refine ⟨fun w H'=>∃(k:Nat) (r:RH) (F':Foot),w=[.int .i64 ((k:Int)+1)]∧k≤20∧RK H' H2.size F' ⟨r,0,[],false,0,0,0⟩ ⟨4096,[]⟩∧Up F3 H3 F' H'∧cellH H' ⟨H2.size,0,none⟩=some (.pointer (some ⟨sb,0,none⟩))∧cellH H' ⟨H2.size,1,none⟩=some (.pointer (some ⟨H1.size,0,none⟩))∧r.allocAll (bootPlan.drop k)=(bootR0 words oops).allocAll bootPlan,fun w _=>match w with
  | [.int _ k]=>(21-k).toNat
  | _=>0,⟨0,_,_,rfl,by decide,hK3,Up.refl _ _,hc0,hc1,rfl⟩,?_⟩
 rintro w H8 ⟨k,r,F8,rfl,hk20,hK8,hu8,hd0,hd1,hall⟩ _
 refine ⟨_,rfl,?_⟩
 rw [cond_dec]
 refine ite_i (fun hlt=>?_) fun hlt=>?_
 ·have hkl:k<bootPlan.length:=by omega
  have e1:IntKind.wrap .i64 ((k:Int)+1+1)=((k+1:Nat):Int)+1:=by rw [wrap64_id (by omega) (by omega)];omega
  have hpb:=bootPlan_b k hkl
  have ed:bootPlan.drop k=bootPlan[k] :: bootPlan.drop (k+1):=List.drop_eq_getElem_cons hkl
  rw [ed,allocAll_cons] at hall
  obtain ⟨sb',hb,FB,hcs,c0,hRB,hsub,hbn,hup⟩:=hK8.hp
  have esb:sb'=sb:=by rw [hd0] at hcs;simpa using hcs.symm
  subst esb
  refine row_r hkl ⟨_,_,rfl,_,rfl,_,c0,refObj_c ⟨by omega,by omega⟩ ⟨_,rfl,⟨⟨c0,trivial⟩,trivial⟩,ralloc_c hRB fun H9 FB' hR9 hu9=>⟨_,_,rfl,trivial,?_⟩⟩⟩
  obtain ⟨F9,hK9,hu9'⟩:=hup H9 FB' _ hR9 hu9
  have hbl:=hK8.lt _ hK8.bmem
  rw [bneI,cond_dec]
  refine ite_i (fun he=>?_) fun he=>?_
  ·rw [if_pos he] at hall
   have e0:((bootR0 words oops).allocAll bootPlan).1=(r.alloc (4*(bootPlan[k]).1) (bootPlan[k]).2 0).1.2:=by rw [←hall]
   have:=h1 (by rw [e0];exact he) H9 (Up.fresh hf3 (hu8.trans hu9') hF3).1
   rw [e0] at this;exact this
  rw [if_neg he] at hall
  rw [e1]
  exact ⟨⟨k+1,_,F9,rfl,by omega,hK9,hu8.trans hu9',by rw [cell_fr hu9.1 hbn hbl];exact hd0,by rw [cell_fr hu9.1 hbn hbl];exact hd1,hall⟩,by simp;omega⟩
 have hk20':k=20:=by omega
 subst hk20'
 have ez:bootPlan.drop 20=[]:=rfl
 rw [ez] at hall
 have hall':(0,r)=(bootR0 words oops).allocAll bootPlan:=hall
 have hz:((bootR0 words oops).allocAll bootPlan).1=0:=by rw [←hall']
 have hrr:r=((bootR0 words oops).allocAll bootPlan).2:=by rw [←hall']
 have hbH:bootH r=bootRH words oops:=by rw [hrr];exact bootRH_eq _ _
 have hNm:∀ {H':Heap}{F':Foot},Up F3 H3 F' H'→NamesAt H':=fun {H' F'} hu=>by
  have hN3:=hN.fr hf3 (by simp)
  exact hN3.fr hu.1 (fun hm=>by have:=hF3 _ hm;have:=hN.lt;omega)
 refine ⟨fun w H'=>∃(i:Nat) (F':Foot),w=[.int .i64 i]∧i≤14∧RK H' H2.size F' ⟨fillN r i,0,[],false,0,0,0⟩ ⟨4096,kNames.take i⟩∧Up F3 H3 F' H'∧cellH H' ⟨H2.size,0,none⟩=some (.pointer (some ⟨sb,0,none⟩))∧cellH H' ⟨H2.size,1,none⟩=some (.pointer (some ⟨H1.size,0,none⟩)),fun w _=>match w with
  | [.int _ i]=>(14-i).toNat
  | _=>0,⟨0,F8,rfl,by decide,hK8,hu8,hd0,hd1⟩,?_⟩
 rintro w H9 ⟨i,F9,rfl,hi,hK9,hu9,hx0,hx1⟩ _
 refine ⟨_,rfl,?_⟩
 rw [cond_dec]
 refine ite_i (fun hlt2=>?_) fun hlt2=>?_
 ·have hlt':i<kNames.length:=by omega
  have hN9:=hNm hu9 i hlt'
  have e1:IntKind.wrap .i64 ((i:Int)+1)=((i+1:Nat):Int):=by rw [wrap64_id (by omega) (by omega)];omega
  have e1':IntKind.wrap .i64 ((i:Int)+1)=(i:Int)+1:=wrap64_id (by omega) (by omega)
  have e4:IntKind.wrap .i64 (4+(i:Int))=4+(i:Int):=wrap64_id (by omega) (by omega)
  obtain ⟨tb,FT,hct,hT,hsubT,hbT,hupT⟩:=hK9.tb
  have etb:tb=H1.size:=by rw [hx1] at hct;simpa using hct.symm
  subst etb
  refine ⟨⟨by omega,hlt2⟩,_,by rw [add_none,Int.toNat_natCast,Nat.mul_one,Nat.zero_add];exact hN9,tadd_c hT fun HA FT' hTA huA=>⟨_,_,rfl,?_⟩⟩
  rw [bootAdd hlt'] at hTA
  obtain ⟨FA,hKA,huA'⟩:=hupT HA FT' _ hTA huA
  have hbl9:=hK9.lt _ hK9.bmem
  have hy0:cellH HA ⟨H2.size,0,none⟩=some (.pointer (some ⟨sb,0,none⟩)):=by rw [cell_fr huA.1 hbT hbl9];exact hx0
  have hy1:cellH HA ⟨H2.size,1,none⟩=some (.pointer (some ⟨H1.size,0,none⟩)):=by rw [cell_fr huA.1 hbT hbl9];exact hx1
  refine refObj_c (by decide) ⟨_,rfl,?_⟩
  refine ⟨fun w H'=>w=[.int .i64 (if i=0 then 4 else 16)]∧H'=HA,?_,?_⟩
  ·rw [beqI,cond_dec]
   refine ite_i (fun h0=>refObj_c (by decide) ⟨_,rfl,?_,rfl⟩) fun h0=>⟨?_,rfl⟩
   ·rw [if_pos (by omega)];rfl
   ·rw [if_neg (by omega)];rfl
  rintro w HA' ⟨rfl,rfl⟩ _
  refine ⟨_,rfl,refSym_c ⟨by omega,by omega⟩ ⟨_,rfl,refObj_c (by decide) ⟨_,rfl,refObj_c (by decide) ⟨_,rfl,refObj_c (by decide) ⟨_,rfl,refInt_c (by decide) ⟨_,rfl,?_⟩⟩⟩⟩⟩⟩
  rw [e1',e4]
  refine refInt_c ⟨by omega,by omega⟩ ⟨_,rfl,?_⟩
  have fq:=(Fr.push [] HA' (.cells (intsV (fillW i)).toArray 36))
  have hlA:=hKA.lt
  refine layB_r (hKA.nil fq) (ws:=fillW i) rd_new (fun p hp=>by cases hp;exact ⟨by simp,fun hm=>absurd (hlA _ hm) (Nat.lt_irrefl _)⟩) (by decide) fun HB FB hKB huB hce=>⟨rfl,?_⟩
  have hz0:cellH HB ⟨H2.size,0,none⟩=some (.pointer (some ⟨sb,0,none⟩)):=by rw [hce,cell_fr fq (by simp) (cell_lt hy0)];exact hy0
  have hz1:cellH HB ⟨H2.size,1,none⟩=some (.pointer (some ⟨H1.size,0,none⟩)):=by rw [hce,cell_fr fq (by simp) (cell_lt hy1)];exact hy1
  obtain ⟨sb',hb,FC,hcs,c0,hRC,hsub,hbn,hupC⟩:=hKB.hp
  have esb:sb'=sb:=by rw [hz0] at hcs;simpa using hcs.symm
  subst esb
  refine ⟨_,rfl,_,c0,refObj_c ⟨by omega,by omega⟩ ⟨_,rfl,⟨⟨c0,trivial⟩,trivial⟩,rput_c hRC fun HD hRD hfD=>⟨_,rfl,trivial,?_⟩⟩⟩
  obtain ⟨FD,hKD,huD⟩:=hupC HD FC _ hRD ⟨hfD,fun _ h=>.inl h⟩
  rw [show (i:Int)+1=((i+1:Nat):Int) by omega]
  have hbl:=hKB.lt _ hKB.bmem
  refine ⟨⟨i+1,FD,rfl,by omega,hKD,?_,by rw [cell_fr hfD hbn hbl];exact hz0,by rw [cell_fr hfD hbn hbl];exact hz1⟩,by simp;omega⟩
  exact ((hu9.trans huA').trans ((Up.of_nil fq).trans huB)).trans huD
 ·have hi14:i=14:=by omega
  subst hi14
  refine refObj_c (by decide) ⟨_,rfl,refObj_c (by decide) ⟨_,rfl,refObj_c (by decide) ⟨_,rfl,refObj_c (by decide) ⟨_,rfl,refObj_c (by decide) ⟨_,rfl,refObj_c (by decide) ⟨_,rfl,refObj_c (by decide) ⟨_,rfl,refObj_c (by decide) ⟨_,rfl,?_⟩⟩⟩⟩⟩⟩⟩⟩
  have fq:=(Fr.push [] H9 (.cells (intsV [80,72,72,72,4,8,12,4]).toArray 36))
  have hl9:=hK9.lt
  have hrd:Rd 1 (H9.push (.cells (intsV [80,72,72,72,4,8,12,4]).toArray 36)) (some ⟨H9.size,0,none⟩) 8 (intsV [80,72,72,72,4,8,12,4]):=rd_new (cs:=[80,72,72,72,4,8,12,4])
  have hRW:(fillN r 14).lay 19 0 [80,72,72,72,4,8,12,4]=bootRH words oops:=by rw [hrr];exact boot_lay8 hz
  show callS PP n_k61 _ _ (H9.push (.cells (intsV [80,72,72,72,4,8,12,4]).toArray 36))
  generalize (H9.push (.cells (intsV [80,72,72,72,4,8,12,4]).toArray 36))=H9' at fq hrd ⊢
  have hKq:=hK9.nil fq
  have hlq:Out H9' (some ⟨H9.size,0,none⟩) F9:=fun p hp=>by
   cases hp
   have h6:=hrd.2.2 _ rfl 0 (by decide)
   rw [add_none] at h6
   exact ⟨cell_lt (h6.trans (by rfl)),fun hm=>absurd (hl9 _ hm) (Nat.lt_irrefl _)⟩
  generalize ([80,72,72,72,4,8,12,4]:List Int)=W8 at hrd hRW
  generalize fillN r 14=R8 at hKq hRW
  have eT:(⟨4096,kNames.take 14⟩:TB)=bootT:=rfl
  rw [eT] at hKq
  refine layB_r hKq (ws:=W8) hrd hlq (by decide) fun HB FB hKB huB hce=>⟨rfl,?_⟩
  have hKB:RK HB H2.size FB ⟨R8.lay 19 0 W8,0,[],false,0,0,0⟩ bootT:=hKB
  rw [hRW] at hKB
  have hz0:cellH HB ⟨H2.size,0,none⟩=some (.pointer (some ⟨sb,0,none⟩)):=by rw [hce,cell_fr fq (by simp) (cell_lt hx0)];exact hx0
  obtain ⟨sb',FS,hcs,hS,hsubS,_,hupS⟩:=hKB.sp
  have esb:sb'=sb:=by rw [hz0] at hcs;simpa using hcs.symm
  subst esb
  refine rsCrown_c hS fun HC hSC hfC=>⟨_,rfl,?_⟩
  have hwf:WFH (bootRH words oops):=hKB.wfs.h
  have hcl:((bootRH words oops).clsAt 19).2=0:=boot_root hwf hz
  have ecr:(SP.crown ⟨bootRH words oops,0,[],false,0,0,0⟩ 19)=(0,bootS words oops):=by
   unfold SP.crown
   rw [if_neg (by simpa using hcl)]
   rfl
  rw [ecr] at hSC
  obtain ⟨FC,hKC,huC⟩:=hupS HC FS _ hSC ⟨hfC,fun _ h=>.inl h⟩
  have hall2:=Up.fresh hf3 ((hu9.trans ((Up.of_nil fq).trans huB)).trans huC) hF3
  exact h2 hz H2.size FC HC hKC hall2.1 hall2.2
end
end Go.Proofs.YtmkdkplipbocjaaGreatDoor
namespace Kw
open Go
structure Tight (W O:Int) (r:RH):Prop where
 words:r.words=W
 oops:r.oops=O
 cls:∀ x∈r.objs,∃ c:Int,4≤c∧c≤17∧x.cls=4*c
theorem marks_tight {W O:Int}{r:RH} (h:Tight W O r) (k:Int):Tight W O (r.marks k).2:=by
 unfold RH.marks;split
 ·exact ⟨h.words,h.oops,h.cls⟩
 ·exact h
structure Tame (v:KV):Prop where
 rest:v.rest=[72,72,4,8,12,4]
 glob:∀ p∈v.glob,p.2=4
 cls:∀ c∈v.cls,c.selA=18∧c.metA=18∧c.sels=[]∧c.mets=[]
def KV.roles2 (v:KV):List Role:=(2,[]) :: (3,[]) :: v.roles
structure K2 (W O:Int) (s:SP) (t:TB) (v:KV):Prop where
 all:KAll s t v
 tame:Tame v
 tight:Tight W O s.h
 o2:Arr s.h 2 []
 o3:Arr s.h 3 []
theorem K2.view {W O:Int}{s:SP}{t:TB}{v:KV} (h:K2 W O s t v):∀ p∈v.roles2,Arr s.h p.1 p.2:=fun p hp=>by
 simp only [KV.roles2,List.mem_cons] at hp
 rcases hp with rfl | rfl | hp
 ·exact h.o2
 ·exact h.o3
 ·exact h.all.ks.view p hp
theorem role_reach {W O:Int}{s:SP}{t:TB}{v:KV} (h:K2 W O s t v){p:Role} (hp:p∈v.roles2):Reaches s.h s.roots p.1:=by
 have hr:=h.all.ks.reach
 have hroot:=hr (19,v.rootW) (by simp [KV.roles])
 simp only [KV.roles2,List.mem_cons] at hp
 rcases hp with rfl | rfl | hp
 ·exact hroot.arr h.all.ks.view.root (by decide) (by decide) h.o2.there (by simp [KV.rootW,h.tame.rest])
 ·exact hroot.arr h.all.ks.view.root (by decide) (by decide) h.o3.there (by simp [KV.rootW,h.tame.rest])
 ·exact hr p hp
theorem K2.marks {W O:Int}{s:SP}{t:TB}{v:KV} (h:K2 W O s t v) (k:Int):K2 W O { s with h:=(s.h.marks k).2 } t v :=
 ⟨h.all.marks k,h.tame,marks_tight h.tight k,h.o2.keep (marks_keeps k) trivial,h.o3.keep (marks_keeps k) trivial⟩
theorem K2.both {W O:Int}{s:SP}{t:TB}{v:KV} (h:K2 W O s t v){r':RH} (hk:KeepsB s.h r' fun k=>Reaches s.h s.roots k∧k≠19):Arr r' 2 []∧Arr r' 3 [] :=
 ⟨h.o2.keep hk ⟨role_reach h (p:=(2,[])) (by simp [KV.roles2]),by decide⟩,h.o3.keep hk ⟨role_reach h (p:=(3,[])) (by simp [KV.roles2]),by decide⟩⟩
attribute [local irreducible] bootRH
end Kw
namespace Kw
open Go
theorem keptBut_of {W W':World}{may:MemPlace→Prop} (hf:Fr [] W.heap W'.heap) (ho:W'.os=W.os) (hout:W'.output=W.output):W.keptBut W' may:=by
 refine ⟨ho,hout,fun i hi=>?_⟩
 rw [hf.2 i hi (by simp)]
 cases h:W.heap[i]? with
 | none=>trivial
 | some o=>cases o <;> first | exact ⟨rfl,rfl,rfl,fun _ _=>rfl⟩ | exact .inr ⟨rfl,rfl⟩ | rfl
theorem post_law {H:Type}{enc:TypeId × Value→H}{P:Program}{f:Func}{s:ChangeSpec}{apart fresh handsOn:Bool}{W W':World}{args:Array Value}{v:Value}{ds gs:List (DataW H)}{before pa pv:List MemPlace}
  (hW:DataW.Whole enc P f.params.toList s.vars apart W args.toList ds gs before)
  (hres:∀ (b:Nat) (sp:Nat→Bool) (hd:Bool),DataW.TrodAll enc P W' b sp hd f.resultTypes.toList (v.resultList f.resultTypes.size) (s.fn H (ds++gs)).results [])
  (hargs:∀ sp:Nat→Bool,(∀ p∈before,sp p.block=true)→DataW.TrodAll enc P W' 0 sp true f.params.toList args.toList (s.fn H (ds++gs)).args pa)
  (hvars:∀ sp:Nat→Bool,(∀ p∈before,sp p.block=true)→DataW.TrodVars enc P W' sp s.vars (s.fn H (ds++gs)).vars pv)
  (hf:Fr [] W.heap W'.heap) (ho:W'.os=W.os) (hout:W'.output=W.output):s.post enc P f apart fresh handsOn false W args v W' :=
 ⟨ds,gs,before,[],pa,pv,hW,hres _ _ _,hargs _ (fun p hp=>by simpa using hW.lt p hp),hvars _ (fun p hp=>by simpa using hW.lt p hp),keptBut_of hf ho hout,fun h=>by cases h⟩
end Kw
namespace Go.Proofs.YtmkdkplipbocjaaGreatDoor
open Kw
theorem ownK:ownKnob Tryz.prog.godebug=none:=by kernel_rfl
theorem gNames : Tryz.prog.globalNamed "kiln/kilnref13.Names" = some g_kilnref13_Names := by kernel_rfl
theorem gKinds : Tryz.prog.globalNamed "kiln/word.kinds" = some g_word_kinds := by kernel_rfl
theorem gNamesT:(Tryz.prog.globals[g_kilnref13_Names]?).map (·.type)=some 115:=by kernel_rfl
theorem gKindsT:(Tryz.prog.globals[g_word_kinds]?).map (·.type)=some 284:=by kernel_rfl
theorem uNames:Tryz.prog.underlying 115=some (.array 14 9):=by kernel_rfl
theorem uKinds:Tryz.prog.underlying 284=some (.array 4 3):=by kernel_rfl
theorem uInt:Tryz.prog.underlying 3=some (.int .i64):=by kernel_rfl
theorem uStr:Tryz.prog.underlying 9=some .string:=by kernel_rfl
theorem cInt:Tryz.prog.cellsOf 3=1:=by kernel_rfl
theorem cStr:Tryz.prog.cellsOf 9=1:=by kernel_rfl
theorem cell_var {W:World}{n:String}{g:Nat}{cs:Array Value}{i:Nat}{v:Value} (hg:PP.globalNamed n=some g) (hv:W.var? PP n=some cs) (h:cs[i]?=some v):cellH W.heap ⟨g,i,none⟩=some v:=by
 have:=World.var?_cell hg hv i
 rw [h] at this
 exact this
open Go.Lib in
theorem names_of_laid {W:World} (h:laidMet PP Rows.classBootsRow.laid W):NamesAt W.heap:=by
 obtain ⟨g, t, cs, fuel, p, hg, ht, hv, hd⟩ := laidMet.reads h (n := "kiln/kilnref13.Names") (d := Rows.laid_kiln_kilnref13_Names) (by simp [Rows.classBootsRow])
 obtain rfl:=Option.some.inj (gNames.symm.trans hg)
 obtain rfl:=Option.some.inj (gNamesT.symm.trans ht)
 intro i hi
 have h14:i<14:=hi
 obtain ⟨fuel',d,q,he,hd'⟩:=array_elem uNames hd i h14
 rw [cStr,Nat.mul_one] at hd'
 obtain ⟨s,hcs,hx,_⟩:=DataW.trod_string uStr hd'
 obtain ⟨hdx,_⟩:=Prod.mk.inj hx
 have hc:cs.toList[i]?=some (.string s):=by
  have:=congrArg (·[0]?) hcs
  simpa [List.getElem?_take,List.getElem?_drop] using this
 have hs:s=kNames[i]:=by
  have e:some d=some (.lit (.string (kNames[i]).data.toList):DataW Unit):=by
   rw [←he]
   rcases i with _ | _ | _ | _ | _ | _ | _ | _ | _ | _ | _ | _ | _ | _ | i
   all_goals first | rfl | omega
  rw [hdx] at e
  have e2:s.data.toList=(kNames[i]).data.toList:=by simpa using e
  cases s with
  | mk sd =>
   have e3:sd=(kNames[i]).data:=Array.ext' e2
   rw [e3]
 have hf:=cell_var gNames hv (i:=i) (v:=.string s) (by rw [←hc];simp)
 rw [hs] at hf
 exact hf
open Go.Lib in
theorem kinds_of_laid {W:World} (h:laidMet PP Rows.classBootsRow.laid W):Kinds W.heap:=by
 obtain ⟨g, t, cs, fuel, p, hg, ht, hv, hd⟩ := laidMet.reads h (n := "kiln/word.kinds") (d := Rows.laid_kiln_word_kinds) (by simp [Rows.classBootsRow])
 obtain rfl:=Option.some.inj (gKinds.symm.trans hg)
 obtain rfl:=Option.some.inj (gKindsT.symm.trans ht)
 have one:∀ i (k:Int),i<4→([3,1,2,1]:List Int)[i]?=some k→cellH W.heap ⟨g_word_kinds,i,none⟩=some (.int .i64 k):=by
  intro i k hi hk
  obtain ⟨fuel',d,q,he,hd'⟩:=array_elem uKinds hd i hi
  rw [cInt,Nat.mul_one] at hd'
  obtain ⟨n,hcs,hx,_⟩:=DataW.trod_int uInt hd'
  obtain ⟨hdx,_⟩:=Prod.mk.inj hx
  have hc:cs.toList[i]?=some (.int .i64 n):=by
   have:=congrArg (·[0]?) hcs
   simpa [List.getElem?_take,List.getElem?_drop] using this
  have hs:n=k:=by
   have e:some d=some (.lit (.int .i64 k):DataW Unit):=by
    rw [←he]
    rcases i with _ | _ | _ | _ | i
    all_goals first | omega | (cases hk;rfl)
   rw [hdx] at e
   simpa using e
  have hf:=cell_var gKinds hv (i:=i) (v:=.int .i64 n) (by rw [←hc];simp)
  rw [hs] at hf
  exact hf
 exact ⟨one 0 3 (by decide) rfl,one 1 1 (by decide) rfl,one 2 2 (by decide) rfl,one 3 1 (by decide) rfl⟩
end Go.Proofs.YtmkdkplipbocjaaGreatDoor
namespace Go.Proofs.YtmkdkplipbocjaaGreatDoor
open Kw
structure Tw (H:Heap) (bp br:Nat) (Fp Fq:Foot) (s:SP) (t:TB) (v:KV):Prop where
 p:PK H bp Fp s t
 r:RK H br Fq s t
 dis:Disj Fp Fq
 gk:g_word_kinds∉Fq
 v:KAll s t v
section
variable {H:Heap}{bp br:Nat}{Fp Fq:Foot}{s:SP}{t:TB}{v:KV}{Q:QT}
theorem Tw.fr (h:Tw H bp br Fp Fq s t v){H':Heap}{G:Foot} (hf:Fr G H H') (h1:Disj Fp G) (h2:Disj Fq G) (h3:g_word_kinds∉G):Tw H' bp br Fp Fq s t v :=
 ⟨h.p.fr hf h1 h3,h.r.fr hf h2,h.dis,h.gk,h.v⟩
theorem Tw.nil (h:Tw H bp br Fp Fq s t v){H':Heap} (hf:Fr [] H H'):Tw H' bp br Fp Fq s t v:=h.fr hf (Disj.nil_right _) (Disj.nil_right _) (by simp)
theorem Tw.glt (h:Tw H bp br Fp Fq s t v):g_word_kinds<H.size:=cell_lt h.p.kinds.1
theorem Tw.r1 (h:Tw H bp br Fp Fq s t v){H1:Heap}{Fp':Foot} (hu:Up Fp H Fp' H1):RK H1 br Fq s t:=h.r.fr hu.1 h.dis.symm
theorem Tw.both (h:Tw H bp br Fp Fq s t v){H1 H2:Heap}{Fp' Fq':Foot}{s':SP}{t':TB}{v':KV} (hP:PK H1 bp Fp' s' t') (hu:Up Fp H Fp' H1) (hR:RK H2 br Fq' s' t') (hu2:Up Fq H1 Fq' H2) (hv:KAll s' t' v') :
  Tw H2 bp br Fp' Fq' s' t' v'∧Up (Fp++Fq) H (Fp'++Fq') H2:=by
 have hd1:Disj Fp' Fq:=fun x hx hm=>by
  rcases hu.2 x hx with h1 | h1
  ·exact h.dis x h1 hm
  ·have:=h.r.lt x hm;omega
 have hd2:Disj Fp' Fq':=fun x hx hm=>by
  rcases hu2.2 x hm with h1 | h1
  ·exact hd1 x hx h1
  ·have:=hP.lt x hx;omega
 have hs:=hu.1.1
 refine ⟨⟨hP.fr hu2.1 hd1 h.gk,hR,hd2,fun hm=>?_,hv⟩,⟨(hu.1.mono fun x hx=>by simp [hx]).trans (hu2.1.mono fun x hx=>by simp [hx]),fun x hx=>?_⟩⟩
 ·rcases hu2.2 _ hm with h1 | h1
  ·exact h.gk h1
  ·have:=h.glt;omega
 ·rcases List.mem_append.1 hx with hx | hx
  ·exact (hu.2 x hx).imp (fun h=>by simp [h]) id
  ·rcases hu2.2 x hx with h1 | h1
   ·exact .inl (by simp [h1])
   ·exact .inr (by omega)
theorem Outs.more {H H':Heap}{a:Option Addr}{l:Nat}{F:Foot} (h:Outs H a l F) (hs:H.size≤H'.size):Outs H' a l F:=h.imp id fun h p hp=>⟨Nat.lt_of_lt_of_le (h p hp).1 hs,(h p hp).2⟩
theorem outs_rd {a:Option Addr}{l:Nat}{F:Foot}{ys:List Value} (ho:Outs H a l F){H':Heap} (hf:Fr F H H') (hk:Rd 1 H a l ys):Rd 1 H' a l ys:=ho.rd (F':=F) ⟨hf,fun _ h=>.inl h⟩ hk
end
end Go.Proofs.YtmkdkplipbocjaaGreatDoor
namespace Go.Proofs.YtmkdkplipbocjaaGreatDoor
open Kw Go.Deep
theorem field_open {Hh:Type}{enc:TypeId × Value→Hh}{W:World}{n:Nat}{fs:Array Field}{cs:List Value}{xs:List (DataW Hh × List MemPlace)} (hlen:xs.length=fs.size)
  (h:∀ (i:Nat) (f:Field),fs[i]?=some f→DataW.trod enc PP W 0 (fun _=>true) true n f.type ((cs.drop f.offset).take (PP.cellsOf f.type))=xs[i]?){j:Nat}{t:TypeId}{off:Nat}
  (hf:(fs[j]?).map (fun f=>(f.type,f.offset))=some (t,off)) (hc:PP.cellsOf t=1):∃ y,xs[j]?=some y∧DataW.trod enc PP W 0 (fun _=>true) true n t ((cs.drop off).take 1)=some y:=by
 obtain ⟨f,hf1,hf2⟩:=Option.map_eq_some_iff.1 hf
 obtain ⟨rfl,rfl⟩:=Prod.mk.inj hf2
 have hj:j<fs.size:=by
  rcases Nat.lt_or_ge j fs.size with h1 | h1
  ·exact h1
  ·rw [Array.getElem?_eq_none h1] at hf1;cases hf1
 have hx:xs[j]?=some (xs[j]'(by omega)):=List.getElem?_eq_getElem (by omega)
 refine ⟨_,hx,?_⟩
 have:=h j f hf1
 rw [hc,hx] at this
 exact this
theorem laidOut:laidOutB PP=true:=by kernel_rfl
theorem old_same {W W':World} (hf:Fr [] W.heap W'.heap){x:MemPlace} (hx:x.block<W.heap.size):W.sameAt W' x:=by
 cases x with
 | cell b off =>
  show cellH W'.heap ⟨b,off,none⟩=cellH W.heap ⟨b,off,none⟩
  have e:W'.heap[b]?=W.heap[b]?:=hf.2 b hx (by simp)
  unfold cellH
  dsimp only
  rw [e]
 | map b=>exact hf.2 _ hx (by simp)
theorem arg_stays {Hh:Type}{enc:TypeId × Value→Hh}{W W':World} (hf:Fr [] W.heap W'.heap){t:TypeId} (hr:PP.readableRec t=true) (hrow:t<PP.types.size){v:Value}{d:DataW Hh}{p:List MemPlace}
  (h:DataW.Trod enc PP W 0 (fun _=>true) true t v d p){sp:Nat→Bool} (hs:∀ x∈p,sp x.block=true):DataW.Trod enc PP W' 0 sp true t v d p:=by
 have hlt:∀ x∈p,x.block<W.heap.size:=fun x hx=>by
  obtain ⟨n,hn⟩:=h
  exact DataW.trod_lt n _ _ _ hn x hx
 exact WideElems.Trod_stays laidOut hr hrow h (fun x hx=>old_same hf (hlt x hx)) hs
end Go.Proofs.YtmkdkplipbocjaaGreatDoor
namespace Go.Proofs.YtmkdkplipbocjaaGreatDoor
open Kw
theorem bl_irrefl:∀ l:List UInt8,Op.bytesLess l l=false
 | []=>rfl
 | a :: l=>by simp [Op.bytesLess,bl_irrefl l]
theorem bl_trans:∀ {a b c:List UInt8},Op.bytesLess a b=true→Op.bytesLess b c=true→Op.bytesLess a c=true
 | _,[],_,h,_=>by simp [Op.bytesLess] at h
 | _,_ :: _,[],_,h=>by simp [Op.bytesLess] at h
 | [],_ :: _,_ :: _,_,_=>rfl
 | x :: a,y :: b,z :: c,h1,h2=>by
  simp only [Op.bytesLess,Bool.or_eq_true,decide_eq_true_eq,Bool.and_eq_true,beq_iff_eq] at h1 h2 ⊢
  rcases h1 with h1 | ⟨rfl,h1⟩
  ·rcases h2 with h2 | ⟨rfl,_⟩
   ·exact .inl (UInt8.lt_trans h1 h2)
   ·exact .inl h1
  ·rcases h2 with h2 | ⟨rfl,h2⟩
   ·exact .inl h2
   ·exact .inr ⟨rfl,bl_trans h1 h2⟩
theorem bl_tri:∀ {a b:List UInt8},Op.bytesLess a b=false→Op.bytesLess b a=false→a=b
 | [],[],_,_=>rfl
 | [],_ :: _,h,_=>by simp [Op.bytesLess] at h
 | _ :: _,[],_,h=>by simp [Op.bytesLess] at h
 | x :: a,y :: b,h1,h2=>by
  simp only [Op.bytesLess,Bool.or_eq_false_iff,decide_eq_false_iff_not,Bool.and_eq_false_iff,beq_eq_false_iff_ne] at h1 h2
  have e:x=y:=UInt8.le_antisymm (UInt8.not_lt.1 h2.1) (UInt8.not_lt.1 h1.1)
  subst e
  have g1:Op.bytesLess a b=false:=by
   rcases h1.2 with h | h
   ·exact absurd rfl h
   ·exact h
  have g2:Op.bytesLess b a=false:=by
   rcases h2.2 with h | h
   ·exact absurd rfl h
   ·exact h
  rw [bl_tri g1 g2]
def ltS (a b:ByteArray):Prop:=Op.bytesLess a.toList b.toList=true
theorem ltS_irrefl (a:ByteArray):¬ ltS a a:=by unfold ltS;rw [bl_irrefl];simp
theorem ltS_trans {a b c:ByteArray} (h1:ltS a b) (h2:ltS b c):ltS a c:=bl_trans h1 h2
theorem ltS_tri {a b:ByteArray} (h1:¬ ltS a b) (h2:¬ ltS b a):a=b:=by
 have:=bl_tri (a:=a.toList) (b:=b.toList) (by simpa [ltS] using h1) (by simpa [ltS] using h2)
 exact strEq_iff.1 (by unfold strEq;rw [this];simp)
instance (a b:ByteArray):Decidable (ltS a b):=by unfold ltS;exact inferInstance
def posS (ts:List ByteArray) (x:ByteArray):Nat:=(ts.takeWhile fun y=>decide (ltS y x)).length
theorem posS_le (ts:List ByteArray) (x:ByteArray):posS ts x≤ts.length:=by
 unfold posS
 exact (List.takeWhile_sublist _).length_le
theorem posS_lt {ts:List ByteArray}{x:ByteArray}{j:Nat} (hj:j<posS ts x){y:ByteArray} (hy:ts[j]?=some y):ltS y x:=by
 induction ts generalizing j with
 | nil=>simp at hy
 | cons a l ih =>
  unfold posS at hj
  rw [List.takeWhile_cons] at hj
  split at hj
  ·rename_i h
   cases j with
   | zero=>simp at hy;subst hy;simpa using h
   | succ j=>exact ih (j:=j) (by unfold posS;simpa using hj) (by simpa using hy)
  ·simp at hj
theorem posS_ge {ts:List ByteArray} (hs:ts.Pairwise ltS){x:ByteArray}{j:Nat} (hj:posS ts x≤j){y:ByteArray} (hy:ts[j]?=some y):¬ ltS y x:=by
 induction ts generalizing j with
 | nil=>simp at hy
 | cons a l ih =>
  obtain ⟨h1,h2⟩:=List.pairwise_cons.1 hs
  unfold posS at hj
  rw [List.takeWhile_cons] at hj
  split at hj
  ·rename_i h
   cases j with
   | zero=>simp at hj
   | succ j=>exact ih h2 (j:=j) (by unfold posS;simpa using hj) (by simpa using hy)
  ·rename_i h
   have ha:¬ ltS a x:=by simpa using h
   cases j with
   | zero=>simp at hy;subst hy;exact ha
   | succ j =>
    have hm:y∈l:=List.mem_of_getElem? (by simpa using hy)
    exact fun hl=>ha (ltS_trans (h1 y hm) hl)
theorem posS_eq {ts:List ByteArray} (hs:ts.Pairwise ltS){x:ByteArray}{n:Nat} (hn:n≤ts.length) (h1:∀ j y,j<n→ts[j]?=some y→ltS y x) (h2:∀ j y,n≤j→ts[j]?=some y→¬ ltS y x):n=posS ts x:=by
 have hp:=posS_le ts x
 rcases Nat.lt_trichotomy n (posS ts x) with h | h | h
 ·have hl:n<ts.length:=by omega
  exact absurd (posS_lt h (List.getElem?_eq_getElem hl)) (h2 n _ (Nat.le_refl _) (List.getElem?_eq_getElem hl))
 ·exact h
 ·have hl:posS ts x<ts.length:=by omega
  exact absurd (h1 _ _ h (List.getElem?_eq_getElem hl)) (posS_ge hs (Nat.le_refl _) (List.getElem?_eq_getElem hl))
theorem srt_nodup {ts:List ByteArray} (hs:ts.Pairwise ltS):ts.Nodup:=List.Pairwise.imp (R:=ltS) (S:=fun a b=>a≠b) (fun {a b} h e=>ltS_irrefl a (by rw [←e] at h;exact h)) hs
theorem posS_mem {ts:List ByteArray} (hs:ts.Pairwise ltS){x:ByteArray}:x∈ts↔ts[posS ts x]?=some x:=by
 constructor
 ·intro hx
  obtain ⟨j,hj,e⟩:=List.getElem_of_mem hx
  have ej:ts[j]?=some x:=by rw [List.getElem?_eq_getElem hj,e]
  have h1:¬ j<posS ts x:=fun h=>ltS_irrefl x (posS_lt h ej)
  have h2:¬ posS ts x<j:=fun h=>by
   have hl:posS ts x<ts.length:=by omega
   have h3:=posS_ge hs (Nat.le_refl _) (List.getElem?_eq_getElem hl)
   have h4:=(List.pairwise_iff_getElem.1 hs) (posS ts x) j hl hj h
   rw [e] at h4
   exact h3 h4
  have:posS ts x=j:=by omega
  rw [this];exact ej
 ·exact fun h=>List.mem_of_getElem? h
theorem srt_insert {ts:List ByteArray} (hs:ts.Pairwise ltS){x:ByteArray} (hx:x∉ts):(ts.take (posS ts x)++x :: ts.drop (posS ts x)).Pairwise ltS:=by
 have hlow:∀ y∈ts.take (posS ts x),ltS y x:=fun y hy=>by
  obtain ⟨j,hj,e⟩:=List.getElem_of_mem hy
  rw [List.getElem_take] at e
  have hj2:j<posS ts x:=by rw [List.length_take] at hj;omega
  exact posS_lt hj2 (by rw [List.getElem?_eq_getElem (by have:=posS_le ts x;omega),e])
 have hhi:∀ y∈ts.drop (posS ts x),ltS x y:=fun y hy=>by
  obtain ⟨j,hj,e⟩:=List.getElem_of_mem hy
  rw [List.getElem_drop] at e
  have hl:posS ts x+j<ts.length:=by rw [List.length_drop] at hj;omega
  have h1:=posS_ge hs (Nat.le_add_right (posS ts x) j) (List.getElem?_eq_getElem hl)
  rw [e] at h1
  refine Classical.byContradiction fun h2=>hx ?_
  have:=ltS_tri h1 h2
  rw [←this,←e]
  exact List.getElem_mem hl
 have hs2:(ts.take (posS ts x)++ts.drop (posS ts x)).Pairwise ltS:=by rw [List.take_append_drop];exact hs
 obtain ⟨g1,g2,g3⟩:=List.pairwise_append.1 hs2
 refine List.pairwise_append.2 ⟨g1,List.pairwise_cons.2 ⟨hhi,g2⟩,fun y hy z hz=>?_⟩
 rcases List.mem_cons.1 hz with rfl | hz
 ·exact hlow y hy
 ·exact g3 y hy z hz
def _root_.Kw.KV.setC (v:KV) (i:Nat) (c:CV):KV:={ v with cls:=v.cls.set i c }
def headR (v:KV):List Role:=[(19,v.rootW),(v.clsA,v.clsW),(v.globA,globW v.glob),(1,[]),(18,[])]
def rolesX (v:KV) (i:Nat) (X:List Role):List Role:=(headR v++croles (v.cls.take i) 0)++(X++croles (v.cls.drop (i+1)) (i+1))
theorem roles_at {v:KV}{i:Nat} (hi:i<v.cls.length):v.roles=rolesX v i (crole v.cls[i] i):=by
 have e:v.cls=v.cls.take i++v.cls[i] :: v.cls.drop (i+1):=by rw [List.getElem_cons_drop,List.take_append_drop]
 have e2:croles v.cls 0=croles (v.cls.take i) 0++(crole v.cls[i] i++croles (v.cls.drop (i+1)) (i+1)):=by
  conv=>lhs;rw [e]
  rw [croles_append,croles,Nat.zero_add,List.length_take,Nat.min_eq_left (by omega)]
 unfold KV.roles rolesX headR
 rw [e2]
 simp
theorem setC_clsW {v:KV}{i:Nat} (hi:i<v.cls.length){c:CV} (ho:c.oop=(v.cls[i]).oop):(v.setC i c).clsW=v.clsW:=by
 unfold KV.clsW KV.setC
 simp only
 rw [List.map_set,ho]
 have:4*(v.cls[i]).oop=(v.cls.map fun c=>4*c.oop)[i]'(by simpa using hi):=by simp
 rw [this,List.set_getElem_self]
theorem setC_roles {v:KV}{i:Nat} (hi:i<v.cls.length){c:CV} (ho:c.oop=(v.cls[i]).oop):(v.setC i c).roles=rolesX v i (crole c i):=by
 have hi2:i<(v.setC i c).cls.length:=by simpa [KV.setC] using hi
 rw [roles_at hi2]
 unfold rolesX headR
 rw [setC_clsW hi ho]
 have e1:(v.setC i c).cls.take i=v.cls.take i:=by simp [KV.setC,List.take_set_of_le]
 have e2:(v.setC i c).cls.drop (i+1)=v.cls.drop (i+1):=by simp [KV.setC,List.drop_set_of_lt]
 have e3:(v.setC i c).cls[i]=c:=by simp [KV.setC]
 rw [e1,e2,e3]
 rfl
def SepR (p q:Role):Prop:=p.1=q.1→p.2=[]
theorem sep_swap {A X Y B:List Role} (h:(A++(X++B)).Pairwise SepR) (hY:Y.Pairwise SepR) (h1:∀ p∈A,∀ q∈Y,SepR p q) (h2:∀ p∈Y,∀ q∈B,SepR p q):(A++(Y++B)).Pairwise SepR:=by
 obtain ⟨g1,g2,g3⟩:=List.pairwise_append.1 h
 obtain ⟨k1,k2,k3⟩:=List.pairwise_append.1 g2
 refine List.pairwise_append.2 ⟨g1,List.pairwise_append.2 ⟨hY,k2,h2⟩,fun p hp q hq=>?_⟩
 rcases List.mem_append.1 hq with hq | hq
 ·exact h1 p hp q hq
 ·exact g3 p hp q (by simp [hq])
theorem shape_setC {v:KV} (h:KShape v){i:Nat} (hi:i<v.cls.length){c:CV} (ho:c.oop=(v.cls[i]).oop) (hu:c.up=(v.cls[i]).up) (hw:c.ownA=(v.cls[i]).ownA) (hl:c.lay=(v.cls[i]).lay):KShape (v.setC i c):=by
 have get:∀ {j:Nat} (hj:j<(v.setC i c).cls.length),∃ hj':j<v.cls.length,((v.setC i c).cls[j]).oop=(v.cls[j]).oop∧((v.setC i c).cls[j]).up=(v.cls[j]).up∧((v.setC i c).cls[j]).ownA=(v.cls[j]).ownA:=fun {j} hj=>by
  have hj':j<v.cls.length:=by simpa [KV.setC] using hj
  refine ⟨hj',?_⟩
  by_cases e:i=j
  ·subst e;simp [KV.setC,ho,hu,hw]
  ·simp [KV.setC,List.getElem_set_ne e]
 have hlen:(v.setC i c).cls.length=v.cls.length:=by simp [KV.setC]
 refine ⟨h.rest,by rw [hlen];exact h.many0,by rw [hlen];exact h.many1,h.globs,fun h0=>?_,fun j hj h0=>?_,fun j hj h14=>?_,fun c' hc'=>?_⟩
 ·obtain ⟨hj',_,e2,e3⟩:=get h0
  rw [e2,e3];exact h.up0 hj'
 ·obtain ⟨hj',_,e2,_⟩:=get hj
  obtain ⟨k,hk,hkj,e⟩:=h.ups j hj' h0
  have hk':k<(v.setC i c).cls.length:=by omega
  obtain ⟨_,f1,_⟩:=get hk'
  exact ⟨k,hk',hkj,by rw [f1,e2];exact e⟩
 ·obtain ⟨hj',e1,_⟩:=get hj
  rw [e1];exact h.kern j hj' h14
 ·rcases List.mem_or_eq_of_mem_set hc' with h1 | rfl
  ·exact h.lay c' h1
  ·rw [hl];exact h.lay _ (List.getElem_mem hi)
theorem names_setC {v:KV}{t:TB} (h:KNames v t){i:Nat} (hi:i<v.cls.length){c:CV} (hn:c.name=(v.cls[i]).name) (hw:c.own=(v.cls[i]).own):KNames (v.setC i c) t:=by
 refine ⟨h.wf,fun c' hc'=>?_,fun c' hc'=>?_,h.glob,?_⟩
 ·rcases List.mem_or_eq_of_mem_set hc' with h1 | rfl
  ·exact h.name c' h1
  ·rw [hn];exact h.name _ (List.getElem_mem hi)
 ·rcases List.mem_or_eq_of_mem_set hc' with h1 | rfl
  ·exact h.own c' h1
  ·rw [hw];exact h.own _ (List.getElem_mem hi)
 ·have e:(v.setC i c).cls.map (·.name)=v.cls.map (·.name):=by
   unfold KV.setC
   simp only
   rw [List.map_set,hn]
   have:(v.cls[i]).name=(v.cls.map (·.name))[i]'(by simpa using hi):=by simp
   rw [this,List.set_getElem_self]
  rw [e];exact h.nodup
def _root_.Kw.CV.lists (c:CV) (a b:Int) (l m:List Int):CV:={ c with selA:=a,metA:=b,sels:=l,mets:=m }
theorem role_other {s:SP}{v:KV} (hk:KS s v){i:Nat} (hi:i<v.cls.length):(∀ p∈headR v++croles (v.cls.take i) 0,p∈v.roles∧p.1≠(v.cls[i]).oop)∧(∀ p∈croles (v.cls.drop (i+1)) (i+1),p∈v.roles∧p.1≠(v.cls[i]).oop)∧(v.cls[i]).ownA≠(v.cls[i]).oop:=by
 have hs:(v.roles).Pairwise SepR:=hk.sep
 have er:=roles_at hi
 rw [er] at hs
 unfold rolesX at hs er
 obtain ⟨g1,g2,g3⟩:=List.pairwise_append.1 hs
 obtain ⟨k1,k2,k3⟩:=List.pairwise_append.1 g2
 have hc:((v.cls[i]).oop,(v.cls[i]).slots i)∈crole v.cls[i] i:=by simp [crole]
 have hne:(v.cls[i]).slots i≠[]:=by simp [CV.slots]
 refine ⟨fun p hp=>?_,fun p hp=>?_,fun e=>?_⟩
 ·have hm:p∈v.roles:=by rw [er];exact List.mem_append.2 (.inl hp)
  refine ⟨hm,fun e=>?_⟩
  have h0:=g3 p hp _ (List.mem_append.2 (.inl hc)) e
  have h1:=hk.view p hm
  rw [e] at h1
  have:=h1.uniq (hk.view.cls hi)
  rw [h0] at this
  exact hne this.symm
 ·have hm:p∈v.roles:=by rw [er];exact List.mem_append.2 (.inr (List.mem_append.2 (.inr hp)))
  exact ⟨hm,fun e=>hne (k3 _ hc p hp e.symm)⟩
 ·simp only [crole] at k1
  exact hne ((List.pairwise_cons.1 k1).1 ((v.cls[i]).ownA,(v.cls[i]).own.map symW) (by simp) e.symm)
theorem setC_ks {s s':SP}{v:KV} (hk:KS s v){i:Nat} (hi:i<v.cls.length){a b:Int}{l m:List Int} (wf':WFS s') (gc':GoodC s'.h) (op':s'.op=false) (king':s'.king=19)
  (hk':∀ p∈v.roles,p.1≠(v.cls[i]).oop→Arr s'.h p.1 p.2) (hc:Arr s'.h (v.cls[i]).oop (((v.cls[i]).lists a b l m).slots i)) (ha:Arr s'.h a l) (hb:Arr s'.h b m)
  (na:∀ p∈v.roles,p.1=a→p.2=[]∧l=[]) (nb:∀ p∈v.roles,p.1=b→p.2=[]∧m=[]) (nab:a=b→l=[]):KS s' (v.setC i ((v.cls[i]).lists a b l m)):=by
 have hsep:(v.roles).Pairwise SepR:=hk.sep
 have er:=roles_at hi
 obtain ⟨o1,o2,o3⟩:=role_other hk hi
 have mo:((v.cls[i]).ownA,(v.cls[i]).own.map symW)∈v.roles:=by rw [er];unfold rolesX;simp [crole]
 have mc:((v.cls[i]).oop,(v.cls[i]).slots i)∈v.roles:=by rw [er];unfold rolesX;simp [crole]
 have hne:(v.cls[i]).slots i≠[]:=by simp [CV.slots]
 have hca:(v.cls[i]).oop≠a:=fun e=>hne (na _ mc e).1
 have hcb:(v.cls[i]).oop≠b:=fun e=>hne (nb _ mc e).1
 refine ⟨wf',gc',op',king',?_,?_,shape_setC hk.shape hi rfl rfl rfl rfl⟩
 ·intro p hp
  rw [setC_roles (c:=(v.cls[i]).lists a b l m) hi rfl] at hp
  unfold rolesX at hp
  rcases List.mem_append.1 hp with hp | hp
  ·exact hk' p (o1 p hp).1 (o1 p hp).2
  rcases List.mem_append.1 hp with hp | hp
  ·simp only [crole,List.mem_cons,List.not_mem_nil,or_false] at hp
   rcases hp with rfl | rfl | rfl | rfl
   ·exact hc
   ·exact hk' _ mo o3
   ·exact ha
   ·exact hb
  ·exact hk' p (o2 p hp).1 (o2 p hp).2
 ·show ((v.setC i ((v.cls[i]).lists a b l m)).roles).Pairwise SepR
  rw [setC_roles (c:=(v.cls[i]).lists a b l m) hi rfl]
  rw [er] at hsep
  unfold rolesX at hsep ⊢
  obtain ⟨g1,g2,g3⟩:=List.pairwise_append.1 hsep
  obtain ⟨k1,k2,k3⟩:=List.pairwise_append.1 g2
  have cc:((v.cls[i]).oop,(v.cls[i]).slots i)∈crole v.cls[i] i:=by simp [crole]
  have co:((v.cls[i]).ownA,(v.cls[i]).own.map symW)∈crole v.cls[i] i:=by simp [crole]
  refine sep_swap hsep ?_ (fun p hp q hq=>?_) (fun p hp q hq=>?_)
  ·simp only [crole]
   refine List.pairwise_cons.2 ⟨fun q hq=>?_,List.pairwise_cons.2 ⟨fun q hq=>?_,List.pairwise_cons.2 ⟨fun q hq=>?_,by simp⟩⟩⟩
   ·simp only [List.mem_cons,List.not_mem_nil,or_false] at hq
    rcases hq with rfl | rfl | rfl
    ·exact fun e=>absurd e.symm o3
    ·exact fun e=>absurd e hca
    ·exact fun e=>absurd e hcb
   ·simp only [List.mem_cons,List.not_mem_nil,or_false] at hq
    rcases hq with rfl | rfl
    ·exact fun e=>(na _ mo e).1
    ·exact fun e=>(nb _ mo e).1
   ·simp only [List.mem_cons,List.not_mem_nil,or_false] at hq
    subst hq
    exact fun e=>nab e
  ·simp only [crole,List.mem_cons,List.not_mem_nil,or_false] at hq
   rcases hq with rfl | rfl | rfl | rfl
   ·exact fun e=>absurd e (o1 p hp).2
   ·exact g3 p hp _ (List.mem_append.2 (.inl co))
   ·exact fun e=>(na p (o1 p hp).1 e).1
   ·exact fun e=>(nb p (o1 p hp).1 e).1
  ·simp only [crole,List.mem_cons,List.not_mem_nil,or_false] at hp
   rcases hp with rfl | rfl | rfl | rfl
   ·exact fun e=>absurd e.symm (o2 q hq).2
   ·exact k3 _ co q hq
   ·exact fun e=>(na q (o2 q hq).1 e.symm).2
   ·exact fun e=>(nb q (o2 q hq).1 e.symm).2
noncomputable def kWrite (s:SP) (c:Int) (kp l m:List Int):Int × SP :=
 if ((s.keepW kp).2.array l).1.2≠0 then (((s.keepW kp).2.array l).1.2,{ ((s.keepW kp).2.array l).2 with stack:=[] })
 else if (((s.keepW kp).2.array l).2.array m).1.2≠0 then ((((s.keepW kp).2.array l).2.array m).1.2,{ (((s.keepW kp).2.array l).2.array m).2 with stack:=[] })
 else (0,{ (((s.keepW kp).2.array l).2.array m).2 with h:=(((((s.keepW kp).2.array l).2.array m).2.h.put c 3 ((s.keepW kp).2.array l).1.1).2.put c 4 (((s.keepW kp).2.array l).2.array m).1.1).2,stack:=[] })
theorem keepW_ok {s:SP}{v:KV} (hk:KS s v) (hst:s.stack=[]){kp:List Int} (hkp:∀ w∈kp,isW w) (hl:kp.length≤1):s.keepW kp=(0,{ s with stack:=kp })∧KS { s with stack:=kp } v:=by
 constructor
 ·unfold SP.keepW
  rw [if_neg (by rintro ⟨w,hw,hn⟩;exact hn (hkp w hw)),if_neg (by rw [hst];simp;omega),hst]
  simp
 ·exact ⟨{ hk.wf with many:=by simp only;omega,words:=hkp },hk.gc,hk.op,hk.king,hk.view,hk.sep,hk.shape⟩
theorem fresh_role {s:SP}{v:KV} (hk:KS s v){o:Int}{ws:List Int} (ha:ws=[]∨¬ Reaches s.h s.roots o){s2:SP} (hk2:KS s2 v) (hA:Arr s2.h o ws):∀ p∈v.roles,p.1=o→p.2=[]∧ws=[]:=by
 intro p hp e
 rcases ha with rfl | hn
 ·have h1:=hk2.view p hp
  rw [e] at h1
  exact ⟨h1.uniq hA,rfl⟩
 ·exact absurd e (hk.fresh hn p hp)
theorem kWrite_ok {s:SP}{t:TB}{v:KV} (h:KAll s t v){i:Nat} (hi:i<v.cls.length){kp l m:List Int} (hkp:∀ w∈kp,isW w) (hk1:kp.length≤1) (hl:∀ w∈l,isW w) (hm:∀ w∈m,isW w) (hlm:l.length=m.length) :
  ((kWrite s (v.cls[i]).oop kp l m).1≠0→KAll (kWrite s (v.cls[i]).oop kp l m).2 t v) ∧
  ((kWrite s (v.cls[i]).oop kp l m).1=0→∃ a b,KAll (kWrite s (v.cls[i]).oop kp l m).2 t (v.setC i ((v.cls[i]).lists a b l m))):=by
 obtain ⟨hk,hn,hst⟩:=h
 obtain ⟨ek,hk0⟩:=keepW_ok hk hst hkp hk1
 unfold kWrite
 rw [ek]
 simp only
 obtain ⟨A1,A2,⟨la,A3,A3'⟩,A4⟩:=array_ok hk0 (by simp only;omega) hl
 generalize hRA:SP.array { s with stack:=kp } l=RA at A1 A2 A3 A4 ⊢
 by_cases e1:RA.1.2=0
 rotate_left
 ·rw [if_pos (by simpa using e1)]
  exact ⟨fun _=>⟨A1.nostack,hn,rfl⟩,fun h=>absurd h e1⟩
 rw [if_neg (by simpa using e1)]
 obtain ⟨a,ea,a1,a2,hAa,hra,hfa⟩:=A4 e1
 obtain ⟨B1,B2,⟨lb,B3,B3'⟩,B4⟩:=array_ok A1 (by rw [A3];simp only [List.length_append];omega) hm
 generalize hRB:SP.array RA.2 m=RB at B1 B2 B3 B4 ⊢
 by_cases e2:RB.1.2=0
 rotate_left
 ·rw [if_pos (by simpa using e2)]
  exact ⟨fun _=>⟨B1.nostack,hn,rfl⟩,fun h=>absurd h e2⟩
 rw [if_neg (by simpa using e2)]
 obtain ⟨b,eb,b1,b2,hAb,hrb,hfb⟩:=B4 e2
 refine ⟨fun h=>absurd rfl h,fun _=>⟨a,b,?_⟩⟩
 have hAa2:Arr RB.2.h a l:=hAa.keep B2 hra
 have hcl:=B1.view.cls hi
 have hlen:((v.cls[i]).slots i).length=7:=rfl
 have wa:=isW_obj a1 a2
 have wb:=isW_obj b1 b2
 have na:=fresh_role hk0 hfa A1 hAa
 have nb:=fresh_role A1 hfb B1 hAb
 have mc:((v.cls[i]).oop,(v.cls[i]).slots i)∈v.roles:=by rw [roles_at hi];unfold rolesX;simp [crole]
 have hne:(v.cls[i]).slots i≠[]:=by simp [CV.slots]
 have hca:a≠(v.cls[i]).oop:=fun e=>hne (na _ mc e.symm).1
 have hcb:b≠(v.cls[i]).oop:=fun e=>hne (nb _ mc e.symm).1
 obtain ⟨p1,_⟩:=put_arr hcl (i:=3) (w:=4*a) (by decide) (by rw [hlen];decide) wa
 obtain ⟨p2,_⟩:=put_arr p1 (i:=4) (w:=4*b) (by decide) (by simp [hlen]) wb
 have q1:=put_keeps (r:=RB.2.h) (v.cls[i]).oop 3 (4*a)
 have q2:=put_keeps (r:=(RB.2.h.put (v.cls[i]).oop 3 (4*a)).2) (v.cls[i]).oop 4 (4*b)
 have q:=q1.trans q2
 rw [ea,eb]
 refine ⟨?_,names_setC hn hi rfl rfl,rfl⟩
 refine setC_ks B1 hi (s':={ RB.2 with h:=((RB.2.h.put (v.cls[i]).oop 3 (4*a)).2.put (v.cls[i]).oop 4 (4*b)).2,stack:=[] }) ⟨put_wf (put_wf B1.wf.h _ _ _) _ _ _,B1.wf.king0,B1.wf.king1,by simp,by simp⟩ (put_gc (put_gc B1.gc _ _ _) _ _ _) B1.op B1.king (fun p hp hne'=>(B1.view p hp).keep q hne') ?_ (hAa2.keep q hca) (hAb.keep q hcb) na nb ?_
 ·exact p2
 ·rintro rfl
  rcases hfb with rfl | hnr
  ·simpa using hlm
  ·exact absurd hra hnr
theorem kOver_ok {s:SP}{t:TB}{v:KV} (h:KAll s t v){i:Nat} (hi:i<v.cls.length){j:Nat} (hj:j<(v.cls[i]).mets.length){w:Int} (hw:isW w) :
  (s.h.put (v.cls[i]).metA (j:Int) w).1=0∧KAll { s with h:=(s.h.put (v.cls[i]).metA (j:Int) w).2 } t (v.setC i ((v.cls[i]).lists (v.cls[i]).selA (v.cls[i]).metA (v.cls[i]).sels ((v.cls[i]).mets.set j w))):=by
 obtain ⟨hk,hn,hst⟩:=h
 have hma:=hk.view.met hi
 obtain ⟨p1,p2⟩:=put_arr hma (i:=(j:Int)) (w:=w) (by omega) (by omega) hw
 have pk:=put_keeps (r:=s.h) (v.cls[i]).metA (j:Int) w
 rw [Int.toNat_natCast] at p1
 have hsep:(v.roles).Pairwise SepR:=hk.sep
 have er:=roles_at hi
 have hne:(v.cls[i]).mets≠[]:=fun e=>by rw [e] at hj;simp at hj
 rw [er] at hsep
 unfold rolesX at hsep er
 obtain ⟨g1,g2,g3⟩:=List.pairwise_append.1 hsep
 obtain ⟨k1,k2,k3⟩:=List.pairwise_append.1 g2
 have cm:((v.cls[i]).metA,(v.cls[i]).mets)∈crole v.cls[i] i:=by simp [crole]
 have hA:∀ p∈headR v++croles (v.cls.take i) 0,p∈v.roles∧p.1≠(v.cls[i]).metA:=fun p hp=>by
  have hm:p∈v.roles:=by rw [er];exact List.mem_append.2 (.inl hp)
  refine ⟨hm,fun e=>?_⟩
  have h0:=g3 p hp _ (List.mem_append.2 (.inl cm)) e
  have h1:=hk.view p hm
  rw [e] at h1
  have:=h1.uniq hma
  rw [h0] at this
  exact hne this.symm
 have hB:∀ p∈croles (v.cls.drop (i+1)) (i+1),p∈v.roles∧p.1≠(v.cls[i]).metA:=fun p hp=>by
  have hm:p∈v.roles:=by rw [er];exact List.mem_append.2 (.inr (List.mem_append.2 (.inr hp)))
  exact ⟨hm,fun e=>hne (k3 _ cm p hp e.symm)⟩
 have inX:∀ p∈crole v.cls[i] i,p∈v.roles:=fun p hp=>by rw [er];exact List.mem_append.2 (.inr (List.mem_append.2 (.inl hp)))
 have hX:∀ p,p∈[((v.cls[i]).oop,(v.cls[i]).slots i),((v.cls[i]).ownA,(v.cls[i]).own.map symW),((v.cls[i]).selA,(v.cls[i]).sels)]→p.1≠(v.cls[i]).metA:=fun p hp e=>by
  have h0:p.2=[]:=by
   simp only [crole] at k1
   obtain ⟨x1,k1⟩:=List.pairwise_cons.1 k1
   obtain ⟨x2,k1⟩:=List.pairwise_cons.1 k1
   obtain ⟨x3,k1⟩:=List.pairwise_cons.1 k1
   simp only [List.mem_cons,List.not_mem_nil,or_false] at hp
   rcases hp with rfl | rfl | rfl
   ·exact x1 ((v.cls[i]).metA,(v.cls[i]).mets) (by simp) e
   ·exact x2 ((v.cls[i]).metA,(v.cls[i]).mets) (by simp) e
   ·exact x3 ((v.cls[i]).metA,(v.cls[i]).mets) (by simp) e
  have hm:p∈v.roles:=inX p (by simp only [List.mem_cons,List.not_mem_nil,or_false] at hp;rcases hp with rfl | rfl | rfl <;> simp [crole])
  have h1:=hk.view p hm
  rw [e] at h1
  have:=h1.uniq hma
  rw [h0] at this
  exact hne this.symm
 refine ⟨p2,⟨{ hk.wf with h:=put_wf hk.wf.h _ _ _ },put_gc hk.gc _ _ _,hk.op,hk.king,?_,?_,shape_setC hk.shape hi rfl rfl rfl rfl⟩,names_setC hn hi rfl rfl,hst⟩
 ·intro p hp
  rw [setC_roles (c:=(v.cls[i]).lists (v.cls[i]).selA (v.cls[i]).metA (v.cls[i]).sels ((v.cls[i]).mets.set j w)) hi rfl] at hp
  unfold rolesX at hp
  rcases List.mem_append.1 hp with hp | hp
  ·exact (hk.view p (hA p hp).1).keep pk (hA p hp).2
  rcases List.mem_append.1 hp with hp | hp
  ·simp only [crole,List.mem_cons,List.not_mem_nil,or_false] at hp
   rcases hp with rfl | rfl | rfl | rfl
   ·exact (hk.view.cls hi).keep pk (hX ((v.cls[i]).oop,(v.cls[i]).slots i) (by simp))
   ·exact (hk.view.own hi).keep pk (hX ((v.cls[i]).ownA,(v.cls[i]).own.map symW) (by simp))
   ·exact (hk.view.sel hi).keep pk (hX ((v.cls[i]).selA,(v.cls[i]).sels) (by simp))
   ·exact p1
  ·exact (hk.view p (hB p hp).1).keep pk (hB p hp).2
 ·show ((v.setC i ((v.cls[i]).lists _ _ _ _)).roles).Pairwise SepR
  rw [setC_roles (c:=(v.cls[i]).lists (v.cls[i]).selA (v.cls[i]).metA (v.cls[i]).sels ((v.cls[i]).mets.set j w)) hi rfl]
  unfold rolesX
  simp only [crole] at k1
  obtain ⟨x1,k1⟩:=List.pairwise_cons.1 k1
  obtain ⟨x2,k1⟩:=List.pairwise_cons.1 k1
  obtain ⟨x3,_⟩:=List.pairwise_cons.1 k1
  refine sep_swap hsep ?_ (fun p hp q hq=>?_) (fun p hp q hq=>?_)
  ·simp only [crole]
   refine List.pairwise_cons.2 ⟨fun q hq=>?_,List.pairwise_cons.2 ⟨fun q hq=>?_,List.pairwise_cons.2 ⟨fun q hq=>?_,by simp⟩⟩⟩
   ·simp only [List.mem_cons,List.not_mem_nil,or_false] at hq
    rcases hq with rfl | rfl | rfl
    ·exact x1 ((v.cls[i]).ownA,(v.cls[i]).own.map symW) (by simp)
    ·exact x1 ((v.cls[i]).selA,(v.cls[i]).sels) (by simp)
    ·exact x1 ((v.cls[i]).metA,(v.cls[i]).mets) (by simp)
   ·simp only [List.mem_cons,List.not_mem_nil,or_false] at hq
    rcases hq with rfl | rfl
    ·exact x2 ((v.cls[i]).selA,(v.cls[i]).sels) (by simp)
    ·exact x2 ((v.cls[i]).metA,(v.cls[i]).mets) (by simp)
   ·simp only [List.mem_cons,List.not_mem_nil,or_false] at hq
    subst hq
    exact x3 ((v.cls[i]).metA,(v.cls[i]).mets) (by simp)
  ·simp only [crole,List.mem_cons,List.not_mem_nil,or_false] at hq
   rcases hq with rfl | rfl | rfl | rfl
   ·exact g3 p hp _ (List.mem_append.2 (.inl (show ((v.cls[i]).oop,(v.cls[i]).slots i)∈crole v.cls[i] i by simp [crole])))
   ·exact g3 p hp _ (List.mem_append.2 (.inl (show ((v.cls[i]).ownA,(v.cls[i]).own.map symW)∈crole v.cls[i] i by simp [crole])))
   ·exact g3 p hp _ (List.mem_append.2 (.inl (show ((v.cls[i]).selA,(v.cls[i]).sels)∈crole v.cls[i] i by simp [crole])))
   ·exact fun e=>absurd e (hA p hp).2
  ·simp only [crole,List.mem_cons,List.not_mem_nil,or_false] at hp
   rcases hp with rfl | rfl | rfl | rfl
   ·exact k3 ((v.cls[i]).oop,(v.cls[i]).slots i) (by simp [crole]) q hq
   ·exact k3 ((v.cls[i]).ownA,(v.cls[i]).own.map symW) (by simp [crole]) q hq
   ·exact k3 ((v.cls[i]).selA,(v.cls[i]).sels) (by simp [crole]) q hq
   ·exact fun e=>absurd e.symm (hB q hq).2
structure DC (t:TB) (c:CV) (ns:List Nat):Prop where
 sel:c.sels=ns.map symW
 num:∀ n∈ns,n<t.texts.length
 srt:(ns.map (tx t)).Pairwise ltS
 len:c.mets.length=ns.length
 obj:∀ w∈c.mets,∃ o,w=4*o∧1≤o∧o≤65536
 most:ns.length≤128
def KD (v:KV) (t:TB):Prop:=∀ c∈v.cls,∃ ns,DC t c ns
def selT (t:TB) (c:CV):List ByteArray:=c.sels.map (textW t)
theorem DC.texts {t:TB}{c:CV}{ns:List Nat} (h:DC t c ns) (hw:WFT t):selT t c=ns.map (tx t):=by
 unfold selT
 rw [h.sel,List.map_map]
 exact List.map_congr_left fun n hn=>textW_sym hw (h.num n hn)
theorem DC.grow {t t':TB}{c:CV}{ns:List Nat} (h:DC t c ns) (hp:∃ l,t'.texts=t.texts++l):DC t' c ns:=by
 have e:ns.map (tx t')=ns.map (tx t):=List.map_congr_left fun n hn=>tx_pre hp (h.num n hn)
 obtain ⟨l,hl⟩:=hp
 exact ⟨h.sel,fun n hn=>by have:=h.num n hn;rw [hl,List.length_append];omega,by rw [e];exact h.srt,h.len,h.obj,h.most⟩
theorem DC.empty {t:TB}{c:CV} (h1:c.sels=[]) (h2:c.mets=[]):DC t c []:=⟨h1,by simp,by simp,by simp [h2],by simp [h2],by simp⟩
structure Ext (v v':KV) (t t':TB):Prop where
 cls:∃ l,v'.cls=v.cls++l∧∀ c∈l,c.sels=[]∧c.mets=[]
 txt:∃ l,t'.texts=t.texts++l
theorem Ext.refl (v:KV) (t:TB):Ext v v t t:=⟨⟨[],by simp,by simp⟩,[],by simp⟩
theorem Ext.of_cls {v v':KV} (h:v'.cls=v.cls) (t:TB):Ext v v' t t:=⟨⟨[],by simp [h],by simp⟩,[],by simp⟩
theorem KD.ext {v v':KV}{t t':TB} (h:KD v t) (he:Ext v v' t t'):KD v' t':=fun c hc=>by
 obtain ⟨l,hl,hn⟩:=he.cls
 rw [hl] at hc
 rcases List.mem_append.1 hc with hc | hc
 ·obtain ⟨ns,hd⟩:=h c hc
  exact ⟨ns,hd.grow he.txt⟩
 ·exact ⟨[],DC.empty (hn c hc).1 (hn c hc).2⟩
theorem kDefineAll_ext {s:SP}{v:KV}{t:TB} (hv:KAll s t v) (name sup:ByteArray) (own:List ByteArray):∃ v',KAll (kDefineAll s v t name sup own).2.1 (kDefineAll s v t name sup own).2.2 v'∧Ext v v' t (kDefineAll s v t name sup own).2.2:=by
 unfold kDefineAll
 by_cases h:(defK v t name sup own).2=0
 ·rw [if_neg (by simpa using h)]
  obtain ⟨j,hj,ej,hlt,hno,_,_⟩:=defK_ok hv h
  rw [ej]
  have A:=kDefine_ok hv hj hlt (name:=name) (own:=own) hno
  by_cases he:(kDefine s t v.clsW name (v.cls[j]).oop own).1.2=0
  ·obtain ⟨n,ns,l,d,h1,h2,_⟩:=A.2 he
   exact ⟨_,h1,⟨[_],rfl,by simp⟩,h2⟩
  ·obtain ⟨_,h1,h2,_⟩:=A.1 he
   exact ⟨v,h1,⟨[],by simp,by simp⟩,[],by rw [h2];simp⟩
 ·rw [if_pos h];exact ⟨v,hv,Ext.refl v t⟩
theorem setValueK_ext {s:SP}{v:KV}{t:TB} (hv:KAll s t v) (n w:Int):∃ v',KAll (setValueK s v n w).2 t v'∧Ext v v' t t:=by
 unfold setValueK
 split
 ·exact ⟨v,hv,Ext.refl v t⟩
 split
 ·exact ⟨v,hv,Ext.refl v t⟩
 ·rename_i h1 h2
  have:=(hv.setG (i:=n.toNat) (by omega) (w:=w) (Classical.byContradiction h2)).2
  have e:((n.toNat:Nat):Int)=n:=by omega
  rw [e] at this
  exact ⟨_,this,Ext.of_cls (v:=v) (v':=v.setG n.toNat w) rfl t⟩
theorem add_all {s:SP}{v:KV}{t:TB} (hv:KAll s t v) (x:ByteArray):KAll s (t.add x).2 v∧Ext v v t (t.add x).2 :=
 have hp:=(add_pre t x).2
 ⟨⟨hv.ks,hv.names.grow (add_wft hv.names.wf x) hp,hv.stack⟩,⟨[],by simp,by simp⟩,hp⟩
theorem alloc_all {s:SP}{v:KV}{t:TB} (hv:KAll s t v){c:Int} (hc:1≤c∧c≤65536) (n f:Int):KAll (s.alloc (4*c) n f).2 t v:=by
 have hr:=salloc_rest s (4*c) n f
 have hk:=hv.ks
 exact ⟨⟨salloc_wf hk.wf _ _ _,salloc_gc hk.gc (by have:=kind_cases (4*c);omega) _ _,hr.2.2.trans hk.op,hr.1.trans hk.king,hk.view.keep (salloc_keeps hk.wf _ _ _) hk.reach,hk.sep,hk.shape⟩,hv.names,hr.2.1.trans hv.stack⟩
def selI (w:Int):List Int→Nat→Option Nat
 | [],_=>none
 | x :: l,j=>if x=w then some j else selI w l (j+1)
def lookF (v:KV) (w:Int):Nat→Nat→Int × Int
 | 0,_=>(0,0)
 | f+1,i=>match v.cls[i]? with
  | none=>(0,0)
  | some c=>match selI w c.sels 0 with
   | some j=>(oopW (c.mets.getD j 0),c.oop)
   | none=>match upIdx v i with
    | none=>(0,0)
    | some k=>lookF v w f k
def lookK (v:KV) (w:Int) (i:Nat):Int × Int:=lookF v w (i+1) i
theorem lookF_fuel {s:SP}{v:KV} (hk:KS s v) (w:Int):∀ (i:Nat),i<v.cls.length→∀ f,i+1≤f→lookF v w f i=lookF v w (i+1) i:=by
 intro i
 induction i using Nat.strongRecOn with
 | ind i ih =>
  intro hi f hf
  obtain ⟨f,rfl⟩:∃ g,f=g+1:=⟨f-1,by omega⟩
  unfold lookF
  rw [List.getElem?_eq_getElem hi]
  simp only
  cases selI w (v.cls[i]).sels 0 with
  | some j=>rfl
  | none =>
   simp only
   rcases hk.upI hi with ⟨_,_,e⟩ | ⟨j,hj,hji,_,_,e⟩
   ·rw [e]
   ·rw [e]
    simp only
    rw [ih j hji hj f (by omega),ih j hji hj i (by omega)]
theorem lookK_eq {s:SP}{v:KV} (hk:KS s v) (w:Int){i:Nat} (hi:i<v.cls.length):lookK v w i=match selI w (v.cls[i]).sels 0 with
  | some j=>(oopW ((v.cls[i]).mets.getD j 0),(v.cls[i]).oop)
  | none=>match upIdx v i with
   | none=>(0,0)
   | some k=>lookK v w k:=by
 unfold lookK
 conv=>lhs;unfold lookF
 rw [List.getElem?_eq_getElem hi]
 simp only
 cases selI w (v.cls[i]).sels 0 with
 | some j=>rfl
 | none =>
  simp only
  rcases hk.upI hi with ⟨_,_,e⟩ | ⟨j,hj,hji,_,_,e⟩
  ·rw [e]
  ·rw [e]
   simp only
   exact lookF_fuel hk w j hj i (by omega)
theorem selI_none {w:Int}{l:List Int}{j:Nat} (h:w∉l):selI w l j=none:=by
 induction l generalizing j with
 | nil=>rfl
 | cons x l ih =>
  unfold selI
  rw [if_neg (fun e=>h (by simp [e]))]
  exact ih fun hm=>h (by simp [hm])
theorem lookF_out {v:KV}{w:Int} (h:∀ c∈v.cls,w∉c.sels):∀ (f i:Nat),lookF v w f i=(0,0)
 | 0,_=>rfl
 | f+1,i=>by
  unfold lookF
  cases e:v.cls[i]? with
  | none=>rfl
  | some c =>
   simp only
   rw [selI_none (h c (List.mem_of_getElem? e))]
   simp only
   cases upIdx v i with
   | none=>rfl
   | some k=>exact lookF_out h f k
theorem lookK_out {v:KV}{t:TB} (h:KD v t){x:Int} (hx:x<0∨(t.texts.length:Int)≤x) (i:Nat):lookK v (4*x+2) i=(0,0):=lookF_out (fun c hc hm=>by
 obtain ⟨ns,hd⟩:=h c hc
 rw [hd.sel] at hm
 obtain ⟨n,hn,e⟩:=List.mem_map.1 hm
 have:=hd.num n hn
 unfold symW at e
 omega) _ _
theorem plK_ext {v v':KV}{t t':TB} (he:Ext v v' t t'){o:Int}{i:Nat} (h:plK v o=some i):plK v' o=some i:=by
 obtain ⟨l,hl,_⟩:=he.cls
 unfold plK at h ⊢
 rw [hl,List.findIdx?_append,h]
 rfl
theorem plK_zero {s:SP}{v:KV} (h:KS s v):plK v 0=none:=by
 cases hx:plK v 0 with
 | none=>rfl
 | some j =>
  obtain ⟨hj,e⟩:=plK_some hx
  have:=((h.view.cls hj).bnd h.wf.h).1
  omega
theorem lookF_ext {s s':SP}{v v':KV}{t t':TB} (hk:KS s v) (hk':KS s' v') (he:Ext v v' t t') (w:Int):∀ (f i:Nat),i<v.cls.length→lookF v' w f i=lookF v w f i
 | 0,_,_=>rfl
 | f+1,i,hi=>by
  obtain ⟨l,hl,hn⟩:=he.cls
  have e:v'.cls[i]?=v.cls[i]?:=by rw [hl,List.getElem?_append_left hi]
  have es:superK v' i=superK v i:=by unfold superK;rw [e]
  unfold lookF
  rw [e,List.getElem?_eq_getElem hi]
  simp only
  cases selI w (v.cls[i]).sels 0 with
  | some j=>rfl
  | none =>
   simp only
   rcases hk.upI hi with ⟨_,e0,e1⟩ | ⟨j,hj,hji,_,_,e1⟩
   ·have e2:upIdx v' i=none:=by unfold upIdx;rw [es,e0];exact plK_zero hk'
    rw [e1,e2]
   ·have e2:upIdx v' i=some j:=by unfold upIdx at e1 ⊢;rw [es];exact plK_ext he e1
    rw [e1,e2]
    exact lookF_ext hk hk' he w f j hj
def insA {α:Type} (l:List α) (p:Nat) (x:α):List α:=l.take p++x :: l.drop p
noncomputable def kPutI (s:SP) (t:TB) (c:CV) (name:ByteArray) (m:Int):Int × SP:=match numOf t.texts name with
 | none=>(61,s)
 | some n =>
  if (s.h.clsAt m).2≠0 then ((s.h.clsAt m).2,s)
  else if name∈selT t c then (0,{ s with h:=(s.h.put c.metA (posS (selT t c) name:Nat) (4*m)).2 })
  else if 128≤c.sels.length then (138,s)
  else kWrite s c.oop [4*m] (insA c.sels (posS (selT t c) name) (symW n)) (insA c.mets (posS (selT t c) name) (4*m))
noncomputable def kRemI (s:SP) (t:TB) (c:CV) (name:ByteArray):Int × SP :=
 if name∈selT t c then kWrite s c.oop [] (c.sels.eraseIdx (posS (selT t c) name)) (c.mets.eraseIdx (posS (selT t c) name)) else (140,s)
noncomputable def atI (t:TB) (c:CV) (name:ByteArray):Int × Int:=if name∈selT t c then (oopW (c.mets.getD (posS (selT t c) name) 0),0) else (0,140)
def entsC (t:TB) (c:CV):List (ByteArray × Int):=(selT t c).zip (c.mets.map oopW)
theorem numOf_get {l:List ByteArray}{s:ByteArray}{n:Nat} (h:numOf l s=some n):l[n]?=some s:=by
 induction l generalizing n with
 | nil=>cases h
 | cons x l ih =>
  unfold numOf at h
  by_cases hx:x=s
  ·rw [if_pos hx] at h;cases h;simp [hx]
  ·rw [if_neg hx] at h
   cases hm:numOf l s with
   | none=>rw [hm] at h;cases h
   | some k=>rw [hm] at h;cases h;simpa using ih hm
theorem clsAt_bnd {r:RH} (hw:WFH r){m:Int} (h:(r.clsAt m).2=0):1≤m∧m≤65536:=by
 unfold RH.clsAt at h
 cases ho:objAt r.objs m with
 | none=>rw [ho] at h;simp at h
 | some o =>
  have h1:=objAt_some ho
  have g:=hw.objs.good o h1.1
  have h4:=g.oop1
  have h5:=g.oop2
  have h6:=hw.o1
  omega
theorem zip_take {α β:Type} (l:List α) (m:List β) (n:Nat):(l.zip m).take n=(l.take n).zip (m.take n):=by unfold List.zip;exact List.take_zipWith
theorem zip_drop {α β:Type} (l:List α) (m:List β) (n:Nat):(l.zip m).drop n=(l.drop n).zip (m.drop n):=by unfold List.zip;exact List.drop_zipWith
theorem ins_zip {α β:Type}{l:List α}{m:List β} (hl:l.length=m.length) (p:Nat) (x:α) (y:β):(insA l p x).zip (insA m p y)=insA (l.zip m) p (x,y):=by
 unfold insA
 rw [List.zip_append (by simp [hl]),List.zip_cons_cons,zip_take,zip_drop]
theorem ins_perm {α:Type} (l:List α) (p:Nat) (x:α):(insA l p x).Perm (x :: l):=by
 unfold insA
 refine List.perm_middle.trans ?_
 rw [List.take_append_drop]
theorem ins_mem {α:Type}{l:List α}{p:Nat}{x y:α} (h:y∈insA l p x):y=x∨y∈l:=by
 have:=(ins_perm l p x).mem_iff.1 h
 simpa using this
theorem key_split {l:List (ByteArray × Int)} (hn:(l.map (·.1)).Nodup){p:Nat} (hp:p<l.length):l.filter (fun e=>decide (e.1≠l[p].1))=l.eraseIdx p:=by
 induction l generalizing p with
 | nil=>simp at hp
 | cons a l ih =>
  simp only [List.map_cons,List.nodup_cons] at hn
  cases p with
  | zero =>
   simp only [List.getElem_cons_zero,List.eraseIdx_cons_zero]
   rw [List.filter_cons_of_neg (by simp)]
   refine List.filter_eq_self.2 fun e he=>?_
   simp only [decide_eq_true_eq]
   exact fun h=>hn.1 (List.mem_map.2 ⟨e,he,h⟩)
  | succ p =>
   have hp':p<l.length:=by simpa using hp
   simp only [List.getElem_cons_succ,List.eraseIdx_cons_succ]
   rw [List.filter_cons_of_pos (by
    simp only [decide_eq_true_eq]
    exact fun h=>hn.1 (List.mem_map.2 ⟨l[p],List.getElem_mem hp',h.symm⟩)),ih hn.2 hp']
theorem set_perm {α:Type}{l:List α}{p:Nat} (hp:p<l.length) (x:α):(l.set p x).Perm (x :: l.eraseIdx p):=by
 rw [List.set_eq_take_append_cons_drop,if_pos hp,List.eraseIdx_eq_take_drop_succ]
 exact List.perm_middle
structure DOK (t:TB) (c:CV) (l m:List Int) (E:List (ByteArray × Int)):Prop where
 dc:∀ a b,∃ ns,DC t (c.lists a b l m) ns
 ent:∀ a b,(entsC t (c.lists a b l m)).Perm E
theorem ents_nodup {t:TB}{c:CV}{ns:List Nat} (h:DC t c ns) (hw:WFT t):((entsC t c).map (·.1)).Nodup∧(entsC t c).map (·.1)=selT t c:=by
 have e:(entsC t c).map (·.1)=selT t c:=by
  unfold entsC
  rw [List.map_fst_zip (by rw [h.texts hw,List.length_map,List.length_map,h.len];exact Nat.le_refl _)]
 refine ⟨?_,e⟩
 rw [e,h.texts hw]
 exact srt_nodup h.srt
theorem insert_ok {t:TB}{c:CV}{ns:List Nat} (h:DC t c ns) (hw:WFT t){name:ByteArray}{n:Nat} (hn:numOf t.texts name=some n) (hno:name∉selT t c) (hl:c.sels.length<128){m:Int} (h1:1≤m) (h2:m≤65536) :
  DOK t c (insA c.sels (posS (selT t c) name) (symW n)) (insA c.mets (posS (selT t c) name) (4*m)) ((name,m) :: (entsC t c).filter fun e=>decide (e.1≠name)):=by
 have ht:=h.texts hw
 obtain ⟨hnl,htx⟩:n<t.texts.length∧tx t n=name:=by
  have:=numOf_get hn
  exact ⟨(tx_some this).2,(tx_some this).1⟩
 have es:insA c.sels (posS (selT t c) name) (symW n)=(insA ns (posS (selT t c) name) n).map symW:=by
  unfold insA
  rw [h.sel]
  simp
 have et:∀ p,(insA ns p n).map (tx t)=insA (ns.map (tx t)) p name:=fun p=>by
  unfold insA
  simp [htx]
 have hdc:∀ a b,DC t (c.lists a b (insA c.sels (posS (selT t c) name) (symW n)) (insA c.mets (posS (selT t c) name) (4*m))) (insA ns (posS (selT t c) name) n):=fun a b=>by
  refine ⟨es,fun x hx=>?_,?_,?_,fun w hw'=>?_,?_⟩
  ·rcases ins_mem hx with rfl | hx
   ·exact hnl
   ·exact h.num x hx
  ·rw [et,ht]
   rw [ht] at hno
   exact srt_insert h.srt hno
  ·show (insA c.mets _ _).length=_
   rw [(ins_perm _ _ _).length_eq,(ins_perm _ _ _).length_eq]
   simp [h.len]
  ·rcases ins_mem hw' with rfl | hw'
   ·exact ⟨m,rfl,h1,h2⟩
   ·exact h.obj w hw'
  ·rw [(ins_perm _ _ _).length_eq]
   have:c.sels.length=ns.length:=by rw [h.sel];simp
   simp;omega
 refine ⟨fun a b=>⟨_,hdc a b⟩,fun a b=>?_⟩
 have e1:selT t (c.lists a b (insA c.sels (posS (selT t c) name) (symW n)) (insA c.mets (posS (selT t c) name) (4*m)))=insA (selT t c) (posS (selT t c) name) name:=by
  rw [(hdc a b).texts hw,et,ht]
 have e2:(insA c.mets (posS (selT t c) name) (4*m)).map oopW=insA (c.mets.map oopW) (posS (selT t c) name) m:=by
  unfold insA
  simp [oopW_obj h1 h2]
 unfold entsC
 rw [e1]
 show ((insA (selT t c) _ name).zip ((insA c.mets _ (4*m)).map oopW)).Perm _
 rw [e2,ins_zip (by rw [ht];simp [h.len])]
 refine (ins_perm _ _ _).trans ?_
 have:((selT t c).zip (c.mets.map oopW)).filter (fun e=>decide (e.1≠name))=(selT t c).zip (c.mets.map oopW):=by
  refine List.filter_eq_self.2 fun e he=>?_
  simp only [decide_eq_true_eq]
  exact fun h=>hno (h ▸ (List.of_mem_zip he).1)
 rw [this]
theorem ents_at {t:TB}{c:CV}{ns:List Nat} (h:DC t c ns) (hw:WFT t){name:ByteArray} (hm:name∈selT t c):∃ hp:posS (selT t c) name<(entsC t c).length,(entsC t c)[posS (selT t c) name].1=name∧(entsC t c)[posS (selT t c) name].2=oopW (c.mets.getD (posS (selT t c) name) 0)∧posS (selT t c) name<c.mets.length∧posS (selT t c) name<c.sels.length:=by
 have ht:=h.texts hw
 have hs:(selT t c).Pairwise ltS:=by rw [ht];exact h.srt
 have hg:=(posS_mem hs).1 hm
 obtain ⟨hl,e⟩:=List.getElem?_eq_some_iff.1 hg
 have l1:(selT t c).length=c.sels.length:=by unfold selT;simp
 have l2:c.mets.length=c.sels.length:=by rw [h.len,h.sel];simp
 have hp:posS (selT t c) name<(entsC t c).length:=by unfold entsC;simp;omega
 refine ⟨hp,?_,?_,by omega,by omega⟩
 ·simp only [entsC,List.getElem_zip];exact e
 ·simp only [entsC,List.getElem_zip,List.getElem_map]
  have:posS (selT t c) name<c.mets.length:=by omega
  simp [this]
theorem over_ok {t:TB}{c:CV}{ns:List Nat} (h:DC t c ns) (hw:WFT t){name:ByteArray} (hm:name∈selT t c){m:Int} (h1:1≤m) (h2:m≤65536) :
  DOK t c c.sels (c.mets.set (posS (selT t c) name) (4*m)) ((name,m) :: (entsC t c).filter fun e=>decide (e.1≠name)):=by
 obtain ⟨hp,e1,_,hpm,_⟩:=ents_at h hw hm
 have hdc:∀ a b,DC t (c.lists a b c.sels (c.mets.set (posS (selT t c) name) (4*m))) ns:=fun a b=>⟨h.sel,h.num,h.srt,by show (c.mets.set _ _).length=_;simp [h.len],fun w hw'=>by
  rcases List.mem_or_eq_of_mem_set hw' with hw' | rfl
  ·exact h.obj w hw'
  ·exact ⟨m,rfl,h1,h2⟩,h.most⟩
 refine ⟨fun a b=>⟨ns,hdc a b⟩,fun a b=>?_⟩
 have e3:entsC t (c.lists a b c.sels (c.mets.set (posS (selT t c) name) (4*m)))=(entsC t c).set (posS (selT t c) name) (name,m):=by
  unfold entsC
  show (selT t c).zip ((c.mets.set _ (4*m)).map oopW)=_
  rw [List.map_set,oopW_obj h1 h2]
  apply List.ext_getElem?
  intro j
  rw [List.getElem?_set]
  by_cases hj:posS (selT t c) name=j
  ·subst hj
   rw [if_pos rfl,if_pos (by unfold entsC at hp;exact hp)]
   have h4:(selT t c)[posS (selT t c) name]?=some name:=by
    have:(selT t c)[posS (selT t c) name]'(by unfold entsC at hp;simp at hp;omega)=name:=by simpa [entsC] using e1
    rw [List.getElem?_eq_getElem (by unfold entsC at hp;simp at hp;omega),this]
   have h5:((c.mets.map oopW).set (posS (selT t c) name) m)[posS (selT t c) name]?=some m:=by rw [List.getElem?_set_self (by simpa using hpm)]
   rw [(List.getElem?_zip_eq_some (z:=(name,m))).2 ⟨h4,h5⟩]
  ·rw [if_neg hj]
   have:((c.mets.map oopW).set (posS (selT t c) name) m)[j]?=(c.mets.map oopW)[j]?:=List.getElem?_set_ne hj
   simp only [List.zip,List.getElem?_zipWith,this]
 rw [e3]
 refine (set_perm hp _).trans ?_
 have:=key_split (ents_nodup h hw).1 hp
 rw [e1] at this
 rw [this]
theorem remove_ok {t:TB}{c:CV}{ns:List Nat} (h:DC t c ns) (hw:WFT t){name:ByteArray} (hm:name∈selT t c) :
  DOK t c (c.sels.eraseIdx (posS (selT t c) name)) (c.mets.eraseIdx (posS (selT t c) name)) ((entsC t c).filter fun e=>decide (e.1≠name)):=by
 obtain ⟨hp,e1,_,hpm,hps⟩:=ents_at h hw hm
 have hdc:∀ a b,DC t (c.lists a b (c.sels.eraseIdx (posS (selT t c) name)) (c.mets.eraseIdx (posS (selT t c) name))) (ns.eraseIdx (posS (selT t c) name)):=fun a b=>by
  have hsl:ns.length=c.sels.length:=by rw [h.sel];simp
  refine ⟨?_,fun x hx=>h.num x (List.mem_of_mem_eraseIdx hx),?_,?_,fun w hw'=>h.obj w (List.mem_of_mem_eraseIdx hw'),?_⟩
  ·show c.sels.eraseIdx _=_
   rw [h.sel,map_eraseIdx']
  ·rw [map_eraseIdx'];exact h.srt.sublist (List.eraseIdx_sublist _ _)
  ·show (c.mets.eraseIdx _).length=_
   rw [List.length_eraseIdx,List.length_eraseIdx,h.len]
  ·have:=h.most
   rw [List.length_eraseIdx];split <;> omega
 refine ⟨fun a b=>⟨_,hdc a b⟩,fun a b=>?_⟩
 have e3:entsC t (c.lists a b (c.sels.eraseIdx (posS (selT t c) name)) (c.mets.eraseIdx (posS (selT t c) name)))=(entsC t c).eraseIdx (posS (selT t c) name):=by
  unfold entsC
  show ((c.sels.eraseIdx _).map (textW t)).zip ((c.mets.eraseIdx _).map oopW)=_
  rw [map_eraseIdx',map_eraseIdx']
  show ((selT t c).eraseIdx _).zip _=_
  simp only [List.eraseIdx_eq_take_drop_succ]
  have l1:(selT t c).length=(c.mets.map oopW).length:=by unfold selT;rw [List.length_map,List.length_map,h.len,h.sel];simp
  rw [List.zip_append (by simp [l1]),zip_take,zip_drop]
 rw [e3]
 have:=key_split (ents_nodup h hw).1 hp
 rw [e1] at this
 rw [this]
end Go.Proofs.YtmkdkplipbocjaaGreatDoor
