/- Lemmas for RDLists: functions of the program as predicate transformers, and their contracts. -/
import Derived.Test.YtmkdkplipbocjaaGreatDoorZT2
set_option linter.all false
set_option maxRecDepth 100000
set_option maxHeartbeats 4000000
namespace Kw
open Go
def eS (P:Program) (t:TypeId):Option (TypeDesc × Option Value) :=
 match P.underlying t with
 | some (.map k e)=>match P.underlying k,P.info? e with
  | some d,some i=>some (d,i.zero)
  | _,_=>none
 | _=>none
inductive Key
 | str (s:ByteArray)
 | int (n:Int)
deriving DecidableEq
def Key.v:Key->Value
 | .str s=>.string s
 | .int n=>.int .i64 n
def Key.of:TypeDesc->Key->Prop
 | .string,.str _=>True
 | .int _,.int _=>True
 | _,_=>False
def CO (ents:Array MapEntry) (clock:Nat):Prop:=(ents.toList.map (·.born)).Nodup∧∀ e∈ents.toList,e.born<clock
def dQ (H:aj) (r:Nat) (es:List (Key × Value)):Prop:=∃(ents:Array MapEntry) (clock:Nat),H[r]?=some (.map ents clock)∧ents.toList.map (fun e=>(e.key,e.val))=es.map (fun p=>(p.1.v,p.2))∧CO ents clock
theorem dQ.new (H:aj):dQ (H.push (.map #[] 0)) H.size []:=⟨#[],0,by simp,rfl,by simp [CO]⟩
theorem dQ.lt {H:aj}{r:Nat}{es:List (Key × Value)} (h:dQ H r es):r<H.size:=by
 obtain ⟨ents,clock,hr,_⟩:=h;exact (Array.getElem?_eq_some_iff.1 hr).1
theorem dQ.of_eq {H H':aj}{r:Nat}{es:List (Key × Value)} (h:dQ H r es) (he:H'[r]?=H[r]?):dQ H' r es:=by
 obtain ⟨ents,clock,hr,h2⟩:=h;exact ⟨ents,clock,he.trans hr,h2⟩
theorem dQ.fr {H H':aj}{G:ay}{r:Nat}{es:List (Key × Value)} (h:dQ H r es) (hf:Fr G H H') (hn:r∉G):dQ H' r es:=h.of_eq (hf.2 r h.lt hn)
def d7:List (Key × Value)->Key->Option Value
 | [],_=>none
 | p :: l,k=>if k=p.1 then some p.2 else d7 l k
theorem qs (a b:ByteArray):(a == b)=true↔a=b:=by
 obtain ⟨x⟩:=a
 obtain ⟨y⟩:=b
 show (x == y)=true↔_
 simp
theorem sX {d:TypeDesc}{k k':Key} (h:k.of d) (h':k'.of d):Instr.sameNow d k.v k'.v=some (decide (k=k')):=by
 cases d <;> cases k <;> cases k' <;> simp_all [Key.of,Key.v,Instr.sameNow] <;> (rw [Bool.eq_iff_iff];simp [qs])
def gj:List (Key × Value)->Key->Option Nat
 | [],_=>none
 | p :: l,k=>if k=p.1 then some 0 else (gj l k).map (·+1)
theorem fU {es:List (Key × Value)}{k:Key}:gj es k=none↔d7 es k=none:=by
 induction es with
 | nil=>simp [gj,d7]
 | cons p l ih =>
  unfold gj d7
  by_cases h:k=p.1
  ·simp [h]
  ·rw [if_neg h,if_neg h];simpa using ih
theorem mK {d:TypeDesc}{k:Key} (hk:k.of d):∀ (ents:List MapEntry) (es:List (Key × Value)) (i:Nat),ents.map (fun e=>(e.key,e.val))=es.map (fun p=>(p.1.v,p.2))->(∀ p∈es,p.1.of d) ->
  Instr.findNow d k.v ents i=some (match gj es k,d7 es k with
   | some j,some v=>some (i+j,v)
   | _,_=>none)
 | [],[],i,_,_=>rfl
 | [],_ :: _,_,h,_=>by simp at h
 | _ :: _,[],_,h,_=>by simp at h
 | e :: ents,p :: es,i,h,ho=>by
  simp only [List.map_cons,List.cons.injEq,Prod.mk.injEq] at h
  obtain ⟨⟨h1,h2⟩,h3⟩:=h
  unfold Instr.findNow
  rw [h1,sX hk (ho p (by simp))]
  unfold gj d7
  by_cases hkp:k=p.1
  ·simp [hkp,h2]
  ·have ih:=mK hk ents es (i+1) h3 fun q hq=>ho q (by simp [hq])
   simp only [hkp,decide_false,if_false]
   rw [ih]
   cases h4:gj es k with
   | none=>simp
   | some j =>
    cases h5:d7 es k with
    | none=>exact absurd (fU.2 h5) (by rw [h4];simp)
    | some v=>simp;omega
section
variable {P:Program}{H:aj}
theorem iM {t:TypeId}{d:TypeDesc}{k:Key}{e:Bool}{Q:Unit->aj->Prop} (hu:P.underlying t=some d) (hk:k.of d) (h:Q () H):bk P (Instr.checkKey e 10000 t k.v) Q H:=by
 unfold Instr.checkKey
 refine av (aP hu ?_)
 cases d <;> cases k <;> simp_all [Key.of,Key.v] <;> exact h
theorem je {t:TypeId}{d:TypeDesc}{k:Key}{ents:Array MapEntry}{es:List (Key × Value)}{Q:Option (Nat × Value)->aj->Prop} (hu:P.underlying t=some d) (hk:k.of d) (he:ents.toList.map (fun e=>(e.key,e.val))=es.map fun p=>(p.1.v,p.2)) (ho:∀ p∈es,p.1.of d)
  (h:Q (match gj es k,d7 es k with
   | some j,some v=>some (j,v)
   | _,_=>none) H):bk P (Instr.findKey t k.v ents.toList) Q H:=by
 unfold Instr.findKey
 refine av (aP hu ?_)
 rw [mK hk _ _ 0 he ho]
 cases h4:gj es k with
 | none=>rw [h4] at h;exact h
 | some j =>
  cases h5:d7 es k with
  | none=>rw [h4,h5] at h;exact h
  | some v=>rw [h4,h5] at h;show Q (some (0+j,v)) H;rw [Nat.zero_add];exact h
theorem ft {T:TypeId}{d:TypeDesc}{z:Option Value} (h:eS P T=some (d,z)):∃ k e i,P.underlying T=some (.map k e)∧P.underlying k=some d∧P.info? e=some i∧i.zero=z:=by
 unfold eS at h
 split at h
 ·rename_i k e hu
  split at h
  ·rename_i d' i h1 h2
   cases h
   exact ⟨k,e,i,hu,h1,h2,rfl⟩
  ·cases h
 ·cases h
theorem kq {T:TypeId}{d:TypeDesc}{z:Value}{r:Nat}{k:Key}{es:List (Key × Value)}{ok:Bool}{Q:Value->aj->Prop} (hi:eS P T=some (d,some z)) (hk:k.of d) (ho:∀ p∈es,p.1.of d) (hm:dQ H r es)
  (h:Q (if ok then .tuple #[(d7 es k).getD z,.bool (d7 es k).isSome] else (d7 es k).getD z) H):bk P (Instr.lookup T (.map (some r)) k.v ok) Q H:=by
 obtain ⟨kt,et,i,hu,hkt,hie,hz⟩:=ft hi
 obtain ⟨ents,clock,hr,he,hbn⟩:=hm
 unfold Instr.lookup
 refine av (aP hu ?_)
 refine av ?_
 refine (⟨_,hr,rfl,?_⟩:∃ o,H[r]?=some o∧cv o=false∧_)
 refine av (dl ?_)
 refine av (iM hkt hk ?_)
 refine av (je hkt hk he ho ?_)
 cases h5:d7 es k with
 | none =>
  rw [fU.2 h5]
  rw [h5] at h
  exact av (du hie hz h)
 | some v =>
  cases h4:gj es k with
  | none=>rw [fU.1 h4] at h5;cases h5
  | some j=>rw [h5] at h;exact h
theorem dq {α β:Type} (f:α->β):∀ (l:List α) (j:Nat),(l.eraseIdx j).map f=(l.map f).eraseIdx j
 | [],_=>rfl
 | _ :: _,0=>rfl
 | x :: l,j+1=>by simp [dq f l j]
def lU:List (Key × Value)->Key->Value->List (Key × Value)
 | [],k,v=>[(k,v)]
 | p :: l,k,v=>if k=p.1 then (k,v) :: l else p :: lU l k v
def oI:List (Key × Value)->Key->List (Key × Value)
 | [],_=>[]
 | p :: l,k=>if k=p.1 then l else p :: oI l k
theorem xx (es:List (Key × Value)) (k k':Key) (v:Value):d7 (lU es k v) k'=if k'=k then some v else d7 es k':=by
 induction es with
 | nil=>simp [lU,d7]
 | cons p l ih =>
  unfold lU
  by_cases h:k=p.1
  ·rw [if_pos h]
   unfold d7
   by_cases h2:k'=k
   ·simp [h2]
   ·simp only [h2,if_false]
    rw [if_neg (fun e=>h2 (e.trans h.symm))]
  ·rw [if_neg h]
   unfold d7
   by_cases h2:k'=p.1
   ·rw [if_pos h2,if_pos h2,if_neg (fun e=>h (e.symm.trans h2))]
   ·rw [if_neg h2,if_neg h2];exact ih
theorem mm {es:List (Key × Value)}{k:Key}{v:Value} (h:gj es k=none):lU es k v=es++[(k,v)]:=by
 induction es with
 | nil=>rfl
 | cons p l ih =>
  unfold gj at h
  unfold lU
  by_cases hk:k=p.1
  ·rw [if_pos hk] at h;cases h
  ·rw [if_neg hk] at h ⊢
   rw [ih (by simpa using h)];rfl
theorem pF {es:List (Key × Value)}{k:Key}{v:Value}{j:Nat} (h:gj es k=some j):lU es k v=es.set j (k,v)∧j<es.length:=by
 induction es generalizing j with
 | nil=>cases h
 | cons p l ih =>
  unfold gj at h
  unfold lU
  by_cases hk:k=p.1
  ·rw [if_pos hk] at h ⊢
   cases h
   simp
  ·rw [if_neg hk] at h ⊢
   cases h4:gj l k with
   | none=>rw [h4] at h;cases h
   | some i =>
    rw [h4] at h
    cases h
    have:=ih h4
    exact ⟨by rw [this.1];rfl,by simp;exact this.2⟩
theorem xy {es:List (Key × Value)}{k:Key}{j:Nat} (h:gj es k=some j):oI es k=es.eraseIdx j:=by
 induction es generalizing j with
 | nil=>cases h
 | cons p l ih =>
  unfold gj at h
  unfold oI
  by_cases hk:k=p.1
  ·rw [if_pos hk] at h ⊢
   cases h
   rfl
  ·rw [if_neg hk] at h ⊢
   cases h4:gj l k with
   | none=>rw [h4] at h;cases h
   | some i =>
    rw [h4] at h
    cases h
    rw [ih h4];rfl
theorem wt {es:List (Key × Value)}{k:Key} (h:gj es k=none):oI es k=es:=by
 induction es with
 | nil=>rfl
 | cons p l ih =>
  unfold gj at h
  unfold oI
  by_cases hk:k=p.1
  ·rw [if_pos hk] at h;cases h
  ·rw [if_neg hk] at h ⊢
   rw [ih (by simpa using h)]
theorem lR {k:Key}{Q:Value->aj->Prop} (h:Q k.v H):bk P (Instr.keyThatStays k.v k.v) Q H:=by
 unfold Instr.keyThatStays
 have:Instr.sameBits 10000 k.v k.v=true:=by
  cases k with
  | str s=>show (s == s)=true;rw [qs]
  | int n=>simp [Key.v,Instr.sameBits]
 rw [if_pos this]
 exact h
theorem Bf {es:List (Key × Value)}{k:Key}{j:Nat} (h:gj es k=some j):∃ v,es[j]?=some (k,v):=by
 induction es generalizing j with
 | nil=>cases h
 | cons p l ih =>
  unfold gj at h
  by_cases hk:k=p.1
  ·rw [if_pos hk] at h
   cases h
   exact ⟨p.2,by simp [hk]⟩
  ·rw [if_neg hk] at h
   cases h4:gj l k with
   | none=>rw [h4] at h;cases h
   | some i =>
    rw [h4] at h
    cases h
    simpa using ih h4
theorem jV {T:TypeId}{d:TypeDesc}{z:Option Value}{r:Nat}{k:Key}{v:Value}{es:List (Key × Value)}{Q:Unit->aj->Prop} (hi:eS P T=some (d,z)) (hk:k.of d) (ho:∀ p∈es,p.1.of d) (hm:dQ H r es)
  (h:∀ H',dQ H' r (lU es k v)->Fr [r] H H'->Q () H'):bk P (Instr.mapUpdate T (.map (some r)) k.v v) Q H:=by
 obtain ⟨kt,et,i,hu,hkt,hie,hz⟩:=ft hi
 obtain ⟨ents,clock,hr,he,hbn⟩:=hm
 have hrl:r<H.size:=(Array.getElem?_eq_some_iff.1 hr).1
 have hset:∀ o:Obj,Fr [r] H (H.setIfInBounds r o)∧(H.setIfInBounds r o)[r]?=some o:=fun o =>
  ⟨⟨by simp,fun b _ hn=>by rw [Array.getElem?_setIfInBounds,if_neg (by simp only [List.mem_singleton] at hn;exact fun e=>hn e.symm)]⟩,by simp [hrl]⟩
 unfold Instr.mapUpdate
 refine av (aP hu ?_)
 refine av ?_
 refine (⟨_,hr,rfl,?_⟩:∃ o,H[r]?=some o∧cv o=false∧_)
 refine av (iM hkt hk ?_)
 refine av (je hkt hk he ho ?_)
 cases h4:gj es k with
 | none =>
  refine (⟨⟨_,hr,rfl⟩,?_⟩:(∃ o',H[r]?=some o'∧cv o'=false)∧_)
  refine h _ ⟨_,_,(hset _).2,?_,?_⟩ (hset _).1
  ·rw [mm h4]
   simp [he]
  ·refine ⟨?_,fun e hmem=>?_⟩
   ·rw [Array.toList_push,List.map_append,List.nodup_append]
    refine ⟨hbn.1,by simp,fun a ha b hb hab=>?_⟩
    obtain ⟨e,hmem,rfl⟩:=List.mem_map.1 ha
    have:=hbn.2 e hmem
    simp only [List.map_cons,List.map_nil,List.mem_singleton] at hb
    omega
   ·rw [Array.toList_push] at hmem
    rcases List.mem_append.1 hmem with hmem | hmem
    ·have:=hbn.2 e hmem;omega
    ·simp only [List.mem_singleton] at hmem;subst hmem;exact Nat.lt_succ_self _
 | some j =>
  cases h5:d7 es k with
  | none=>rw [fU.2 h5] at h4;cases h4
  | some w =>
   have hset4:=pF (v:=v) h4
   have hlen:ents.size=es.length:=by have:=congrArg List.length he;simpa using this
   have hjl:j<ents.size:=by omega
   obtain ⟨u,hu2⟩:=Bf h4
   have hkey:ents[j].key=k.v:=by
    have h6:(ents.toList.map fun e=>(e.key,e.val))[j]?=(es.map fun p=>(p.1.v,p.2))[j]?:=by rw [he]
    rw [List.getElem?_map,List.getElem?_map,hu2] at h6
    simp [hjl] at h6
    exact h6.1
   refine av ?_
   have hg:((ents[j]?).map (·.key)).getD k.v=k.v:=by simp [hjl,hkey]
   rw [hg]
   refine lR ?_
   refine (⟨⟨_,hr,rfl⟩,?_⟩:(∃ o',H[r]?=some o'∧cv o'=false)∧_)
   have hbm:CO (ents.modify j fun e=>{ e with key:=k.v,val:=v }) clock:=by
    have hbl:(ents.modify j fun e=>{ e with key:=k.v,val:=v }).toList.map (·.born)=ents.toList.map (·.born):=by
     apply List.ext_getElem?
     intro q
     rw [List.getElem?_map,List.getElem?_map,Array.getElem?_toList,Array.getElem?_toList,Array.getElem?_modify]
     split
     ·rename_i e;subst e;cases ents[j]? <;> rfl
     ·rfl
    refine ⟨by rw [hbl];exact hbn.1,fun e hmem=>?_⟩
    have:e.born∈ents.toList.map (·.born):=by rw [←hbl];exact List.mem_map.2 ⟨e,hmem,rfl⟩
    obtain ⟨e',h1,h2⟩:=List.mem_map.1 this
    rw [←h2];exact hbn.2 e' h1
   refine h _ ⟨_,clock,(hset _).2,?_,hbm⟩ (hset _).1
   rw [hset4.1]
   apply List.ext_getElem?
   intro q
   rw [List.getElem?_map,List.getElem?_map,Array.getElem?_toList,Array.getElem?_modify,List.getElem?_set]
   have h6:(ents.toList.map fun e=>(e.key,e.val))[q]?=(es.map fun p=>(p.1.v,p.2))[q]?:=by rw [he]
   rw [List.getElem?_map,List.getElem?_map,Array.getElem?_toList] at h6
   by_cases hjq:j=q
   ·subst hjq
    simp [hjl,hset4.2]
   ·rw [if_neg hjq,if_neg hjq];exact h6
theorem t8 {T:TypeId}{d:TypeDesc}{z:Option Value}{a1 T0:TypeId}{r:Nat}{k:Key}{es:List (Key × Value)}{Q:Value->aj->Prop} (hi:eS P T=some (d,z)) (hk:k.of d) (ho:∀ p∈es,p.1.of d) (hm:dQ H r es)
  (h:∀ H',dQ H' r (oI es k)->Fr [r] H H'->Q (.tuple #[]) H'):bk P (Builtin.delete_ #[T,a1] T0 #[.map (some r),k.v]) Q H:=by
 obtain ⟨kt,et,i,hu,hkt,hie,hz⟩:=ft hi
 obtain ⟨ents,clock,hr,he,hbn⟩:=hm
 have hrl:r<H.size:=(Array.getElem?_eq_some_iff.1 hr).1
 have hset:∀ o:Obj,Fr [r] H (H.setIfInBounds r o)∧(H.setIfInBounds r o)[r]?=some o:=fun o =>
  ⟨⟨by simp,fun b _ hn=>by rw [Array.getElem?_setIfInBounds,if_neg (by simp only [List.mem_singleton] at hn;exact fun e=>hn e.symm)]⟩,by simp [hrl]⟩
 unfold Builtin.delete_
 refine av (aP hu ?_)
 refine av ?_
 refine (⟨_,hr,rfl,?_⟩:∃ o,H[r]?=some o∧cv o=false∧_)
 refine av (iM hkt hk ?_)
 refine av (je hkt hk he ho ?_)
 cases h4:gj es k with
 | none =>
  refine av ?_
  refine (⟨⟨_,hr,rfl⟩,?_⟩:(∃ o',H[r]?=some o'∧cv o'=false)∧_)
  refine h _ ⟨ents,clock,(hset _).2,?_,hbn⟩ (hset _).1
  rw [wt h4];exact he
 | some j =>
  cases h5:d7 es k with
  | none=>rw [fU.2 h5] at h4;cases h4
  | some v =>
   refine av ?_
   refine (⟨⟨_,hr,rfl⟩,?_⟩:(∃ o',H[r]?=some o'∧cv o'=false)∧_)
   have hsub:(ents.eraseIdxIfInBounds j).toList.Sublist ents.toList:=by
    rw [Array.eraseIdxIfInBounds]
    split
    ·rw [Array.toList_eraseIdx];exact List.eraseIdx_sublist _ _
    ·exact List.Sublist.refl _
   refine h _ ⟨_,clock,(hset _).2,?_,hbn.1.sublist (hsub.map _),fun e hmem=>hbn.2 e (hsub.subset hmem)⟩ (hset _).1
   rw [xy h4]
   have hlen:ents.size=es.length:=by have:=congrArg List.length he;simpa using this
   have hjl:=(pF (v:=v) h4).2
   rw [Array.eraseIdxIfInBounds,dif_pos (by omega),Array.toList_eraseIdx,dq,dq,he]
theorem ul {T T0:TypeId}{d:TypeDesc}{z:Option Value}{r:Nat}{es:List (Key × Value)}{Q:Value->aj->Prop} (hi:eS P T=some (d,z)) (hm:dQ H r es) (h:Q (.int .i64 (es.length:Int)) H):bk P (Builtin.len_ #[T] T0 #[.map (some r)]) Q H:=by
 obtain ⟨kt,et,i,hu,hkt,hie,hz⟩:=ft hi
 obtain ⟨ents,clock,hr,he,hbn⟩:=hm
 unfold Builtin.len_
 refine av (aP hu ?_)
 refine av ?_
 refine (⟨_,hr,rfl,?_⟩:∃ o,H[r]?=some o∧cv o=false∧_)
 have hlen:ents.size=es.length:=by have:=congrArg List.length he;simpa using this
 show Q (goInt ents.size) H
 rw [hlen]
 exact h
def gq (H:aj) (b r:Nat) (es done:List (Key × Value)):Prop:=∃(ents:Array MapEntry) (clock:Nat) (seen:Array Nat) (ds rest:List MapEntry),H[r]?=some (.map ents clock)∧ents.toList.map (fun e=>(e.key,e.val))=es.map (fun p=>(p.1.v,p.2))∧CO ents clock ∧
 H[b]?=some (.mapIter (some r) clock seen clock)∧seen.toList=ds.map (·.born)∧(ds++rest).Perm ents.toList∧ds.map (fun e=>(e.key,e.val))=done.map (fun p=>(p.1.v,p.2))
theorem Key.v_inj {k k':Key} (h:k.v=k'.v):k=k':=by
 cases k <;> cases k' <;> simp_all [Key.v]
theorem tQ {l l':List (Key × Value)} (h:(l.map fun p=>(p.1.v,p.2)).Perm (l'.map fun p=>(p.1.v,p.2))):l.Perm l':=by
 induction l generalizing l' with
 | nil=>have:=h.length_eq;simp at this;have:l'=[]:=List.eq_nil_of_length_eq_zero this.symm;rw [this]
 | cons p l ih =>
  have hmem:(p.1.v,p.2)∈l'.map (fun p=>(p.1.v,p.2)):=h.subset (by simp)
  obtain ⟨q,hq,he⟩:=List.mem_map.1 hmem
  simp only [Prod.mk.injEq] at he
  have hqp:q=p:=Prod.ext (Key.v_inj he.1) he.2
  subst hqp
  obtain ⟨s,t,rfl⟩:=List.append_of_mem hq
  refine (List.Perm.cons q (ih ?_)).trans (List.perm_middle.symm)
  have h2:(q :: l).map (fun p=>(p.1.v,p.2)) |>.Perm ((q :: (s++t)).map fun p=>(p.1.v,p.2)):=h.trans (List.Perm.map _ List.perm_middle)
  simpa using List.Perm.cons_inv h2
theorem gq.len {b r:Nat}{es done:List (Key × Value)} (h:gq H b r es done):done.length<=es.length:=by
 obtain ⟨ents,clock,seen,ds,rest,_,he,_,_,_,hp,hd⟩:=h
 have h1:=hp.length_eq
 have h2:=congrArg List.length he
 have h3:=congrArg List.length hd
 simp only [List.length_map,List.length_append] at h1 h2 h3
 omega
theorem gq.fr {H':aj}{G:ay}{b r:Nat}{es done:List (Key × Value)} (h:gq H b r es done) (hf:Fr G H H') (hb:b∉G) (hr:r∉G):gq H' b r es done:=by
 obtain ⟨ents,clock,seen,ds,rest,h1,h2,h3,h4,h5⟩:=h
 exact ⟨ents,clock,seen,ds,rest,(hf.2 r (Array.getElem?_eq_some_iff.1 h1).1 hr).trans h1,h2,h3,(hf.2 b (Array.getElem?_eq_some_iff.1 h4).1 hb).trans h4,h5⟩
theorem gq.map {b r:Nat}{es done:List (Key × Value)} (h:gq H b r es done):dQ H r es:=by
 obtain ⟨ents,clock,seen,ds,rest,h1,h2,h3,_⟩:=h
 exact ⟨ents,clock,h1,h2,h3⟩
theorem rh {T:TypeId}{d:TypeDesc}{z:Option Value}{r:Nat}{es:List (Key × Value)}{Q:Value->aj->Prop} (hi:eS P T=some (d,z)) (hm:dQ H r es)
  (h:∀ H',gq H' H.size r es []->Fr [] H H'->Q (.pointer (some ⟨H.size,0,none⟩)) H'):bk P (Instr.range T (.map (some r))) Q H:=by
 obtain ⟨kt,et,i,hu,hkt,hie,hz⟩:=ft hi
 obtain ⟨ents,clock,hr,he,hbn⟩:=hm
 have hlt:r<H.size:=(Array.getElem?_eq_some_iff.1 hr).1
 unfold Instr.range
 refine av ?_
 refine av (aP hu ?_)
 refine av ?_
 refine (⟨_,hr,rfl,?_⟩:∃ o,H[r]?=some o∧cv o=false∧_)
 show Q (.pointer (some ⟨H.size,0,none⟩)) (H.push (.mapIter (some r) clock #[] clock))
 refine h _ ⟨ents,clock,#[],[],ents.toList,?_,he,hbn,by simp,rfl,by simp,rfl⟩ (Fr.push [] H _)
 rw [Array.getElem?_push,if_neg (by omega)];exact hr
theorem tj {T0:TypeId}{b r:Nat}{es done:List (Key × Value)}{Q:Value->aj->Prop} (hm:gq H b r es done) (h0:done.Perm es->Q (.tuple #[.bool false]) H)
  (h1:∀ p H',p∈es->gq H' b r es (done++[p])->Fr [b] H H'->Q (.tuple #[.bool true,p.1.v,p.2]) H'):bk P (Instr.next (.pointer (some ⟨b,0,none⟩)) false T0) Q H:=by
 obtain ⟨ents,clock,seen,ds,rest,hr,he,hbn,hb,hs,hp,hd⟩:=hm
 have hbl:b<H.size:=(Array.getElem?_eq_some_iff.1 hb).1
 have hbr:b≠r:=fun e=>by subst e;rw [hr] at hb;cases hb
 unfold Instr.next
 refine av ?_
 refine (⟨_,hb,rfl,?_⟩:∃ o,H[b]?=some o∧cv o=false∧_)
 refine av ?_
 refine (⟨_,hr,rfl,?_⟩:∃ o,H[r]?=some o∧cv o=false∧_)
 refine dl ?_
 have hany:(!seen.isEmpty && !ents.isEmpty && ents.all fun x=>decide (x.born ≥ clock))=false:=by
  by_cases hemp:ents.isEmpty=true
  ·simp [hemp]
  ·have hpos:0<ents.size:=by
    rcases Nat.eq_zero_or_pos ents.size with h | h
    ·exact absurd (by simp [Array.isEmpty,h]) hemp
    ·exact h
   have:ents.all (fun x=>decide (x.born ≥ clock))=false:=by
    rw [Bool.eq_false_iff]
    intro hall
    have h2:=(Array.all_eq_true.1 hall) 0 hpos
    have h3:=hbn.2 ents[0] (by simp)
    have h4:ents[0].born ≥ clock:=by simpa using h2
    omega
   rw [this,Bool.and_false]
 simp only [hany,Bool.false_eq_true,if_false,ge_iff_le]
 obtain ⟨left,hleft⟩:∃ left:Array MapEntry,left=ents.filter fun e=>!seen.contains e.born:=⟨_,rfl⟩
 rw [←hleft]
 have hlm:∀ e,e∈left.toList↔e∈rest:=by
  intro e
  rw [hleft,Array.toList_filter,List.mem_filter]
  have hnd:((ds++rest).map (·.born)).Nodup:=(List.Perm.map _ hp).nodup_iff.2 hbn.1
  rw [List.map_append,List.nodup_append] at hnd
  constructor
  ·rintro ⟨h2,h3⟩
   rcases List.mem_append.1 (hp.symm.subset h2) with h4 | h4
   ·exfalso
    have:e.born∈seen:=by rw [←Array.mem_toList_iff,hs];exact List.mem_map.2 ⟨e,h4,rfl⟩
    simp [this] at h3
   ·exact h4
  ·intro h2
   refine ⟨hp.subset (by simp [h2]),?_⟩
   have:e.born∉seen:=fun hin=>by
    rw [←Array.mem_toList_iff,hs] at hin
    obtain ⟨e',h4,h5⟩:=List.mem_map.1 hin
    exact hnd.2.2 _ (List.mem_map.2 ⟨e',h4,rfl⟩) _ (List.mem_map.2 ⟨e,h2,rfl⟩) h5
   simp [this]
 have hold:left.filter (fun e=>decide (e.born<clock))=left:=by
  rw [Array.filter_eq_self]
  intro e hmem
  have h2:=(hlm e).1 (by simpa using hmem)
  exact decide_eq_true (hbn.2 e (hp.subset (by simp [h2])))
 have hnew:left.filter (fun e=>decide (clock<=e.born))=#[]:=by
  rw [Array.filter_eq_empty_iff]
  intro e hmem
  have h2:=(hlm e).1 (by simpa using hmem)
  have:=hbn.2 e (hp.subset (by simp [h2]))
  simp;omega
 rw [hold,hnew]
 have key:∀ (cands:Array (Option MapEntry)) (i:Nat),(i<cands.size)->(cands=if left.isEmpty then #[none] else left.map some)->bk P (match cands[i]? with
   | some (some e)=>do
    setObj b (.mapIter (some r) clock (seen.push e.born) clock)
    pure (.tuple #[.bool true,e.key,e.val])
   | some none=>pure (.tuple #[.bool false])
   | none => stuck "Next: no such candidate") Q H := by
  intro cands i hi hc
  by_cases hemp:left.isEmpty=true
  ·rw [if_pos hemp] at hc
   subst hc
   simp only [List.size_toArray,List.length_cons,List.length_nil,Nat.zero_add,Nat.lt_one_iff] at hi
   subst hi
   refine h0 ?_
   have hrest:rest=[]:=by
    cases rest with
    | nil=>rfl
    | cons e rest =>
     have:=(hlm e).2 (by simp)
     simp [Array.isEmpty_iff.1 hemp] at this
   subst hrest
   rw [List.append_nil] at hp
   have h2:=List.Perm.map (fun e:MapEntry=>(e.key,e.val)) hp
   rw [hd,he] at h2
   exact tQ h2
  ·rw [if_neg hemp] at hc
   subst hc
   have hil:i<left.size:=by simpa using hi
   have hmem:left[i]∈rest:=(hlm _).1 (by simp)
   obtain ⟨s,t,hst⟩:=List.append_of_mem hmem
   have hget:(left.map some)[i]?=some (some left[i]):=by simp [hil]
   rw [hget]
   have hin:left[i]∈ents.toList:=hp.subset (by simp [hmem])
   have hpk:(left[i].key,left[i].val)∈es.map (fun p=>(p.1.v,p.2)):=by rw [←he];exact List.mem_map.2 ⟨_,hin,rfl⟩
   obtain ⟨p,hpm,hpe⟩:=List.mem_map.1 hpk
   simp only [Prod.mk.injEq] at hpe
   refine av ?_
   refine (⟨⟨_,hb,rfl⟩,?_⟩:(∃ o',H[b]?=some o'∧cv o'=false)∧_)
   show Q (.tuple #[.bool true,left[i].key,left[i].val]) (H.setIfInBounds b (.mapIter (some r) clock (seen.push left[i].born) clock))
   rw [←hpe.1,←hpe.2]
   refine h1 p _ hpm ⟨ents,clock,seen.push left[i].born,ds++[left[i]],s++t,?_,he,hbn,by simp [hbl],?_,?_,?_⟩ ⟨by simp,fun b' _ hn=>?_⟩
   ·rw [Array.getElem?_setIfInBounds_ne hbr];exact hr
   ·rw [Array.toList_push,hs,List.map_append];rfl
   ·refine List.Perm.trans ?_ hp
    rw [hst,List.append_assoc]
    exact List.Perm.append_left ds (by simpa using (List.perm_middle (l₁:=s) (l₂:=t) (a:=left[i])).symm)
   ·rw [List.map_append,List.map_append,hd]
    simp [hpe.1,hpe.2]
   ·rw [Array.getElem?_setIfInBounds_ne (fun e=>hn (by simp [e]))]
 have hcands:(if left.isEmpty=true then #[none] else #[])++Array.map some (left++#[])=if left.isEmpty then #[none] else left.map some:=by
  by_cases hemp:left.isEmpty=true
  ·rw [if_pos hemp,if_pos hemp,Array.isEmpty_iff.1 hemp];simp
  ·rw [if_neg hemp,if_neg hemp];simp
 have hpos:0<(if left.isEmpty=true then #[none] else left.map some).size:=by
  split
  ·simp
  ·rename_i hemp
   rcases Nat.eq_zero_or_pos left.size with h | h
   ·exact absurd (by simp [Array.isEmpty,h]) hemp
   ·simpa using h
 obtain ⟨cands,hc⟩:∃ c:Array (Option MapEntry),c=if left.isEmpty then #[none] else left.map some:=⟨_,rfl⟩
 rw [←hc] at hcands hpos
 simp only [hcands]
 refine av ?_
 show if (Question.mapNext cands.size).forced then _ else ∀ t,_
 split
 ·exact key _ 0 hpos hc
 ·intro t
  exact key _ _ (Nat.mod_lt _ hpos) hc
theorem ru {b r:Nat}{es done:List (Key × Value)}{p:Key × Value}{Q:Value->aj->Prop} (hm:gq H b r es (done++[p])) (h:Q (.tuple #[p.1.v,p.2]) H):bk P (Instr.entry (.pointer (some ⟨b,0,none⟩))) Q H:=by
 obtain ⟨ents,clock,seen,ds,rest,hr,he,hbn,hb,hs,hp,hd⟩:=hm
 unfold Instr.entry
 refine av ?_
 refine (⟨_,hb,rfl,?_⟩:∃ o,H[b]?=some o∧cv o=false∧_)
 refine dl ?_
 obtain ⟨ds',e,hde⟩:∃ ds' e,ds=ds'++[e]:=by
  rcases List.eq_nil_or_concat ds with h0 | ⟨m,x,h0⟩
  ·subst h0;simp at hd
  ·exact ⟨m,x,by simpa using h0⟩
 subst hde
 have hback:seen.back?=some e.born:=by
  have:seen=(ds'.map (·.born)++[e.born]).toArray:=by
   apply Array.ext';rw [hs];simp
  rw [this];simp
 simp only [hback]
 refine av ?_
 refine (⟨_,hr,rfl,?_⟩:∃ o,H[r]?=some o∧cv o=false∧_)
 refine dl ?_
 simp only [bne_self_eq_false,Bool.false_eq_true,if_false]
 have hin:e∈ents.toList:=hp.subset (by simp)
 have hfind:ents.find? (fun x=>x.born == e.born)=some e:=by
  rw [←Array.find?_toList]
  have:∀ (l:List MapEntry),(l.map (·.born)).Nodup->e∈l->l.find? (fun x=>x.born == e.born)=some e:=by
   intro l
   induction l with
   | nil=>intro _ h;cases h
   | cons x l ih =>
    intro hnd hmem
    rw [List.find?_cons]
    by_cases hx:x.born=e.born
    ·rcases List.mem_cons.1 hmem with rfl | hmem
     ·simp
     ·exfalso
      rw [List.map_cons] at hnd
      have:=(List.nodup_cons.1 hnd).1
      exact this (by rw [hx];exact List.mem_map.2 ⟨e,hmem,rfl⟩)
    ·have:(x.born == e.born)=false:=by simpa using hx
     rw [this]
     rcases List.mem_cons.1 hmem with rfl | hmem
     ·exact absurd rfl hx
     ·rw [List.map_cons] at hnd;exact ih (List.nodup_cons.1 hnd).2 hmem
  exact this _ hbn.1 hin
 rw [hfind]
 rw [List.map_append,List.map_append] at hd
 have h2:=(List.append_inj_right' hd rfl)
 simp only [List.map_cons,List.map_nil,List.cons.injEq,Prod.mk.injEq,and_true] at h2
 show Q (.tuple #[e.key,e.val]) H
 rw [h2.1,h2.2]
 exact h
end
end Kw
namespace Go.Proofs.YtmkdkplipbocjaaGreatDoor
open Kw
theorem mC {l:Nat}{args:Array Value}{Q Q':Value->aj->Prop}{H:aj} (h:ij PP l args Q H) (hq:∀ v H',Q v H'->Q' v H'):ij PP l args Q' H:=fun w hw=>by
 obtain ⟨fn,tmps,assign,body,h1,h2⟩:=h w hw
 exact ⟨fn,tmps,assign,body,h1,h2.mono fun e w' ⟨v,he,hv,hs⟩=>⟨v,he,hq _ _ hv,hs⟩⟩
theorem Fr.setObj (H:aj) (l:Nat) (o:Obj):Fr [l] H (H.setIfInBounds l o):=⟨by simp,fun b _ hn=>Array.getElem?_setIfInBounds_ne (fun e=>hn (by simp [e]))⟩
theorem jc.fr {n:Nat}{H0 H H':aj} (h:jc n H H') (hf:Fr [] H0 H) (hn:n=H0.size):Fr [] H0 H' :=
 ⟨by rw [h.1];exact hf.1,fun b hb _=>by
  rcases h.2 b with h1 | ⟨h1,_⟩
  ·rw [h1];exact hf.2 b hb (by simp)
  ·omega⟩
theorem jc.own {n k:Nat}{H H':aj}{a:Option Addr}{l c:Nat}{xs:List Value}{F:ay} (h:jc n H H') (ho:bv k H a l c xs F):bv k H' a l c xs F:=by
 refine ho.keep fun b hb=>?_
 rcases ho.2.2 with ⟨_,_,rfl⟩ | ⟨b',cs,_,rfl,⟨t,hB⟩,_⟩
 ·simp at hb
 ·simp only [List.mem_singleton] at hb
  subst hb
  rcases h.2 b with h1 | ⟨_,h1,_⟩
  ·exact h1
  ·rw [hB] at h1;cases h1
section
variable {H:aj}{hb:Nat}{F:ay}{r:RH}{Q:QT}
theorem kO (hR:dp H hb F r){k:Int} (h:Q (mP (r.clsAt k)) H):ah PP yl #[.pointer (some ⟨hb,0,none⟩),.int .i64 k] Q H:=by
 obtain ⟨_,_,_,_,_,_,_,_,hR⟩:=hR;exact BH hR h
theorem si (hR:dp H hb F r){k i:Int} (h:Q (mP (r.at k i)) H):ah PP tV #[.pointer (some ⟨hb,0,none⟩),.int .i64 k,.int .i64 i] Q H:=by
 obtain ⟨_,_,_,_,_,_,_,_,hR⟩:=hR;exact Ml hR h
theorem ra (hR:dp H hb F r){k:Int} (h:Q (jP (r.size k)) H):ah PP zp #[.pointer (some ⟨hb,0,none⟩),.int .i64 k] Q H:=by
 obtain ⟨_,_,_,_,_,_,_,_,hR⟩:=hR;exact GB hR h
theorem pR (hR:dp H hb F r) (h:Q (.int .i64 r.mark) H):ah PP D2 #[.pointer (some ⟨hb,0,none⟩)] Q H:=by
 obtain ⟨_,_,_,_,_,_,_,_,hR⟩:=hR;exact yE hR h
theorem rt (hR:dp H hb F r){w:Int} (h1:aZ r w≠0->Q (.tuple #[.int .i64 (aZ r w),.bool true]) H) (h2:aZ r w=0->∀ x:Int,Q (.tuple #[.int .i64 x,.bool false]) H):ah PP FM #[.pointer (some ⟨hb,0,none⟩),.int .i64 w] Q H:=by
 apply Bp
 unfold LX iV pV cS
 refine mu hR.kinds ?_
 unfold qD
 unfold aZ at h1 h2
 by_cases hk:cz w=3
 ·rw [if_pos hk]
  refine ⟨_,_,rfl,?_⟩
  rw [show ((0:Int) != 0)=false from rfl]
  simp only [cond_false]
  refine kO hR ?_
  have hw:=bG w
  cases ho:aH r.objs (w / 4) with
  | none =>
   refine ⟨_,_,rfl,?_⟩
   simp only [RH.clsAt,ho]
   exact h2 (by rw [ho];simp) _
  | some o =>
   refine ⟨_,_,rfl,?_⟩
   simp only [RH.clsAt,ho]
   simp only [hk,ho,Option.isSome_some,and_self,if_true] at h1
   exact h1 (by omega)
 ·rw [if_neg hk]
  refine ⟨_,_,rfl,?_⟩
  rw [show ((10:Int) != 0)=true from rfl]
  simp only [cond_true]
  exact h2 (by rw [if_neg (fun h=>hk h.1)]) _
def db (r:RH) (ws:List Int):List Int:=(ws.map (aZ r)).filter fun x=>decide (x≠0)
def ke (r:RH) (o:RO):List Int:=db r (o.cls :: if o.fmt=0 then o.slots else [])
theorem dT (r:RH) (l m:List Int):db r (l++m)=db r l++db r m:=by simp [db]
theorem fJ (r:RH) (w:Int):db r [w]=if aZ r w=0 then [] else [aZ r w]:=by
 by_cases h:aZ r w=0 <;> simp [db,h]
theorem kn {r:RH}{ws:List Int}{k:Int}:k∈db r ws↔∃ w∈ws,aZ r w=k∧k≠0:=by
 simp only [db,List.mem_filter,List.mem_map,decide_eq_true_eq]
 constructor
 ·rintro ⟨⟨w,h1,h2⟩,h3⟩;exact ⟨w,h1,h2,h3⟩
 ·rintro ⟨w,h1,h2,h3⟩;exact ⟨⟨w,h1,h2⟩,h3⟩
theorem AC {l:Nat}{q0 q1:Addr}{k:Int}{o:RO}{J:List Int->aj->Prop} (ho:aH r.objs k=some o)
  (hJ:∀ pre H',J pre H'->dp H' hb F r∧ac H' q0=some (.pointer (some ⟨hb,0,none⟩))∧ac H' q1=some (.int .i64 k))
  (hy:∀ pre x H',(∃ suf,ke r o=pre++x :: suf)->J pre H'->ij PP l #[.int .i64 x] (fun v H''=>v=.bool true∧J (pre++[x]) H'') H')
  (h0:J [] H) (h:∀ H',J (ke r o) H'->Q (.tuple #[]) H'):ah PP qZ #[.func (.yield l) #[] #[],.pointer (some q0),.pointer (some q1)] Q H:=by
 apply BM
 unfold Mr iV wW pV cS
 obtain ⟨hR,c0,c1⟩:=hJ _ _ h0
 have hg:=hR.wf.objs.good o (aM ho).1
 have hmany:=hg.many
 refine ⟨_,c0,_,c1,kO hR ⟨_,_,rfl,?_⟩⟩
 have hcls:r.clsAt k=(o.cls,0):=by simp [RH.clsAt,ho]
 have hsz:r.size k=((o.slots.length:Int),o.fmt,0):=by simp [RH.size,ho]
 rw [hcls]
 simp only [show ((0:Int) != 0)=false from rfl,cond_false]
 refine ⟨fun w H4=>w=[]∧J (db r [o.cls]) H4,⟨_,c0,?_⟩,?_⟩
 ·refine rt hR (fun hne=>⟨_,_,rfl,?_⟩) fun he x=>⟨_,_,rfl,?_⟩
  ·simp only [cond_true]
   refine mC (hy [] _ H ?_ h0) ?_
   ·refine ⟨db r (if o.fmt=0 then o.slots else []),?_⟩
    have e:ke r o=db r [o.cls]++db r (if o.fmt=0 then o.slots else []):=by rw [←dT];rfl
    rw [e,fJ,if_neg hne];rfl
   ·rintro v H3 ⟨rfl,h3⟩
    refine ⟨_,rfl,?_⟩
    simp only [Bool.not_true,cond_false]
    refine ⟨trivial,?_⟩
    rw [fJ,if_neg hne];exact h3
  ·simp only [cond_false]
   refine ⟨trivial,?_⟩
   rw [fJ,if_pos he];exact h0
 ·rintro w H4 ⟨rfl,h4⟩ _
  obtain ⟨hR4,c04,c14⟩:=hJ _ _ h4
  refine ⟨rfl,_,c04,_,c14,ra hR4 ⟨_,_,_,rfl,?_⟩⟩
  rw [hsz]
  simp only [show ((0:Int) != 0)=false from rfl,cond_false]
  have e:ke r o=db r [o.cls]++db r (if o.fmt=0 then o.slots else []):=by rw [←dT];rfl
  by_cases hf:o.fmt=0
  ·have hfb:(o.fmt != 0)=false:=by simp [hf]
   rw [hfb]
   simp only [cond_false]
   rw [if_pos hf] at e
   refine ⟨fun w H6=>∃ i:Nat,w=[.int .i64 i]∧i<=o.slots.length∧J (db r [o.cls]++db r (o.slots.take i)) H6,fun w _=>match w with
    | [.int _ i]=>(o.slots.length-i).toNat
    | _=>0,⟨0,rfl,Nat.zero_le _,by simpa [db] using h4⟩,?_⟩
   rintro w H6 ⟨i,rfl,hi,h6⟩ _
   refine ⟨_,rfl,?_⟩
   rw [ae]
   have e1:IntKind.wrap .i64 ((i:Int)+1)=((i+1:Nat):Int):=by rw [am (by omega) (by omega)];omega
   refine aA (fun hlt=>?_) fun hlt=>?_
   ·have hlt':i<o.slots.length:=by omega
    obtain ⟨hR6,c06,c16⟩:=hJ _ _ h6
    have hat:r.at k (i:Int)=(o.slots[i],0):=by
     simp only [RH.at,ho]
     rw [if_neg (by omega)]
     simp [hlt']
    refine ⟨_,c06,_,c16,si hR6 ⟨_,_,rfl,?_⟩⟩
    rw [hat]
    simp only [show ((0:Int) != 0)=false from rfl,cond_false]
    have htk:o.slots.take (i+1)=o.slots.take i++[o.slots[i]]:=by rw [List.take_add_one];simp [hlt']
    have hmu:(((o.slots.length:Int)-((i+1:Nat):Int)).toNat)<((o.slots.length:Int)-(i:Int)).toNat:=by omega
    refine ⟨_,c06,rt hR6 (fun hne=>⟨_,_,rfl,?_⟩) fun he x=>⟨_,_,rfl,?_⟩⟩
    ·simp only [cond_true]
     refine mC (hy _ _ H6 ?_ h6) ?_
     ·refine ⟨db r (o.slots.drop (i+1)),?_⟩
      have hd:o.slots=o.slots.take i++o.slots[i] :: o.slots.drop (i+1):=by simp
      have:db r o.slots=db r (o.slots.take i)++aZ r o.slots[i] :: db r (o.slots.drop (i+1)):=by
       conv=>lhs;rw [hd]
       rw [dT]
       congr 1
       rw [show o.slots[i] :: o.slots.drop (i+1)=[o.slots[i]]++o.slots.drop (i+1) from rfl,dT,fJ,if_neg hne];rfl
      rw [e,this];simp
     ·rintro v H9 ⟨rfl,h9⟩
      refine ⟨_,rfl,?_⟩
      simp only [Bool.not_true,cond_false]
      rw [e1]
      refine ⟨⟨i+1,rfl,hlt',?_⟩,hmu⟩
      rw [htk,dT,fJ r o.slots[i],if_neg hne,←List.append_assoc];exact h9
    ·simp only [cond_false]
     rw [e1]
     refine ⟨⟨i+1,rfl,hlt',?_⟩,hmu⟩
     rw [htk,dT,fJ r o.slots[i],if_pos he,List.append_nil];exact h6
   ·have:i=o.slots.length:=by omega
    rw [this,List.take_length] at h6
    exact h H6 (by rw [e];exact h6)
  ·have hfb:(o.fmt != 0)=true:=by simp [hf]
   rw [hfb]
   simp only [cond_true]
   rw [if_neg hf] at e
   exact h H4 (by rw [e];simpa [db] using h4)
theorem GF {k:Int} (h:Q (.func (.func qZ) #[] #[.pointer (some ⟨H.size,0,none⟩),.pointer (some ⟨H.size+1,0,none⟩)]) ((H.push (.cells #[.pointer (some ⟨hb,0,none⟩)] 46)).push (.cells #[.int .i64 k] 3))):ah PP FZ #[.pointer (some ⟨hb,0,none⟩),.int .i64 k] Q H:=by
 apply CN
 unfold Nl A0 iV pV
 simp only [Array.size_push]
 exact h
end
def fE (S:List Int):List (Key × Value):=S.map fun k=>(Key.int k,Value.int .i64 1)
theorem pT (S:List Int) (n:Int):d7 (fE S) (.int n)=if n∈S then some (.int .i64 1) else none:=by
 induction S with
 | nil=>rfl
 | cons x S ih =>
  unfold fE at *
  simp only [List.map_cons,d7]
  by_cases h:n=x
  ·subst h;simp
  ·rw [if_neg (by simpa using h),ih]
   simp [h]
theorem wu {S:List Int}{n:Int} (h:n∉S):lU (fE S) (.int n) (.int .i64 1)=fE (S++[n]):=by
 have:gj (fE S) (.int n)=none:=by rw [fU,pT,if_neg h]
 rw [mm this];simp [fE]
theorem vn {S:List Int}:∀ p∈fE S,p.1.of (.int .i64):=by
 intro p hp
 simp only [fE,List.mem_map] at hp
 obtain ⟨k,_,rfl⟩:=hp
 trivial
structure Vis (H:aj) (mb tb m:Nat) (S T:List Int) (G:ay):Prop where
 b1:bA H mb #[.map (some m)]
 b2:∃ a l c,bA H tb #[.slice a l c]∧bv 1 H a l c (aq T) G
 mp:dQ H m (fE S)
 n1:mb≠tb
 n2:mb≠m
 n3:tb≠m
 n4:∀ x∈G,x≠mb∧x≠tb∧x≠m
theorem Vis.fr {H H':aj}{mb tb m:Nat}{S T:List Int}{G F:ay} (h:Vis H mb tb m S T G) (hf:Fr F H H') (h1:mb∉F) (h2:tb∉F) (h3:m∉F) (h4:bi G F):Vis H' mb tb m S T G:=by
 obtain ⟨a,l,c,hB,hO⟩:=h.b2
 exact { h with b1:=h.b1.fr hf h1,b2:=⟨a,l,c,hB.fr hf h2,hO.fr hf h4⟩,mp:=h.mp.fr hf h3 }
theorem Vis.lt {H:aj}{mb tb m:Nat}{S T:List Int}{G:ay} (h:Vis H mb tb m S T G):∀ x∈mb :: tb :: m :: G,x<H.size:=by
 obtain ⟨a,l,c,hB,hO⟩:=h.b2
 intro x hx
 simp only [List.mem_cons] at hx
 rcases hx with rfl | rfl | rfl | hx
 ·exact h.b1.lt
 ·exact hB.lt
 ·exact h.mp.lt
 ·exact hO.lt x hx
def eM (p:List Int × List Int) (n:Int):List Int × List Int:=if n∈p.1 then p else (p.1++[n],p.2++[n])
section
variable {H:aj}{hb:Nat}{F:ay}{r:RH}{Q:QT}
theorem Ad {mb tb m:Nat}{S T:List Int}{G:ay}{n:Int} (hV:Vis H mb tb m S T G) (hT:T.length<1000000000)
  (h:∀ H' G',Vis H' mb tb m (eM (S,T) n).1 (eM (S,T) n).2 G'->Up (mb :: tb :: m :: G) H (mb :: tb :: m :: G') H'->Q (.tuple #[]) H') :
  ah PP oU #[.int .i64 n,.pointer (some ⟨mb,0,none⟩),.pointer (some ⟨tb,0,none⟩)] Q H:=by
 have hmi:eS PP 285=some (.int .i64,some (.int .i64 0)):=by kernel_rfl
 have hs1:aF PP 66=some (1,8,some (.int .i64 0)):=by kernel_rfl
 obtain ⟨a,l,c,hB,hO⟩:=hV.b2
 have c1:ac H ⟨mb,0,none⟩=some (.map (some m)):=hV.b1.cell 0
 apply zS
 unfold LP A0 iV lV
 refine ⟨_,c1,kq (k:=.int n) hmi trivial vn hV.mp ?_⟩
 rw [pT]
 unfold eM at h
 by_cases hn:n∈S
 ·simp only [hn,if_true,Option.getD_some] at h ⊢
  refine ⟨_,rfl,?_⟩
  rw [show ((1:Int) == 0)=false from rfl]
  simp only [cond_false]
  exact h H G hV (Up.refl _ _)
 ·simp only [hn,if_false,Option.getD_none] at h ⊢
  refine ⟨_,rfl,?_⟩
  rw [show ((0:Int) == 0)=true from rfl]
  simp only [cond_true]
  refine ⟨_,c1,jV (k:=.int n) hmi trivial vn hV.mp fun H2 hM2 hf2=>?_⟩
  rw [wu hn] at hM2
  have hB2:bA H2 tb #[.slice a l c]:=hB.fr hf2 (by simpa using hV.n3)
  have hb2:bA H2 mb #[.map (some m)]:=hV.b1.fr hf2 (by simpa using hV.n2)
  have hO2:bv 1 H2 a l c (aq T) G:=hO.fr hf2 (fun x hx hm=>(hV.n4 x hx).2.2 (by simpa using hm))
  have hl:l=T.length:=by have:=hO.len;simpa [aq] using this.symm
  refine ⟨_,_,_,hB2.cell 0,?_⟩
  refine bg hs1 rfl (by kernel_rfl) hO2 rfl (by simp [cC]) (by omega) (by decide) (by decide) fun a' c' G2 H3 g1 g2 g3=>⟨_,_,_,rfl,?_⟩
  have hnG:∀ x∈G,x≠mb∧x≠tb∧x≠m:=hV.n4
  have hlt2:mb<H2.size∧tb<H2.size∧m<H2.size:=⟨hb2.lt,hB2.lt,hM2.lt⟩
  have hG2:∀ x∈G2,x≠mb∧x≠tb∧x≠m:=fun x hx=>by
   rcases g2.2 x hx with h4 | h4
   ·exact hnG x h4
   ·omega
  have hmbG:mb∉G:=fun hx=>(hnG _ hx).1 rfl
  have htbG:tb∉G:=fun hx=>(hnG _ hx).2.1 rfl
  have hmG:m∉G:=fun hx=>(hnG _ hx).2.2 rfl
  have hB3:bA H3 tb #[.slice a l c]:=hB2.fr g2.1 htbG
  have hb3:bA H3 mb #[.map (some m)]:=hb2.fr g2.1 hmbG
  have hM3:=hM2.fr g2.1 hmG
  have hft:Fr [tb] H3 (au H3 ⟨tb,0,none⟩ (.slice a' (l+1) c')):=Fr.set (by simp)
  refine ⟨hB3.wr (by simp),h _ G2 { b1:=hb3.fr hft (by simpa using hV.n1),b2:=⟨a',l+1,c',hB3.set 0 (.slice a' (l+1) c'),?_⟩,mp:=hM3.fr hft (by simpa using (Ne.symm hV.n3)),n1:=hV.n1,n2:=hV.n2,n3:=hV.n3,n4:=hG2 } ⟨?_,?_⟩⟩
  ·rw [bt]
   exact g1.fr hft (fun x hx hm=>(hG2 x hx).2.1 (by simpa using hm))
  ·exact ((hf2.mono (F':=mb :: tb :: m :: G) fun x hx=>by simp only [List.mem_singleton] at hx;simp [hx]).trans (g2.1.mono fun x hx=>by simp [hx])).trans (hft.mono fun x hx=>by simp only [List.mem_singleton] at hx;simp [hx])
  ·intro x hx
   simp only [List.mem_cons] at hx ⊢
   rcases hx with rfl | rfl | rfl | hx
   ·exact .inl (.inl rfl)
   ·exact .inl (.inr (.inl rfl))
   ·exact .inl (.inr (.inr (.inl rfl)))
   ·rcases g2.2 x hx with h4 | h4
    ·exact .inl (.inr (.inr (.inr h4)))
    ·exact .inr (Nat.le_trans hf2.1 h4)
structure Walk (r:RH) (ws:List Int) (S T:List Int):Prop where
 nd:S.Nodup
 ndT:T.Nodup
 sub:∀ k∈T,k∈S
 sound:∀ k∈S,Reaches r ws k
theorem qd (p:List Int × List Int) (n:Int):∃ nw,(eM p n).1=p.1++nw∧(eM p n).2=p.2++nw∧(n∈(eM p n).1)∧(∀ x∈nw,x=n)∧(p.1.Nodup->(eM p n).1.Nodup):=by
 unfold eM
 by_cases h:n∈p.1
 ·exact ⟨[],by simp [h],by simp [h],by simp [h],by simp,fun hn=>by simp [h,hn]⟩
 ·refine ⟨[n],by simp [h],by simp [h],by simp [h],by simp,fun hn=>?_⟩
  simp only [h,if_false]
  rw [List.nodup_append]
  exact ⟨hn,by simp,fun a ha b hb e=>h (by simp only [List.mem_singleton] at hb;rw [←hb,←e];exact ha)⟩
theorem pU (p:List Int × List Int) (xs:List Int):∃ nw,(xs.foldl eM p).1=p.1++nw∧(xs.foldl eM p).2=p.2++nw∧(∀ x∈xs,x∈(xs.foldl eM p).1)∧(∀ x∈nw,x∈xs)∧(p.1.Nodup->(xs.foldl eM p).1.Nodup):=by
 induction xs generalizing p with
 | nil=>exact ⟨[],by simp,by simp,by simp,by simp,fun h=>h⟩
 | cons x xs ih =>
  obtain ⟨n1,a1,a2,a3,a4,a5⟩:=qd p x
  obtain ⟨n2,b1,b2,b3,b4,b5⟩:=ih (eM p x)
  refine ⟨n1++n2,?_,?_,?_,?_,fun h=>b5 (a5 h)⟩
  ·rw [List.foldl_cons,b1,a1,List.append_assoc]
  ·rw [List.foldl_cons,b2,a2,List.append_assoc]
  ·intro y hy
   rw [List.foldl_cons]
   rcases List.mem_cons.1 hy with rfl | hy
   ·rw [b1];exact List.mem_append_left _ a3
   ·exact b3 y hy
  ·intro y hy
   rcases List.mem_append.1 hy with hy | hy
   ·rw [a4 y hy];simp
   ·exact List.mem_cons_of_mem _ (b4 y hy)
theorem Walk.fold {ws S T:List Int} (h:Walk r ws S T){xs:List Int} (hx:∀ x∈xs,Reaches r ws x):Walk r ws (xs.foldl eM (S,T)).1 (xs.foldl eM (S,T)).2:=by
 obtain ⟨nw,b1,b2,b3,b4,b5⟩:=pU (S,T) xs
 have hnd:=b5 h.nd
 simp only at b1 b2
 refine { nd:=hnd,ndT:=?_,sub:=fun k hk=>?_,sound:=fun k hk=>?_ }
 ·rw [b2,List.nodup_append]
  rw [b1,List.nodup_append] at hnd
  exact ⟨h.ndT,hnd.2.1,fun a ha b hb=>hnd.2.2 a (h.sub a ha) b hb⟩
 ·rw [b2] at hk
  rw [b1]
  rcases List.mem_append.1 hk with hk | hk
  ·exact List.mem_append_left _ (h.sub k hk)
  ·exact List.mem_append_right _ hk
 ·rw [b1] at hk
  rcases List.mem_append.1 hk with hk | hk
  ·exact h.sound k hk
  ·exact hx k (b4 k hk)
theorem Walk.le {ws S T:List Int} (h:Walk r ws S T) (hw:WFH r):S.length<=r.all.length∧T.length<=r.all.length:=by
 have h1:S.length<=r.all.length:=jr h.nd fun k hk=>(RH.mem_all hw).2 (h.sound k hk).there
 exact ⟨h1,Nat.le_trans (jr h.ndT h.sub) h1⟩
theorem mF {ws:List Int}{o:RO}{k:Int} (ho:aH r.objs k=some o) (hk:Reaches r ws k):∀ x∈ke r o,Reaches r ws x:=by
 intro x hx
 obtain ⟨h1,h2⟩:=aM ho
 obtain ⟨w,hw,rfl,hne⟩:=kn.1 hx
 rw [←h2] at hk
 rcases List.mem_cons.1 hw with rfl | hw
 ·exact .cls hk h1 hne
 ·by_cases hf:o.fmt=0
  ·rw [if_pos hf] at hw
   exact .slot hk h1 hf hw hne
  ·rw [if_neg hf] at hw;cases hw
def P7 (r:RH) (S T:List Int):Prop:=∀ k∈S,k∉T->∀ o,aH r.objs k=some o->∀ x∈ke r o,x∈S
theorem Walk.closed {ws S:List Int} (h:Walk r ws S []) (hw:WFH r) (hd:P7 r S []) (hr:∀ w∈ws,aZ r w≠0->aZ r w∈S):Closed3 r ws S:=by
 refine { sound:=h.sound,roots:=hr,cls:=fun o ho hk hne=>?_,slot:=fun o ho hk hf w hwm hne=>?_ }
 ·exact hd o.oop hk (by simp) o (bW hw.objs ho) _ (kn.2 ⟨o.cls,by simp,rfl,hne⟩)
 ·exact hd o.oop hk (by simp) o (bW hw.objs ho) _ (kn.2 ⟨w,by simp [hf,hwm],rfl,hne⟩)
end
abbrev fv (m:Nat):Value:=.func (.func oU) #[] #[.pointer (some ⟨m+1,0,none⟩),.pointer (some ⟨m+2,0,none⟩)]
def St (H H2:aj) (S T:List Int):Prop:=∃ G,Vis H2 (H.size+1) (H.size+2) H.size S T G∧Fr [] H H2∧(∀ x∈G,H.size+4<=x)∧bA H2 (H.size+3) #[fv H.size]
def ug (H:aj) (m:Nat):Nat:=match H[m]? with
 | some (.map es _)=>es.size
 | _=>0
def oR (H:aj) (b:Nat):Nat:=match ac H ⟨b,0,none⟩ with
 | some (.slice _ l _)=>l
 | _=>0
section
variable {H:aj}{hb:Nat}{F:ay}{r:RH}{Q:QT}
theorem St.lens {H2:aj}{S T:List Int} (h:St H H2 S T):ug H2 H.size=S.length∧oR H2 (H.size+2)=T.length:=by
 obtain ⟨G,hV,_⟩:=h
 obtain ⟨ents,clock,hm,he,_⟩:=hV.mp
 obtain ⟨a,l,c,hB,hO⟩:=hV.b2
 constructor
 ·unfold ug;rw [hm]
  have:=congrArg List.length he
  simpa [fE] using this
 ·unfold oR
  rw [show ac H2 ⟨H.size+2,0,none⟩=some (.slice a l c) from hB.cell 0]
  have:=hO.len
  simpa [aq] using this.symm
theorem St.other {H2 H3:aj}{S T:List Int}{F:ay} (h:St H H2 S T) (hf:Fr F H2 H3) (hF:∀ b∈F,H.size+4<=b∧∀ c e f,H2[b]?≠some (Obj.cells c e f)):St H H3 S T:=by
 obtain ⟨G,hV,hf0,hG,hB⟩:=h
 have hn:∀ b,b<H.size+4->b∉F:=fun b hb hm=>by have:=(hF b hm).1;omega
 refine ⟨G,hV.fr hf (hn _ (by omega)) (hn _ (by omega)) (hn _ (by omega)) (fun x hx hm=>?_),?_,hG,hB.fr hf (hn _ (by omega))⟩
 ·obtain ⟨a,l,c,_,hO⟩:=hV.b2
  rcases hO.2.2 with ⟨_,_,rfl⟩ | ⟨b',cs,_,rfl,⟨t,hB'⟩,_⟩
  ·cases hx
  ·simp only [List.mem_singleton] at hx
   subst hx
   exact (hF x hm).2 _ _ _ hB'
 ·refine ⟨Nat.le_trans hf0.1 hf.1,fun b hb _=>?_⟩
  rw [hf.2 b (Nat.lt_of_lt_of_le hb hf0.1) (hn b (by omega)),hf0.2 b hb (by simp)]
theorem St.visitG {H2:aj}{S T:List Int}{G:ay} (hV:Vis H2 (H.size+1) (H.size+2) H.size S T G) (hf0:Fr [] H H2) (hG:∀ x∈G,H.size+4<=x) (hB:bA H2 (H.size+3) #[fv H.size]){n:Int} (hT:T.length<1000000000)
  (hq:∀ H' G',Vis H' (H.size+1) (H.size+2) H.size (eM (S,T) n).1 (eM (S,T) n).2 G'->Fr [] H H'->(∀ x∈G',H.size+4<=x)->bA H' (H.size+3) #[fv H.size]->(∀ x∈G',x∈G∨H2.size<=x) ->
   Fr ((H.size+1) :: (H.size+2) :: H.size :: G) H2 H'->Q (.tuple #[]) H') :
  ah PP oU #[.int .i64 n,.pointer (some ⟨H.size+1,0,none⟩),.pointer (some ⟨H.size+2,0,none⟩)] Q H2:=by
 refine Ad hV hT fun H' G' hV' hu=>hq H' G' hV' ?_ (fun x hx=>?_) ?_ (fun x hx=>?_) hu.1
 ·refine ⟨Nat.le_trans hf0.1 hu.1.1,fun b hb _=>?_⟩
  rw [hu.1.2 b (Nat.lt_of_lt_of_le hb hf0.1) (fun hm=>?_),hf0.2 b hb (by simp)]
  simp only [List.mem_cons] at hm
  rcases hm with rfl | rfl | rfl | hm
  ·omega
  ·omega
  ·omega
  ·have:=hG b hm;omega
 ·rcases hu.2 x (by simp [hx]) with h1 | h1
  ·simp only [List.mem_cons] at h1
   have:=hV'.n4 x hx
   rcases h1 with rfl | rfl | rfl | h1
   ·omega
   ·omega
   ·omega
   ·exact hG x h1
  ·have:=hB.lt;omega
 ·refine hB.fr hu.1 (fun hm=>?_)
  simp only [List.mem_cons] at hm
  rcases hm with h1 | h1 | h1 | h1
  ·omega
  ·omega
  ·omega
  ·have:=hG _ h1;omega
 ·rcases hu.2 x (by simp [hx]) with h1 | h1
  ·simp only [List.mem_cons] at h1
   have:=hV'.n4 x hx
   rcases h1 with rfl | rfl | rfl | h1
   ·omega
   ·omega
   ·omega
   ·exact .inl h1
  ·exact .inr h1
theorem St.visit {H2:aj}{S T:List Int} (h:St H H2 S T){n:Int} (hT:T.length<1000000000) (hq:∀ H',St H H' (eM (S,T) n).1 (eM (S,T) n).2->Q (.tuple #[]) H') :
  ah PP oU #[.int .i64 n,.pointer (some ⟨H.size+1,0,none⟩),.pointer (some ⟨H.size+2,0,none⟩)] Q H2:=by
 obtain ⟨G,hV,hf0,hG,hB⟩:=h
 exact St.visitG hV hf0 hG hB hT fun H' G' h1 h2 h3 h4 _ _=>hq H' ⟨G',h1,h2,h3,h4⟩
theorem St.fr {H2:aj}{S T:List Int} (h:St H H2 S T):Fr [] H H2:=by obtain ⟨_,_,h,_⟩:=h;exact h
theorem St.cell {H2:aj}{S T:List Int} (h:St H H2 S T):ac H2 ⟨H.size+3,0,none⟩=some (fv H.size):=by obtain ⟨_,_,_,_,h⟩:=h;exact h.cell 0
def fO (l:List (Key × Value)):List Int:=l.map fun p=>match p.1 with
 | .int k=>k
 | .str _=>0
theorem tC (S:List Int):fO (fE S)=S:=by
 unfold fO fE;rw [List.map_map];exact List.map_id' S
theorem RH.all_sorted (r:RH):r.all.Pairwise (· < ·):=by
 unfold RH.all RH.upto
 refine List.Pairwise.filter _ ?_
 rw [List.pairwise_map]
 exact List.pairwise_lt_range.imp fun h=>by omega
theorem rT {ws S:List Int} (hw:WFH r) (hnd:S.Nodup) (hiff:∀ k,k∈S↔Reaches r ws k){out:List Int} (hp:out.Perm S):(out.mergeSort fun x y=>decide (x<=y))=r.reach ws:=by
 have hs:=List.pairwise_mergeSort (le:=fun x y:Int=>decide (x<=y)) (fun a b c h1 h2=>by simp at *;omega) (fun a b=>by simp;omega) out
 have h1:(r.reach ws).Pairwise (· < ·):=(RH.all_sorted r).filter _
 have h2:(r.reach ws).Nodup:=h1.imp fun h e=>by omega
 have hperm:(out.mergeSort fun x y=>decide (x<=y)).Perm (r.reach ws):=by
  refine ((List.mergeSort_perm out _).trans hp).trans ?_
  rw [List.perm_ext_iff_of_nodup hnd h2]
  intro k
  rw [hiff,RH.mem_reach hw]
 exact List.Perm.eq_of_pairwise (fun a b _ _ h3 h4=>by simp at h3 h4;omega) hs (h1.imp fun h=>by simp;omega) hperm
end
section
variable {H:aj}{hb:Nat}{F:ay}{r:RH}{Q:QT}
theorem R4 {H6:aj}{S T:List Int}{k:Int}{o:RO}{X:Loop}{Kn Kr:aj->Prop}{Ke:List (Nat × (aj->Prop))} (hR:dp H hb F r) (hst:St H H6 S T){ws:List Int} (hwk:Walk r ws S T) (hoo:aH r.objs k=some o) (hkR:Reaches r ws k) (hall:r.all.length<=65537)
  (hX:∀ {n1:Int}{Q':Value->aj->Prop}{H':aj},H'[H6.size+3]?=some (.loop X)->ey (H6.size+3) ⟨H.size+3,0,none⟩ n1 Q' H'->ij PP (H6.size+3) #[.int .i64 n1] Q' H') (hXs:X.state=.ready) (hXp:X.pending=none)
  (hK:∀ H8,St H H8 ((ke r o).foldl eM (S,T)).1 ((ke r o).foldl eM (S,T)).2->Kn H8) :
  ah PP qZ ((#[]++#[.func (.yield (H6.size+3)) #[] #[]])++#[.pointer (some ⟨H6.size,0,none⟩),.pointer (some ⟨H6.size+1,0,none⟩)]) (fun _ H7=>oo (H6.size+3) Kn Kr Ke H7)
   ((((H6.push (.cells #[.pointer (some ⟨hb,0,none⟩)] 46)).push (.cells #[.int .i64 k] 3)).push (.deferred (some []))).push (.loop X)):=by
 have hw:=hR.wf
 have h4:H.size+4<=H6.size:=by obtain ⟨_,_,_,_,h⟩:=hst;have:=h.lt;omega
 show ah PP qZ #[.func (.yield (H6.size+3)) #[] #[],.pointer (some ⟨H6.size,0,none⟩),.pointer (some ⟨H6.size+1,0,none⟩)] _ _
 have b0:bA ((((H6.push (.cells #[.pointer (some ⟨hb,0,none⟩)] 46)).push (.cells #[.int .i64 k] 3)).push (.deferred (some []))).push (.loop X)) H6.size #[.pointer (some ⟨hb,0,none⟩)]:=(((bA.new H6 _ _).push _).push _).push _
 have b1:bA ((((H6.push (.cells #[.pointer (some ⟨hb,0,none⟩)] 46)).push (.cells #[.int .i64 k] 3)).push (.deferred (some []))).push (.loop X)) (H6.size+1) #[.int .i64 k]:=by
  have:=((bA.new (H6.push (.cells #[.pointer (some ⟨hb,0,none⟩)] 46)) #[.int .i64 k] 3).push (.deferred (some []))).push (.loop X)
  simpa using this
 have hl:((((H6.push (.cells #[.pointer (some ⟨hb,0,none⟩)] 46)).push (.cells #[.int .i64 k] 3)).push (.deferred (some []))).push (.loop X))[H6.size+3]?=some (.loop X):=by
  have:H6.size+3=(((H6.push (.cells #[.pointer (some ⟨hb,0,none⟩)] 46)).push (.cells #[.int .i64 k] 3)).push (.deferred (some []))).size:=by simp
  rw [this];exact Array.getElem?_push_size
 obtain ⟨G0,gV0,gf0,gG,gB0⟩:=hst
 have hfp:Fr [] H6 ((((H6.push (.cells #[.pointer (some ⟨hb,0,none⟩)] 46)).push (.cells #[.int .i64 k] 3)).push (.deferred (some []))).push (.loop X)):=(((Fr.push [] H6 _).more).more).more
 have gV:=gV0.fr hfp (by simp) (by simp) (by simp) (bi.nil_right _)
 have gf:=gf0.trans hfp
 have gB:=gB0.fr hfp (by simp)
 have hG0:∀ x∈G0,x<H6.size∨H6.size+4<=x:=fun x hx=>.inl (gV0.lt x (by simp [hx]))
 refine AC (hb:=hb) (F:=F) (r:=r) (k:=k) hoo (J:=fun pre H'=>(∃ G,Vis H' (H.size+1) (H.size+2) H.size (pre.foldl eM (S,T)).1 (pre.foldl eM (S,T)).2 G∧Fr [] H H'∧(∀ x∈G,H.size+4<=x)∧bA H' (H.size+3) #[fv H.size]∧∀ x∈G,x<H6.size∨H6.size+4<=x)∧bA H' H6.size #[.pointer (some ⟨hb,0,none⟩)]∧bA H' (H6.size+1) #[.int .i64 k]∧H'[H6.size+3]?=some (.loop X))
  (fun pre H' hJ=>⟨hR.fr hJ.1.choose_spec.2.1 (bi.nil_right F) (by simp),hJ.2.1.cell 0,hJ.2.2.1.cell 0⟩) ?_ ⟨⟨G0,gV,gf,gG,gB,hG0⟩,b0,b1,hl⟩ ?_
 ·rintro pre x H' ⟨suf,he⟩ ⟨⟨G,pV,pf,pG,pB,pb⟩,k0,k1,hl'⟩
  refine hX hl' ?_
  unfold ey iV
  have hwk':Walk r ws (pre.foldl eM (S,T)).1 (pre.foldl eM (S,T)).2:=hwk.fold fun y hy=>mF hoo hkR y (by rw [he];simp [hy])
  have hfb:∀ (Y:aj) (o:Obj),Fr [H6.size+3] Y (Y.setIfInBounds (H6.size+3) o):=fun Y o=>Fr.setObj _ _ _
  have keepV:∀ {Y:aj}{o:Obj}{S' T':List Int}{G':ay},Vis Y (H.size+1) (H.size+2) H.size S' T' G'->Fr [] H Y->bA Y (H.size+3) #[fv H.size]->(∀ x∈G',x<H6.size∨H6.size+4<=x) ->
    Vis (Y.setIfInBounds (H6.size+3) o) (H.size+1) (H.size+2) H.size S' T' G'∧Fr [] H (Y.setIfInBounds (H6.size+3) o)∧bA (Y.setIfInBounds (H6.size+3) o) (H.size+3) #[fv H.size]:=by
   intro Y o S' T' G' hv hf hB hbn
   refine ⟨hv.fr (hfb Y o) (by simp;omega) (by simp;omega) (by simp;omega) (fun x hx hm=>?_),⟨by simpa using hf.1,fun b hb' _=>?_⟩,hB.fr (hfb Y o) (by simp;omega)⟩
   ·have h1:=List.mem_singleton.1 hm
    rcases hbn x hx with h2 | h2 <;> omega
   ·rw [(hfb Y o).2 b (Nat.lt_of_lt_of_le hb' hf.1) (fun hm=>by have:=List.mem_singleton.1 hm;omega),hf.2 b hb' (by simp)]
  have hllt:=(Array.getElem?_eq_some_iff.1 hl').1
  have hl2:(H'.setIfInBounds (H6.size+3) (Obj.loop { X with state:=.busy }))[H6.size+3]?=some (.loop { X with state:=.busy }):=by simp [hllt]
  have k02:=k0.fr (hfb H' (Obj.loop { X with state:=.busy })) (by simp)
  have k12:=k1.fr (hfb H' (Obj.loop { X with state:=.busy })) (by simp)
  obtain ⟨qV,qf,qB⟩:=keepV (o:=Obj.loop { X with state:=.busy }) pV pf pB pb
  refine ⟨X,hl',hXs,_,_,_,qB.cell 0,?_⟩
  show ah PP oU #[.int .i64 x,.pointer (some ⟨H.size+1,0,none⟩),.pointer (some ⟨H.size+2,0,none⟩)] _ _
  have hle:=hwk'.le hw
  refine St.visitG qV qf pG qB (by omega) fun H3 G' v1 v2 v3 v4 v5 v6=>⟨rfl,?_⟩
  have hGn:∀ b,(b=H6.size∨b=H6.size+1∨b=H6.size+3)->b∉(H.size+1) :: (H.size+2) :: H.size :: G:=by
   intro b hb' hm
   simp only [List.mem_cons] at hm
   rcases hm with h1 | h1 | h1 | h1
   ·omega
   ·omega
   ·omega
   ·rcases pb b h1 with h2 | h2 <;> omega
  have l3:H3[H6.size+3]?=some (.loop { X with state:=.busy }):=(v6.2 _ (by simpa using hllt) (hGn _ (.inr (.inr rfl)))).trans hl2
  have hb3:∀ x∈G',x<H6.size∨H6.size+4<=x:=fun x hx=>by
   rcases v5 x hx with h1 | h1
   ·exact pb x h1
   ·have:H6.size+3<(H'.setIfInBounds (H6.size+3) (Obj.loop { X with state:=.busy })).size:=by simpa using hllt
    omega
  have hX2:({ ({ X with state:=.busy }:Loop) with state:=.ready,pending:=none }:Loop)=X:=by
   cases X;simp only at hXs hXp;subst hXs;subst hXp;rfl
  refine ⟨_,l3,rfl,?_⟩
  rw [hX2]
  obtain ⟨u1,u2,u3⟩:=keepV (o:=Obj.loop X) v1 v2 v4 hb3
  have hl3lt:=(Array.getElem?_eq_some_iff.1 l3).1
  refine ⟨⟨G',?_,u2,v3,u3,hb3⟩,(k02.fr v6 (hGn _ (.inl rfl))).fr (hfb H3 _) (by simp),(k12.fr v6 (hGn _ (.inr (.inl rfl)))).fr (hfb H3 _) (by simp),by simp [hl3lt]⟩
  rw [List.foldl_append];exact u1
 ·rintro H' ⟨⟨G,pV,pf,pG,pB,pb⟩,k0,k1,hl'⟩
  refine ⟨X,hl',by rw [hXs];simp,?_⟩
  rw [hXp]
  exact hK _ (St.other ⟨G,pV,pf,pG,pB⟩ (Fr.setObj _ _ _) (by
   intro b hb'
   have hb':=List.mem_singleton.1 hb'
   subst hb'
   exact ⟨by omega,fun c e f hc=>by rw [hl'] at hc;cases hc⟩))
theorem vO (hR:dp H hb F r){a2:Option Addr}{l2 c2:Nat}{ws:List Int} (hk:Rd 1 H a2 l2 (aq ws)) (hlk:l2<=1000000)
  (h:∀ a l c G H',bv 1 H' a l c (aq (r.reach ws)) G->Fr [] H H'->(∀ x∈G,H.size<=x)->Q (.tuple #[.slice a l c,.int .i64 0]) H'):ah PP Ge #[.pointer (some ⟨hb,0,none⟩),.slice a2 l2 c2] Q H:=by
 have hw:=hR.wf
 have hmi:eS PP 285=some (.int .i64,some (.int .i64 0)):=by kernel_rfl
 have hs1:aF PP 66=some (1,8,some (.int .i64 0)):=by kernel_rfl
 have hl2:l2=ws.length:=by have:=hk.1;simpa [aq] using this.symm
 have hall:r.all.length<=65537:=by
  have:=r.upto_len (r.oops+1).toNat
  have h1:=hw.o1
  exact Nat.le_trans this (by omega)
 apply Bx
 unfold Nn A0 iV wW pV lV cS;dsimp only [shH]
 simp only [az,dR,Array.size_push,Option.isNone_some,cond_false,aD,List.setIfInBounds_toArray,List.set_cons_zero,List.set_cons_succ,List.size_toArray,List.length_cons,List.length_nil,List.getElem?_toArray,List.getElem?_cons_succ,List.getElem?_cons_zero,Nat.add_assoc,Nat.reduceAdd]
 have e1:H.size+1=(H.push (.map #[] 0)).size:=by simp
 have e3:H.size+3=(((H.push (.map #[] 0)).push (.cells #[.map (some H.size)] 285)).push (.cells #[.slice none 0 0] 66)).size:=by simp
 have w1:Wr ((H.push (.map #[] 0)).push (.cells #[.map none] 285)) ⟨H.size+1,0,none⟩:=by rw [e1];exact aD.2 (by simp)
 have x1:au ((H.push (.map #[] 0)).push (.cells #[.map none] 285)) ⟨H.size+1,0,none⟩ (.map (some H.size))=(H.push (.map #[] 0)).push (.cells #[.map (some H.size)] 285):=by rw [e1,az];rfl
 rw [x1]
 refine ⟨w1,?_⟩
 have w2:Wr ((((H.push (.map #[] 0)).push (.cells #[.map (some H.size)] 285)).push (.cells #[.slice none 0 0] 66)).push (.cells #[.nilFunc] 286)) ⟨H.size+3,0,none⟩:=by rw [e3];exact aD.2 (by simp)
 have x2:au ((((H.push (.map #[] 0)).push (.cells #[.map (some H.size)] 285)).push (.cells #[.slice none 0 0] 66)).push (.cells #[.nilFunc] 286)) ⟨H.size+3,0,none⟩ (fv H.size)=(((H.push (.map #[] 0)).push (.cells #[.map (some H.size)] 285)).push (.cells #[.slice none 0 0] 66)).push (.cells #[fv H.size] 286):=by rw [e3,az];rfl
 refine ⟨w2,?_⟩
 rw [x2]
 have hst0:St H ((((H.push (.map #[] 0)).push (.cells #[.map (some H.size)] 285)).push (.cells #[.slice none 0 0] 66)).push (.cells #[fv H.size] 286)) [] []:=by
  have f0:Fr [] H (H.push (.map #[] 0)):=Fr.push _ _ _
  refine ⟨[],{ b1:=?_,b2:=⟨none,0,0,?_,bv.nil 1 _⟩,mp:=?_,n1:=by omega,n2:=by omega,n3:=by omega,n4:=by simp },f0.more.more.more,by simp,?_⟩
  ·have:=((bA.new (H.push (.map #[] 0)) #[.map (some H.size)] 285).push (.cells #[.slice none 0 0] 66)).push (.cells #[fv H.size] 286)
   simpa using this
  ·have:=(bA.new ((H.push (.map #[] 0)).push (.cells #[.map (some H.size)] 285)) #[.slice none 0 0] 66).push (.cells #[fv H.size] 286)
   simpa using this
  ·exact (dQ.new H).fr (G:=[]) ((Fr.push [] _ _).more.more) (by simp)
  ·have:=bA.new (((H.push (.map #[] 0)).push (.cells #[.map (some H.size)] 285)).push (.cells #[.slice none 0 0] 66)) #[fv H.size] 286
   simpa using this
 generalize ((((H.push (.map #[] 0)).push (.cells #[.map (some H.size)] 285)).push (.cells #[.slice none 0 0] 66)).push (.cells #[fv H.size] 286))=H0 at hst0 ⊢
 have hdn:bi F []:=bi.nil_right F
 have hRof:∀ {H2:aj}{S T:List Int},St H H2 S T->dp H2 hb F r:=fun hs=>hR.fr hs.fr hdn (by simp)
 refine ⟨fun w H2=>∃(i:Nat) (S:List Int),w=[.int .i64 i]∧i<=l2∧St H H2 S S∧Walk r ws S S∧∀ w∈ws.take i,aZ r w≠0->aZ r w∈S,fun w _=>match w with
  | [.int _ i]=>(l2-i).toNat
  | _=>0,⟨0,[],rfl,Nat.zero_le _,hst0,⟨by simp,by simp,by simp,by simp⟩,by simp⟩,?_⟩
 rintro w4 H2 ⟨i,S,rfl,hi,hst,hwk,hrt⟩ g5
 refine ⟨_,rfl,?_⟩
 rw [ae]
 refine aA (fun hlt=>?_) fun hlt=>?_
 ·
  have hlt':i<ws.length:=by omega
  obtain ⟨p,rfl,hcell,hlt2⟩:=(hk.fr' hst.fr (by simp)).int (i:=(i:Int)) (by omega) hlt
  rw [Int.toNat_natCast] at hcell hlt2
  have hx:ws.getD i 0=ws[i]:=by simp [hlt2]
  rw [hx] at hcell
  have htk:ws.take (i+1)=ws.take i++[ws[i]]:=by rw [List.take_add_one];simp [hlt2]
  have e:IntKind.wrap .i64 ((i:Int)+1)=((i+1:Nat):Int):=by rw [am (by omega) (by omega)];omega
  have hmu:((l2:Int)-((i+1:Nat):Int)).toNat<((l2:Int)-(i:Int)).toNat:=by omega
  refine ⟨⟨by omega,hlt⟩,_,rfl,_,by rw [Int.toNat_natCast,Nat.mul_one];exact hcell,?_⟩
  rw [e]
  refine rt (hRof hst) (fun hne=>⟨_,_,rfl,?_⟩) fun he x=>⟨_,_,rfl,?_⟩
  ·simp only [cond_true]
   refine ⟨_,_,_,hst.cell,?_⟩
   have hle:=hwk.le hw
   refine hst.visit (by omega) fun H' hst'=>⟨rfl,⟨i+1,(eM (S,S) (aZ r ws[i])).1,rfl,by omega,?_,?_,?_⟩,hmu⟩
   ·have:(eM (S,S) (aZ r ws[i])).2=(eM (S,S) (aZ r ws[i])).1:=by unfold eM;split <;> rfl
    rw [this] at hst';exact hst'
   ·have:=hwk.fold (xs:=[aZ r ws[i]]) (by intro x hx;simp only [List.mem_singleton] at hx;subst hx;exact .root (by simp) hne)
    simp only [List.foldl_cons,List.foldl_nil] at this
    have e2:(eM (S,S) (aZ r ws[i])).2=(eM (S,S) (aZ r ws[i])).1:=by unfold eM;split <;> rfl
    rw [e2] at this;exact this
   ·intro w hw' hne'
    obtain ⟨nw,a1,_,a3,_⟩:=qd (S,S) (aZ r ws[i])
    rw [htk] at hw'
    rcases List.mem_append.1 hw' with hw' | hw'
    ·rw [a1];exact List.mem_append_left _ (hrt w hw' hne')
    ·simp only [List.mem_singleton] at hw';subst hw';exact a3
  ·simp only [cond_false]
   refine ⟨⟨i+1,S,rfl,by omega,hst,hwk,fun w hw' hne'=>?_⟩,hmu⟩
   rw [htk] at hw'
   rcases List.mem_append.1 hw' with hw' | hw'
   ·exact hrt w hw' hne'
   ·simp only [List.mem_singleton] at hw';subst hw';exact absurd he hne'
 ·
  have hil:i=ws.length:=by omega
  rw [hil,List.take_length] at hrt
  refine ⟨fun w H5=>w=[]∧∃ S T,St H H5 S T∧Walk r ws S T∧P7 r S T∧∀ w∈ws,aZ r w≠0->aZ r w∈S,fun _ H5=>(r.all.length-ug H5 H.size)+oR H5 (H.size+2),⟨rfl,S,S,hst,hwk,fun k h1 h2=>absurd h1 h2,hrt⟩,?_⟩
  clear hst hwk hrt
  rintro w15 H5 ⟨rfl,S,T,hst,hwk,hdo,hrt⟩ g16
  obtain ⟨hml,hsl⟩:=hst.lens
  have hlens:=hwk.le hw
  have hst1:=hst
  obtain ⟨G,hV,hf0,hG,hvb⟩:=hst1
  obtain ⟨a,l,c,hBt,hO⟩:=hV.b2
  have hl:l=T.length:=by have:=hO.len;simpa [aq] using this.symm
  have ct:ac H5 ⟨H.size+2,0,none⟩=some (.slice a l c):=hBt.cell 0
  refine ⟨rfl,_,_,_,ct,?_⟩
  rw [ae]
  refine aA (fun hpos=>?_) fun hpos=>?_
  ·
   have hlp:0<T.length:=by omega
   obtain ⟨T0,k,rfl⟩:∃ T0 k,T=T0++[k]:=by
    rcases List.eq_nil_or_concat T with h1 | ⟨m,x,h1⟩
    ·rw [h1] at hlp;simp at hlp
    ·exact ⟨m,x,by simpa using h1⟩
   have hlT:l=T0.length+1:=by simpa using hl
   have e2:IntKind.wrap .i64 ((l:Int)-1)=(T0.length:Int):=by rw [am (by omega) (by omega)];omega
   have hTb:T0.length+1<=r.all.length:=by have:=hlens.2;simpa using this
   have hlec:=hO.2.1
   refine ⟨_,_,_,ct,_,_,_,ct,?_⟩
   rw [e2]
   obtain ⟨p,rfl,hcell,hlt2⟩:=hO.rd.int (i:=(T0.length:Int)) (by omega) (by omega)
   rw [Int.toNat_natCast] at hcell
   have hx:(T0++[k]).getD T0.length 0=k:=by simp
   rw [hx] at hcell
   refine ⟨⟨by omega,by omega⟩,_,rfl,k,by rw [Int.toNat_natCast,Nat.mul_one];exact hcell,_,_,_,ct,_,_,_,ct,?_⟩
   rw [e2]
   rw [Int.toNat_natCast]
   refine ⟨⟨by omega,by omega⟩,hBt.wr (by simp),?_⟩
   have hst6:St H (au H5 ⟨H.size+2,0,none⟩ (.slice (some p) T0.length c)) S T0:=by
    have hft:Fr [H.size+2] H5 (au H5 ⟨H.size+2,0,none⟩ (.slice (some p) T0.length c)):=Fr.set (by simp)
    have hn4:=hV.n4
    refine ⟨G,{ b1:=hV.b1.fr hft (by simp),b2:=⟨some p,T0.length,c,hBt.set 0 _,?_⟩,mp:=hV.mp.fr hft (by simp),n1:=hV.n1,n2:=hV.n2,n3:=hV.n3,n4:=hV.n4 },?_,hG,hvb.fr hft (by simp)⟩
    ·have h1:=hO.fr hft (fun x hx hm=>(hn4 x hx).2.1 (by simpa using hm))
     refine ⟨by simp [aq],by omega,?_⟩
     rcases h1.2.2 with ⟨h2,_,_⟩ | ⟨b',cs,h2,h3,h4,h5,h6⟩
     ·cases h2
     ·refine .inr ⟨b',cs,h2,h3,h4,h5,?_⟩
      have h7:(cs.toList.take (l*1)).take T0.length=(aq (T0++[k])).take T0.length:=by rw [h6]
      have h8:(aq T0).take T0.length=aq T0:=List.take_of_length_le (by simp [aq])
      have h9:min T0.length (l*1)=T0.length:=by omega
      rw [List.take_take,bt,List.take_append_of_le_length (by simp [aq]),h8,h9] at h7
      rw [←h7,Nat.mul_one]
    ·refine ⟨Nat.le_trans hf0.1 hft.1,fun b hb _=>?_⟩
     rw [hft.2 b (Nat.lt_of_lt_of_le hb hf0.1) (by simp;omega),hf0.2 b hb (by simp)]
   have hdd:∀ H6,H6=au H5 ⟨H.size+2,0,none⟩ (.slice (some p) T0.length c)->H6=au H5 ⟨H.size+2,0,none⟩ (.slice (some p) T0.length c):=fun _ h=>h
   generalize hH6:au H5 ⟨H.size+2,0,none⟩ (.slice (some p) T0.length c)=H6 at hst6 ⊢
   clear hdd
   have hkS:k∈S:=hwk.sub k (by simp)
   have hkR:Reaches r ws k:=hwk.sound k hkS
   obtain ⟨o,hoo⟩:∃ o,aH r.objs k=some o:=by
    cases ho:aH r.objs k with
    | none=>exact absurd ho hkR.there
    | some o=>exact ⟨o,rfl⟩
   refine GF (H:=H6) (hb:=hb) ⟨_,_,_,rfl,fun fn26=>?_⟩
   have hwk6:Walk r ws S T0:={ hwk with ndT:=hwk.ndT.sublist (by simp),sub:=fun x hx=>hwk.sub x (by simp [hx]) }
   simp only [Array.size_push,Nat.add_assoc,Nat.reduceAdd]
   refine R4 (H:=H) (ws:=ws) hR hst6 hwk6 hoo hkR hall (fun hl hq=>iB hl hq) rfl rfl fun H8 hst8=>?_
   have hnx:∀ x∈ke r o,Reaches r ws x:=mF hoo hkR
   obtain ⟨nw,b1,b2,b3,b4,b5⟩:=pU (S,T0) (ke r o)
   simp only at b1 b2
   have hwk8:=hwk6.fold hnx
   obtain ⟨hm8,hs8⟩:=hst8.lens
   have hle8:=hwk8.le hw
   refine ⟨⟨trivial,_,_,hst8,hwk8,fun j hj1 hj2 o' ho' x hx=>?_,fun w hw' hne=>?_⟩,?_⟩
   ·by_cases hjk:j=k
    ·subst hjk
     rw [hoo] at ho';cases ho'
     exact b3 x hx
    ·rw [b2] at hj2
     rw [b1] at hj1 ⊢
     have hjS:j∈S:=by
      rcases List.mem_append.1 hj1 with h1 | h1
      ·exact h1
      ·exact absurd (List.mem_append_right T0 h1) hj2
     refine List.mem_append_left _ (hdo j hjS (fun hm=>?_) o' ho' x hx)
     rcases List.mem_append.1 hm with h1 | h1
     ·exact hj2 (List.mem_append_left _ h1)
     ·simp only [List.mem_singleton] at h1;exact hjk h1
   ·rw [b1];exact List.mem_append_left _ (hrt w hw' hne)
   ·rw [hm8,hs8,hml,hsl]
    have l1:=congrArg List.length b1
    have l2:=congrArg List.length b2
    simp only [List.length_append,List.length_cons,List.length_nil] at l1 l2 ⊢
    omega
  ·
   have hT0:T=[]:=List.eq_nil_of_length_eq_zero (by omega)
   subst hT0
   have hcl:=hwk.closed hw hdo hrt
   have cm:ac H5 ⟨H.size+1,0,none⟩=some (.map (some H.size)):=hV.b1.cell 0
   refine ⟨_,cm,ul hmi hV.mp ⟨_,rfl,?_⟩⟩
   have hSl:(fE S).length=S.length:=by simp [fE]
   have hSle:=hlens.1
   refine dS hs1 rfl (Int.le_refl _) (by omega) (by omega) (by decide) fun e=>⟨_,_,_,rfl,?_⟩
   have hfp:Fr [] H5 (H5.push (.cells (Array.replicate ((fE S).length:Int).toNat (.int .i64 0)) e)):=Fr.push _ _ _
   refine ⟨_,(show _=some (Value.map (some H.size)) from (hV.b1.fr hfp (by simp)).cell 0),?_⟩
   refine rh hmi (hV.mp.fr hfp (by simp)) fun H11 hit hf11=>?_
   have hlt5:H.size+3<H5.size:=hvb.lt
   refine ⟨fun w HH=>∃(a:Option Addr) (l c:Nat) (G':ay) (done:List (Key × Value)),w=[.slice a l c]∧gq HH (H5.size+1) H.size (fE S) done∧bv 1 HH a l c (aq (fO done)) G'∧Fr [] H HH∧(∀ x∈G',H5.size<=x∧x≠H5.size+1)∧G'≠[]∧H5.size+2<=HH.size,fun w _=>match w with
    | [.slice _ l _]=>S.length-l
    | _=>0,⟨_,_,_,[H5.size],[],rfl,?_,?_,?_,?_,by simp,?_⟩,?_⟩
   ·simpa using hit
   ·exact (bv.newMem H5 ((fE S).length:Int).toNat e).fr hf11 (by simp)
   ·exact (hf0.trans hfp).trans hf11
   ·simp
   ·have:=hf11.1;simp only [Array.size_push] at this
    have h2:=hit
    obtain ⟨_,_,_,_,_,_,_,_,h3,_⟩:=h2
    have:=(Array.getElem?_eq_some_iff.1 h3).1
    simp only [Array.size_push] at this
    omega
   ·rintro w HH ⟨a1,l1,c1,G1,done,rfl,hit1,ho1,hf1,hG1,hne1,hsz1⟩ g
    refine ⟨_,_,_,rfl,?_⟩
    have hl1:l1=done.length:=by have:=ho1.len;simpa [aq,fO] using this.symm
    have hle1:=hit1.len
    rw [hSl] at hle1
    simp only [Array.size_push]
    refine tj hit1 (fun hperm=>.inl ⟨rfl,?_⟩) fun p H12 hp hit2 hf2=>.inr ⟨_,_,rfl,?_⟩
    ·
     have hpk:(fO done).Perm S:=by
      have:=List.Perm.map (fun p:Key × Value=>(fO [p]).headD 0) hperm
      have e:∀ l:List (Key × Value),l.map (fun p=>(fO [p]).headD 0)=fO l:=fun l=>by unfold fO;apply List.map_congr_left;intro p _;simp
      rw [e,e,tC] at this;exact this
     rcases ho1.2.2 with ⟨_,_,h0⟩ | ⟨b,cs,h1,h2,_⟩
     ·exact absurd h0 hne1
     ·subst h1;subst h2
      refine oO Tryz.sortI ⟨_,Tryz.func251,rfl⟩ ho1 (by omega) fun H13 ho13 hf13=>⟨rfl,fun H14 hsh=>?_⟩
      rw [rT hw hwk.nd (fun k=>hcl.iff) hpk] at ho13
      have hb:=hG1 b (by simp)
      have hf14:Fr [] H H13:=⟨Nat.le_trans hf1.1 hf13.1,fun x hx _=>by
       rw [hf13.2 x (Nat.lt_of_lt_of_le hx hf1.1) (fun hm=>by have:=List.mem_singleton.1 hm;have:=hf0.1;omega),hf1.2 x hx (by simp)]⟩
      exact h _ _ _ [b] H14 (jc.own hsh ho13) (jc.fr hsh hf14 rfl) (fun x hx=>by have:=List.mem_singleton.1 hx;have:=hf0.1;omega)
    ·obtain ⟨n,hn⟩:∃ n,p.1=.int n:=by
      simp only [fE,List.mem_map] at hp
      obtain ⟨k,_,rfl⟩:=hp
      exact ⟨k,rfl⟩
     refine ru hit2 ⟨n,p.2,by rw [hn];rfl,?_⟩
     have hbG:(H5.size+1)∉G1:=fun hm=>(hG1 _ hm).2 rfl
     have ho2:bv 1 H12 a1 l1 c1 (aq (fO done)) G1:=ho1.fr hf2 (fun x hx hm=>(hG1 x hx).2 (by simpa using hm))
     have hf12:Fr [] H H12:=⟨Nat.le_trans hf1.1 hf2.1,fun x hx _=>by
      rw [hf2.2 x (Nat.lt_of_lt_of_le hx hf1.1) (fun hm=>by have:=List.mem_singleton.1 hm;have:=hf0.1;omega),hf1.2 x hx (by simp)]⟩
     have hle2:=hit2.len
     rw [hSl,List.length_append] at hle2
     simp only [List.length_cons,List.length_nil] at hle2
     refine bg hs1 rfl (by kernel_rfl) ho2 rfl (by simp [cC]) (by omega) (by decide) (by decide) fun a' c' G2 H3 g1 g2 g3=>⟨_,_,_,rfl,⟨a',l1+1,c',G2,done++[p],rfl,?_,?_,?_,?_,?_,?_⟩,?_⟩
     ·exact hit2.fr g2.1 hbG (fun hm=>by have:=(hG1 _ hm).1;have:=hf0.1;omega)
     ·have:fO (done++[p])=fO done++[n]:=by simp [fO,hn]
      rw [this,bt];exact g1
     ·refine ⟨Nat.le_trans hf12.1 g2.1.1,fun x hx _=>?_⟩
      rw [g2.1.2 x (Nat.lt_of_lt_of_le hx hf12.1) (fun hm=>by have:=(hG1 _ hm).1;have:=hf0.1;omega),hf12.2 x hx (by simp)]
     ·intro x hx
      rcases g2.2 x hx with h4 | h4
      ·exact hG1 x h4
      ·have:=hf2.1;omega
     ·intro h0
      subst h0
      rcases g1.2.2 with ⟨_,h1,_⟩ | ⟨_,_,_,h1,_⟩
      ·have:=g1.2.1;omega
      ·cases h1
     ·have:=hf2.1;have:=g2.1.1;omega
     ·omega
end
section
variable {H:aj}{Q:QT}
theorem r8 {a:Option Addr}{l c:Nat}{ws:List Int}{f:Nat}{p:Int->Bool} (hk:Rd 1 H a l (aq ws)) (hlk:l<=1000000000)
  (hf:∀ x Q',Q' (.bool (p x)) H->ah PP f ((#[]++#[.int .i64 x])++#[]) Q' H) (h1:(∃ w∈ws,p w=true)->∀ n:Int,0<=n->Q (.int .i64 n) H) (h2:(∀ w∈ws,p w=false)->Q (.int .i64 (-1)) H):ah PP ER #[.slice a l c,.func (.func f) #[] #[]] Q H:=by
 have hl:l=ws.length:=by have:=hk.1;simpa [aq] using this.symm
 apply AO
 unfold MF iV wW
 refine ⟨fun w H'=>H'=H∧∃ i:Nat,w=[.int .i64 i]∧i<=l∧∀ w∈ws.take i,p w=false,fun w _=>match w with
  | [.int _ i]=>(l-i).toNat
  | _=>0,⟨rfl,0,rfl,Nat.zero_le _,by simp⟩,?_⟩
 rintro w H1 ⟨rfl,i,rfl,hi,hall⟩ _
 refine ⟨_,rfl,?_⟩
 rw [ae]
 refine aA (fun hlt=>?_) fun hlt=>?_
 ·obtain ⟨q,rfl,hcell,hlt2⟩:=hk.int (i:=(i:Int)) (by omega) hlt
  rw [Int.toNat_natCast] at hcell hlt2
  have hx:ws.getD i 0=ws[i]:=by simp [hlt2]
  rw [hx] at hcell
  have htk:ws.take (i+1)=ws.take i++[ws[i]]:=by rw [List.take_add_one];simp [hlt2]
  have e:IntKind.wrap .i64 ((i:Int)+1)=((i+1:Nat):Int):=by rw [am (by omega) (by omega)];omega
  refine ⟨⟨by omega,hlt⟩,_,rfl,_,by rw [Int.toNat_natCast,Nat.mul_one];exact hcell,hf _ _ ⟨_,rfl,?_⟩⟩
  cases hp:p ws[i] with
  | true=>exact h1 ⟨_,List.getElem_mem hlt2,hp⟩ _ (by omega)
  | false =>
   simp only [cond_false]
   rw [e]
   refine ⟨⟨trivial,i+1,rfl,by omega,fun w hw=>?_⟩,by simp;omega⟩
   rw [htk] at hw
   rcases List.mem_append.1 hw with hw | hw
   ·exact hall w hw
   ·simp only [List.mem_singleton] at hw;rw [hw];exact hp
 ·have:i=ws.length:=by omega
  rw [this,List.take_length] at hall
  exact h2 hall
theorem Ba {w:Int} (hk:dw H) (h:Q (.bool (!decide (dG w))) H):ah PP uI #[.int .i64 w] Q H:=by
 apply Br
 unfold L0 iV
 refine lS hk ⟨_,rfl,?_⟩
 have:(cz w == 0)=!decide (dG w):=by rw [bj];unfold dG;by_cases h:cz w=0 <;> simp [h]
 rw [this];exact h
theorem pi {a:Option Addr}{l c:Nat}{ws:List Int} (hK:dw H) (hk:Rd 1 H a l (aq ws)) (hlk:l<=1000000000) (h:Q (.bool (decide (∃ w∈ws,¬ dG w))) H):ah PP IW #[.slice a l c,.func (.func uI) #[] #[]] Q H:=by
 apply DG
 unfold N3 iV lV
 refine r8 (p:=fun w=>!decide (dG w)) hk hlk (fun x Q' hq=>?_) (fun he n hn=>⟨_,rfl,?_⟩) fun hall=>⟨_,rfl,?_⟩
 ·show ah PP uI #[.int .i64 x] Q' H
  exact Ba hK hq
 ·have:(∃ w∈ws,¬ dG w):=by obtain ⟨w,h1,h2⟩:=he;exact ⟨w,h1,by simpa using h2⟩
  rw [decide_eq_true this] at h
  rw [decide_eq_true (show n ≥ 0 from hn)];exact h
 ·have:¬ (∃ w∈ws,¬ dG w):=fun ⟨w,h1,h2⟩=>by have:=hall w h1;simp at this;exact h2 this
  rw [decide_eq_false this] at h
  exact h
theorem yv {a:Option Addr}{l c:Nat}{ws:List Int} (hk:Rd 1 H a l (aq ws)) (hlk:l<=1000000000) (h:∀ a' c' F H',bv 1 H' a' l c' (aq ws) F->Fr [] H H'->(∀ x∈F,H.size<=x)->Q (.slice a' l c') H'):ah PP GC #[.slice a l c] Q H:=by
 have hs1:aF PP 108=some (1,8,some (.int .i64 0)):=by kernel_rfl
 apply BS
 unfold NN A0 lV
 cases a with
 | none =>
  have h0:=hk.2.1 rfl
  subst h0
  have:ws=[]:=List.eq_nil_of_length_eq_zero (by have:=hk.1;simpa [aq] using this)
  subst this
  exact h none 0 [] H (bv.nil 1 H) (Fr.refl _ _) (by simp)
 | some p =>
  simp only [Option.isNone_some,cond_false]
  have hown:bv 1 (H.push (.cells #[] 36)) (some ⟨H.size,0,none⟩) 0 0 (aq []) [H.size]:=⟨by simp [aq],Nat.le_refl _,.inr ⟨H.size,_,rfl,rfl,bA.new _ _ _,by simp,by simp [aq]⟩⟩
  refine bY hs1 rfl (by kernel_rfl) hown (hk.fr' (Fr.push [] _ _) (by simp)) cM (by omega) (by decide) (by decide) fun a' c' F' H' g1 g2 g3=>⟨_,_,_,rfl,?_⟩
  have hfr:=Up.fresh (H:=H) (Fr.push [] H _) g2 (by simp)
  have:=h a' c' F' H' (by simpa [aq] using g1) hfr.1 hfr.2
  simpa using this
end
def gn (H:aj) (b:Nat) (F:ay) (s:SP):Prop:=∃ hb a l c F1 F2 po b5 b6 b7,F=b :: (F1++F2)∧b∉F1∧b∉F2∧bi F1 F2∧b≠aE∧aE∉F2 ∧
 bA H b #[.pointer (some ⟨hb,0,none⟩),.int .i64 s.king,.slice a l c,.bool s.op,.pointer po,.int .i64 b5,.int .i64 b6,.int .i64 b7]∧dp H hb F1 s.h∧bv 1 H a l c (aq s.stack) F2∧WFS s ∧
 (s.op=true->po=some ⟨hb,0,none⟩∧b5=s.born∧b6=s.turn∧b7=s.mark)
theorem gn.wf {H:aj}{b:Nat}{F:ay}{s:SP} (h:gn H b F s):WFS s:=by
 obtain ⟨_,_,_,_,_,_,_,_,_,_,_,_,_,_,_,_,_,_,_,h,_⟩:=h;exact h
theorem gn.lt {H:aj}{b:Nat}{F:ay}{s:SP} (h:gn H b F s):∀ x∈F,x<H.size:=by
 obtain ⟨hb,a,l,c,F1,F2,po,b5,b6,b7,rfl,h1,h2,h3,k1,k2,hB,hR,hO,_⟩:=h
 intro x hx
 rcases List.mem_cons.1 hx with rfl | hx
 ·exact hB.lt
 ·rcases List.mem_append.1 hx with hx | hx
  ·exact hR.lt x hx
  ·exact hO.lt x hx
theorem gn.kinds {H:aj}{b:Nat}{F:ay}{s:SP} (h:gn H b F s):dw H:=by
 obtain ⟨_,_,_,_,_,_,_,_,_,_,_,_,_,_,_,_,_,hR,_⟩:=h;exact hR.kinds
theorem gn.gk {H:aj}{b:Nat}{F:ay}{s:SP} (h:gn H b F s):aE∉F:=by
 obtain ⟨hb,a,l,c,F1,F2,po,b5,b6,b7,rfl,h1,h2,h3,k1,k2,hB,hR,hO,_⟩:=h
 simp only [List.mem_cons,List.mem_append,not_or]
 exact ⟨fun e=>k1 e.symm,hR.gk,k2⟩
theorem gn.bmem {H:aj}{b:Nat}{F:ay}{s:SP} (h:gn H b F s):b∈F:=by obtain ⟨_,_,_,_,_,_,_,_,_,_,rfl,_⟩:=h;simp
theorem gn.fr {H H':aj}{b:Nat}{F G:ay}{s:SP} (h:gn H b F s) (hf:Fr G H H') (hd:bi F G) (hg:aE∉G):gn H' b F s:=by
 obtain ⟨hb,a,l,c,F1,F2,po,b5,b6,b7,rfl,h1,h2,h3,k1,k2,hB,hR,hO,hw,ho⟩:=h
 exact ⟨hb,a,l,c,F1,F2,po,b5,b6,b7,rfl,h1,h2,h3,k1,k2,hB.fr hf (hd b (by simp)),hR.fr hf (hd.mono (fun x hx=>by simp [hx]) fun _ h=>h) hg,hO.fr hf (hd.mono (fun x hx=>by simp [hx]) fun _ h=>h),hw,ho⟩
theorem dw.lt {H:aj} (h:dw H):aE<H.size:=by
 have h0:=h.1
 unfold ac at h0
 rcases Nat.lt_or_ge aE H.size with h1 | h1
 ·exact h1
 ·simp only [Array.getElem?_eq_none h1] at h0;cases h0
section
variable {H:aj}{b:Nat}{F F':ay}{s:SP}{Q:QT}
theorem fZ (hS:gn H b F s) (h:Q (.bool false) H):ah PP Nt #[.pointer (some ⟨b,0,none⟩)] Q H:=by
 obtain ⟨hb,a,l,c,F1,F2,po,b5,b6,b7,rfl,h1,h2,h3,k1,k2,hB,hR,hO,hw,ho⟩:=hS
 have hc0:ac H ⟨b,0,none⟩=some (.pointer (some ⟨hb,0,none⟩)):=hB.cell 0
 apply Im
 unfold RE pV
 simp only [Option.isNone_some,cond_false]
 exact ⟨_,rfl,_,hc0,h⟩
theorem Cy {words oops:Int} (hk:dw H) (hbad:¬ (0<=words∧words<=1048576∧0<=oops∧oops<=65536)->Q (.tuple #[.pointer none,.int .i64 1]) H)
  (h:(0<=words∧words<=1048576∧0<=oops∧oops<=65536)->∀ b F H',gn H' b F ⟨⟨words,oops,0,0,0,[]⟩,0,[],false,0,0,0⟩->Fr [] H H'->(∀ x∈F,H.size<=x)->Q (.tuple #[.pointer (some ⟨b,0,none⟩),.int .i64 0]) H'):ah PP N5 #[.int .i64 words,.int .i64 oops] Q H:=by
 have hgl:=hk.lt
 apply Kc
 unfold Ro A0 iV pV lV
 refine vW hk (fun hb=>⟨_,_,rfl,hbad hb⟩) fun hg hb F H1 hR hf hF=>⟨_,_,rfl,?_⟩
 simp only [show ((0:Int) != 0)=false from rfl,cond_false]
 have hlt:=hR.lt
 have hle:=hf.1
 refine h hg H1.size (H1.size :: (F++[])) _ ⟨hb,none,0,0,F,[],none,0,0,0,rfl,fun hx=>?_,by simp,bi.nil_right _,by omega,by simp,bA.new _ _ _,hR.fr (Fr.push [] _ _) (bi.nil_right _) (by simp),bv.nil 1 _,?_,by simp⟩ hf.more ?_
 ·have:=hlt _ hx;omega
 ·exact ⟨hR.wf,by simp,by simp,by simp,by simp⟩
 ·intro x hx
  simp only [List.append_nil,List.mem_cons] at hx
  rcases hx with rfl | hx
  ·exact hle
  ·exact hF x hx
theorem gn.upd (hS:gn H b F s):∃ hb F1,dp H hb F1 s.h∧ac H ⟨b,0,none⟩=some (.pointer (some ⟨hb,0,none⟩))∧ac H ⟨b,3,none⟩=some (.bool s.op)∧ac H ⟨b,1,none⟩=some (.int .i64 s.king)∧(∀ x∈F1,x∈F)∧b∉F1 ∧
  ∀ H' r',dp H' hb F1 r'->Fr F1 H H'->gn H' b F { s with h:=r' }:=by
 obtain ⟨hb,a,l,c,F1,F2,po,b5,b6,b7,rfl,h1,h2,h3,k1,k2,hB,hR,hO,hw,ho⟩:=hS
 refine ⟨hb,F1,hR,hB.cell 0,hB.cell 3,hB.cell 1,fun x hx=>by simp [hx],h1,fun H' r' hR' hf=>?_⟩
 exact ⟨hb,a,l,c,F1,F2,po,b5,b6,b7,rfl,h1,h2,h3,k1,k2,hB.fr hf h1,hR',hO.fr hf h3.symm,{ hw with h:=hR'.wf },ho⟩
theorem cU (hS:gn H b F s) (h:∀ hb F1,dp H hb F1 s.h->(∀ x∈F1,x∈F)->(∀ H' r',dp H' hb F1 r'->Fr F1 H H'->gn H' b F { s with h:=r' })->Q (.pointer (some ⟨hb,0,none⟩)) H):ah PP yh #[.pointer (some ⟨b,0,none⟩)] Q H:=by
 obtain ⟨hb,F1,hR,c0,c3,c1,hsub,hnb,hup⟩:=hS.upd
 apply yx
 unfold QB pV
 refine fZ hS ⟨_,rfl,?_⟩
 simp only [cond_false]
 exact ⟨_,rfl,_,c0,h hb F1 hR hsub hup⟩
theorem xw (hS:gn H b F s){k:Int} (h:∀ H',gn H' b F (s.crown k).2->Fr F H H'->Q (.int .i64 (s.crown k).1) H'):ah PP Lx #[.pointer (some ⟨b,0,none⟩),.int .i64 k] Q H:=by
 have hS0:=hS
 apply Fg
 unfold QY iV pV cS
 refine fZ hS ⟨_,rfl,?_⟩
 simp only [cond_false]
 obtain ⟨hb,a,l,c,F1,F2,po,b5,b6,b7,rfl,h1,h2,h3,k1,k2,hB,hR,hO,hw,ho⟩:=hS
 have hc0:ac H ⟨b,0,none⟩=some (.pointer (some ⟨hb,0,none⟩)):=hB.cell 0
 refine ⟨_,rfl,_,hc0,kO hR ⟨_,_,rfl,?_⟩⟩
 unfold SP.crown at h
 rw [bf,ae]
 refine aA (fun he=>?_) fun he=>?_
 ·rw [if_pos he] at h
  exact h H hS0 (Fr.refl _ _)
 ·rw [if_neg he] at h
  refine ⟨_,rfl,hB.wr (by simp),h _ ⟨hb,a,l,c,F1,F2,po,b5,b6,b7,rfl,h1,h2,h3,k1,k2,hB.set 1 (.int .i64 k),hR.fr (Fr.set (F:=[b]) (by simp)) (fun x hx hn=>h1 (by simp only [List.mem_singleton] at hn;rw [←hn];exact hx)) (by simpa using Ne.symm k1),hO.fr (Fr.set (F:=[b]) (by simp)) (fun x hx hn=>h2 (by simp only [List.mem_singleton] at hn;rw [←hn];exact hx)),?_,ho⟩ (Fr.set (by simp))⟩
  have:∃ o,aH s.h.objs k=some o:=by
   unfold RH.clsAt at he
   cases ho:aH s.h.objs k with
   | none=>rw [ho] at he;simp at he
   | some o=>exact ⟨o,rfl⟩
  obtain ⟨o,hoo⟩:=this
  have hg:=hw.h.objs.good o (aM hoo).1
  have g1:=hg.oop1
  have g2:=hg.oop2
  have g3:=hw.h.o1
  rw [(aM hoo).2] at g1 g2
  exact { hw with king0:=by simp;omega,king1:=by simp;omega }
theorem mr (hS:gn H b F s){i w:Int} (hf:∀ o,aH s.h.objs s.king=some o->o.fmt=0) (h:∀ H',gn H' b F (s.setRoot i w).2->Fr F H H'->Q (.int .i64 (s.setRoot i w).1) H'):ah PP L8 #[.pointer (some ⟨b,0,none⟩),.int .i64 i,.int .i64 w] Q H:=by
 obtain ⟨hb,F1,hR,c0,c3,c1,hsub,hnb,hup⟩:=hS.upd
 apply Gk
 unfold Q7 iV pV cS
 refine fZ hS ⟨_,rfl,?_⟩
 simp only [cond_false]
 refine ⟨_,rfl,_,c0,_,rfl,_,by rw [ao];exact c1,?_⟩
 refine jS hR hf fun H' hR' hf'=>⟨_,rfl,trivial,?_⟩
 exact h H' (hup H' _ hR' hf') (hf'.mono hsub)
theorem qa (hS:gn H b F s) (h:∀ a l c H' ws,Rd 1 H' a l (aq ws)->l<=65537->s.h.reach ws=s.reach->Fr [] H H'->Q (.slice a l c) H'):ah PP IZ #[.pointer (some ⟨b,0,none⟩)] Q H:=by
 obtain ⟨hb,a,l,c,F1,F2,po,b5,b6,b7,rfl,h1,h2,h3,k1,k2,hB,hR,hO,hw,ho⟩:=hS
 have hc1:ac H ⟨b,1,none⟩=some (.int .i64 s.king):=hB.cell 1
 have hc2:ac H ⟨b,2,none⟩=some (.slice a l c):=hB.cell 2
 have hk0:=hw.king0
 have hk1:=hw.king1
 have hm:=hw.many
 have hl:l=s.stack.length:=by have:=hO.len;simpa [aq] using this.symm
 have hs1:aF PP 108=some (1,8,some (.int .i64 0)):=by kernel_rfl
 apply DH
 unfold Lk A0 iV lV cS
 refine ⟨_,rfl,_,by rw [ao];exact hc1,?_⟩
 by_cases hz:s.king=0
 ·refine KZ (by omega) ⟨_,_,rfl,?_⟩
  simp only [show ((1:Int) != 0)=true from rfl,cond_true]
  refine ⟨_,rfl,_,_,_,by rw [ao];exact hc2,h _ _ _ H _ hO.rd (by omega) ?_ (Fr.refl _ _)⟩
  unfold SP.reach SP.roots RH.reach
  rw [hz]
  congr 1
  funext k
  have hn0:aZ s.h (4*0)=0:=by
   unfold aZ
   rw [if_neg]
   rintro ⟨h1,_⟩
   exact absurd h1 (by decide)
  have:Reaches s.h s.stack k↔Reaches s.h (4*0 :: s.stack) k:=by
   constructor
   ·intro hr
    induction hr with
    | root hw' hne=>exact .root (by simp [hw']) hne
    | cls _ h2 h3 ih=>exact .cls ih h2 h3
    | slot _ h2 h3 h4 h5 ih=>exact .slot ih h2 h3 h4 h5
   ·intro hr
    induction hr with
    | @root w hw' hne =>
     rcases List.mem_cons.1 hw' with rfl | hw'
     ·exact absurd hn0 hne
     ·exact .root hw' hne
    | cls _ h2 h3 ih=>exact .cls ih h2 h3
    | slot _ h2 h3 h4 h5 ih=>exact .slot ih h2 h3 h4 h5
  rw [Bool.eq_iff_iff,decide_eq_true_iff,decide_eq_true_iff]
  exact this
 ·refine qt (by omega) ⟨_,_,rfl,?_⟩
  simp only [show ((0:Int) != 0)=false from rfl,cond_false]
  refine ⟨_,rfl,_,_,_,by rw [ao];exact (dm hB.lt).trans hc2,?_⟩
  have hown:bv 1 (H.push (.cells #[.int .i64 (4*s.king)] 36)) (some ⟨H.size,0,none⟩) 1 1 (aq [4*s.king]) [H.size]:=⟨by simp [aq],Nat.le_refl _,.inr ⟨H.size,_,rfl,rfl,bA.new _ _ _,by simp,by simp [aq]⟩⟩
  refine bY hs1 rfl (by kernel_rfl) hown (hO.fr (Fr.push [] _ _) (by simp)).rd cM (by omega) (by decide) (by decide) fun a' c' F' H' g1 g2 g3=>⟨_,_,_,rfl,?_⟩
  have hfr:=Up.fresh (H:=H) (Fr.push [] H _) g2 (by simp)
  refine h _ _ _ H' s.roots ?_ (by omega) rfl hfr.1
  have e2:aq s.roots=aq [4*s.king]++aq s.stack:=by simp [aq,SP.roots]
  rw [e2]
  exact g1.rd
end
section
variable {H:aj}{b:Nat}{F F':ay}{s:SP}{Q:QT}
theorem Mu {hb:Nat}{F1:ay}{r:RH} (hR:dp H hb F1 r){a2:Option Addr}{l2 c2:Nat}{ws:List Int} (hk:Rd 1 H a2 l2 (aq ws)) (hlk:l2<=1000000)
  (h:∀ H',dp H' hb F1 (r.keep (r.reach ws)).2->Fr F1 H H'->Q (jP (r.keep (r.reach ws)).1) H'):ah PP Hm #[.pointer (some ⟨hb,0,none⟩),.slice a2 l2 c2] Q H:=by
 apply Co
 unfold MW iV pV lV cS
 refine vO hR hk hlk fun a l c G H1 ho hf hG=>⟨_,_,_,_,rfl,?_⟩
 simp only [show ((0:Int) != 0)=false from rfl,cond_false]
 have hR1:=hR.fr hf (bi.nil_right _) (by simp)
 have hlt:=hR.lt
 have hll:l<=1099511627776:=by
  have h1:=ho.len
  have h2:(r.reach ws).length<=r.all.length:=List.length_filter_le _ _
  have h3:=r.upto_len (r.oops+1).toNat
  have h4:=hR.wf.o1
  have h5:r.all.length<=(r.oops+1).toNat:=h3
  simp only [aq,List.length_map] at h1
  omega
 refine xM (qE hb r) hR1 ho.rd (fun p hp hin=>?_) hll fun H2 hR2 hf2=>⟨_,_,_,rfl,h H2 hR2 ((hf.of_nil).trans hf2)⟩
 have hpG:p.block∈G:=by
  rcases ho.2.2 with ⟨h1,_⟩ | ⟨b',_,h1,rfl,_⟩
  ·rw [h1] at hp;cases hp
  ·rw [h1] at hp;cases hp;simp
 have h1:=hG _ hpG
 have h2:=hlt _ hin
 omega
theorem gn.nilfr {H':aj} (hS:gn H b F s) (hf:Fr [] H H'):gn H' b F s:=hS.fr hf (bi.nil_right _) (by simp)
theorem mA (hS:gn H b F s) (h:∀ H',gn H' b F s.collect.2->Fr F H H'->ac H' ⟨b,0,none⟩=ac H ⟨b,0,none⟩->Q (jP s.collect.1) H'):ah PP KF #[.pointer (some ⟨b,0,none⟩)] Q H:=by
 obtain ⟨hb,F1,hR,c0,c3,c1,hsub,hnb,hup⟩:=hS.upd
 apply zU
 unfold Pz iV pV lV cS
 unfold SP.collect at h
 refine fZ hS ⟨_,rfl,?_⟩
 simp only [cond_false]
 refine ⟨_,rfl,_,by rw [ao];exact c3,?_⟩
 cases hop:s.op with
 | true =>
  rw [hop] at h
  simp only [cond_true]
  exact h H hS (Fr.refl _ _) rfl
 | false =>
  rw [if_neg (by rw [hop];simp)] at h
  simp only [cond_false]
  refine ⟨_,rfl,_,c0,qa hS fun a l c H1 ws hk hl he hf=>?_⟩
  have hS1:=hS.nilfr hf
  obtain ⟨hb',F1',hR1,c01,c31,c11,hsub1,hnb1,hup1⟩:=hS1.upd
  have hlt:=hS.lt
  have hbl:b<H.size:=hlt b hS.bmem
  have hsame:ac H1 ⟨b,0,none⟩=ac H ⟨b,0,none⟩:=by unfold ac;rw [hf.2 b hbl (by simp)]
  have hbe:hb'=hb:=by rw [hsame,c0] at c01;simpa using c01.symm
  subst hbe
  refine ⟨_,_,_,rfl,⟨⟨by rw [hsame];exact c0,trivial⟩,trivial⟩,?_⟩
  refine Mu hR1 hk (by omega) fun H2 hR2 hf2=>⟨_,_,_,rfl,trivial,?_⟩
  rw [he] at hR2 ⊢
  refine h H2 (hup1 H2 _ hR2 hf2) ((hf.of_nil).trans (hf2.mono hsub1)) ?_
  rw [←hsame];unfold ac;rw [hf2.2 b (Nat.lt_of_lt_of_le hbl hf.1) hnb1]
theorem lZ (hS:gn H b F s){cls n f:Int} (h:∀ H',gn H' b F (s.alloc cls n f).2->Fr F H H'->Q (.tuple #[.int .i64 (if (s.alloc cls n f).1.2=0 then (s.alloc cls n f).1.1 else 0),.int .i64 (s.alloc cls n f).1.2]) H') :
  ah PP Hz #[.pointer (some ⟨b,0,none⟩),.int .i64 cls,.int .i64 n,.int .i64 f] Q H:=by
 have hS0:gn (H.push (.cells #[.pointer (some ⟨b,0,none⟩)] 47)) b F s:=hS.nilfr (Fr.push [] _ _)
 have hB0:bA (H.push (.cells #[.pointer (some ⟨b,0,none⟩)] 47)) H.size #[.pointer (some ⟨b,0,none⟩)]:=bA.new _ _ _
 have hlt:=hS.lt
 have hbx:H.size∉F:=fun hx=>by have:=hlt _ hx;omega
 apply Cw
 unfold Pn A0 iV pV cS
 refine ⟨_,hB0.cell 0,fZ hS0 ⟨_,rfl,?_⟩⟩
 simp only [cond_false]
 have hf0:Fr F H (H.push (.cells #[.pointer (some ⟨b,0,none⟩)] 47)):=Fr.push _ _ _
 generalize (H.push (.cells #[.pointer (some ⟨b,0,none⟩)] 47))=H0 at hS0 hB0 hf0 ⊢
 obtain ⟨hb,F1,hR,c0,c3,c1,hsub,hnb,hup⟩:=hS0.upd
 refine ⟨_,hB0.cell 0,_,rfl,_,c0,?_⟩
 have fin:∀ (p:Int × Int) (s':SP) (H2:aj),gn H2 b F s'->Fr F H H2->s.alloc cls n f=((4*p.1,p.2),s')->(p.2=0->1<=p.1∧p.1<=65536) ->
   ∃ n12 n13:Int,mP p=.tuple #[.int .i64 n12,.int .i64 n13]∧cond (n13 != 0) (Q (.tuple #[.int .i64 0,.int .i64 n13]) H2) (ah PP un #[.int .i64 n12] (fun v14 H3=>∃ n15:Int,∃ n16:Int,v14=.tuple #[.int .i64 n15,.int .i64 n16]∧Q (.tuple #[.int .i64 n15,.int .i64 n16]) H3) H2):=by
  intro p s' H2 hS2 hf2 he hb
  rw [he] at h
  refine ⟨_,_,rfl,?_⟩
  rw [bf,ae]
  refine aA (fun hne=>?_) fun hne=>?_
  ·have:=h H2 hS2 hf2
   simp only [hne,if_false] at this
   exact this
  ·have hz:p.2=0:=Classical.byContradiction hne
   have hbb:=hb hz
   refine qt hbb ⟨_,_,rfl,?_⟩
   have:=h H2 hS2 hf2
   simp only [hz,if_true] at this
   exact this
 have bnd:∀ (r:RH),WFH r->(r.alloc cls n f).1.2=0->1<=(r.alloc cls n f).1.1∧(r.alloc cls n f).1.1<=65536:=by
  intro r hw hz
  have ho1:=hw.o1
  unfold RH.alloc at hz ⊢
  split at hz
  ·simp at hz
  rename_i g1
  split at hz
  ·simp at hz
  rename_i g2
  split at hz
  ·simp at hz
  rename_i g3
  split at hz
  ·simp at hz
  rename_i g4
  rw [if_neg g1,if_neg g2,if_neg g3,if_neg g4]
  have:=dL hw.objs hw.o1 (by omega)
  exact ⟨this.1,by have:=this.2.1;simp only;omega⟩
 apply CW
 unfold PS iV
 show ah PP yb #[.pointer (some ⟨hb,0,none⟩),.int .i64 cls,.int .i64 n,.int .i64 f] _ H0
 refine qW hR fun H1 hR1 hf1=>⟨_,_,rfl,?_⟩
 have hS1:=hup H1 _ hR1 hf1
 have hfr1:Fr F H H1:=hf0.trans (hf1.mono hsub)
 have hB1:=hB0.fr (hf1.mono hsub) hbx
 have hwf:=hS.wf.h
 rw [bj,ae]
 refine aA (fun he=>?_) fun he=>?_
 ·have hfull:=oe he
  have hS1':gn H1 b F s:=by
   have e:({ s with h:=(s.h.alloc cls n f).2 }:SP)=s:=by rw [hfull]
   rw [e] at hS1;exact hS1
  show ah PP Et #[.pointer (some ⟨H.size,0,none⟩)] _ H1
  apply Aq
  unfold Mi iV pV cS
  refine ⟨_,hB1.cell 0,mA hS1' fun H2 hS2 hf2 hsm=>⟨_,_,_,rfl,_,rfl,?_⟩⟩
  have hB2:=hB1.fr hf2 hbx
  cases hop:s.op with
  | true =>
   have ec:s.collect=((0,0,25),s):=by unfold SP.collect;rw [hop];rfl
   rw [ec] at hS2 ⊢
   simp only [show ((25:Int) == 0)=false from rfl,cond_false]
   have ea:s.alloc cls n f=((4*(s.h.alloc cls n f).1.1,(s.h.alloc cls n f).1.2),s):=by
    unfold SP.alloc
    rw [if_pos (.inr hop),hfull]
   exact fin (s.h.alloc cls n f).1 s H2 hS2 (hfr1.trans hf2) ea (bnd _ hwf)
  | false =>
   have ec:s.collect=((s.h.keep s.reach).1,{ s with h:=(s.h.keep s.reach).2 }):=by unfold SP.collect;rw [hop];rfl
   have ek:(s.h.keep s.reach).1.2.2=0:=by
    unfold RH.keep
    rw [if_neg]
    rintro ⟨k,hk,hn⟩
    exact ((RH.mem_reach hwf).1 hk).there hn
   rw [ec] at hS2 ⊢
   simp only [ek,show ((0:Int) == 0)=true from rfl,cond_true]
   obtain ⟨hb',F1',hR3,c03,_,_,hsub3,_,hup3⟩:=hS2.upd
   have hbe:hb'=hb:=by
    have h1:ac H2 ⟨b,0,none⟩=some (.pointer (some ⟨hb,0,none⟩)):=by
     rw [hsm,←c0];unfold ac;rw [hf1.2 b (by have:=hS0.lt b hS0.bmem;exact this) hnb]
    rw [c03] at h1;simpa using h1
   subst hbe
   show ah PP yb #[.pointer (some ⟨hb',0,none⟩),.int .i64 cls,.int .i64 n,.int .i64 f] _ H2
   refine qW hR3 fun H4 hR4 hf4=>⟨_,_,rfl,?_⟩
   have hS4:=hup3 H4 _ hR4 hf4
   have ea:s.alloc cls n f=((4*((s.h.keep s.reach).2.alloc cls n f).1.1,((s.h.keep s.reach).2.alloc cls n f).1.2),{ s with h:=((s.h.keep s.reach).2.alloc cls n f).2 }):=by
    unfold SP.alloc
    rw [if_neg (by simp [he,hop])]
   exact fin ((s.h.keep s.reach).2.alloc cls n f).1 _ H4 hS4 ((hfr1.trans hf2).trans (hf4.mono hsub3)) ea (bnd _ (gz hwf _))
 ·have ea:s.alloc cls n f=((4*(s.h.alloc cls n f).1.1,(s.h.alloc cls n f).1.2),{ s with h:=(s.h.alloc cls n f).2 }):=by
   unfold SP.alloc
   rw [if_pos (.inl he)]
  exact fin (s.h.alloc cls n f).1 _ H1 hS1 hfr1 ea (bnd _ hwf)
theorem lu (hS:gn H b F s){a2:Option Addr}{l2 c2:Nat}{ws:List Int} (hk:Rd 1 H a2 l2 (aq ws)) (hlk:l2<=1000000000) (h:∀ H' F',gn H' b F' (s.keepW ws).2->Up F H F' H'->Q (.int .i64 (s.keepW ws).1) H'):ah PP Lr #[.pointer (some ⟨b,0,none⟩),.slice a2 l2 c2] Q H:=by
 have hS0:=hS
 have hlt0:=hS.lt
 have hkd:=hS.kinds
 have hgl:=hkd.lt
 apply E7
 unfold RT iV wW pV lV cS
 unfold SP.keepW at h
 refine fZ hS ⟨_,rfl,?_⟩
 simp only [cond_false]
 refine pi hkd hk hlk ⟨_,rfl,?_⟩
 rw [ae]
 refine aA (fun hbad=>?_) fun hbad=>?_
 ·rw [if_pos hbad] at h;exact h H F hS0 (Up.refl _ _)
 rw [if_neg hbad] at h
 obtain ⟨hb,a,l,c,F1,F2,po,b5,b6,b7,rfl,h1,h2,h3,k1,k2,hB,hR,hO,hw,ho⟩:=hS
 have hc2:ac H ⟨b,2,none⟩=some (.slice a l c):=hB.cell 2
 have hl:l=s.stack.length:=by have:=hO.len;simpa [aq] using this.symm
 have hl2:l2=ws.length:=by have:=hk.1;simpa [aq] using this.symm
 have hm:=hw.many
 have hs1:aF PP 108=some (1,8,some (.int .i64 0)):=by kernel_rfl
 refine ⟨_,rfl,_,_,_,by rw [ao];exact hc2,?_⟩
 rw [am (by omega) (by omega),ae]
 refine aA (fun hbig=>?_) fun hbig=>?_
 ·rw [if_pos (by omega)] at h;exact h H _ hS0 (Up.refl _ _)
 rw [if_neg (by omega)] at h
 refine ⟨_,rfl,_,_,_,by rw [ao];exact hc2,?_⟩
 refine bY hs1 rfl (by kernel_rfl) hO hk cM (by omega) (by decide) (by decide) fun a' c' F3 H1 g1 g2 g3=>⟨_,_,_,rfl,_,rfl,?_⟩
 have hbF3:b∉F3:=fun hx=>by
  rcases g2.2 b hx with h4 | h4
  ·exact h2 h4
  ·have:=hlt0 b (by simp);omega
 have hgF3:aE∉F3:=fun hx=>by
  rcases g2.2 _ hx with h4 | h4
  ·exact k2 h4
  ·omega
 have hB1:=hB.fr g2.1 h2
 have hfb:Fr [b] H1 (au H1 ⟨b,2,none⟩ (.slice a' (l+l2) c')):=Fr.set (by simp)
 rw [ao]
 refine ⟨hB1.wr (by simp),h _ (b :: (F1++F3)) ⟨hb,a',l+l2,c',F1,F3,po,b5,b6,b7,rfl,h1,hbF3,fun x hx hx3=>?_,k1,hgF3,hB1.set 2 (.slice a' (l+l2) c'),?_,?_,?_,ho⟩ ⟨?_,fun x hx=>?_⟩⟩
 ·rcases g2.2 x hx3 with h4 | h4
  ·exact h3 x hx h4
  ·have:=hlt0 x (by simp [hx]);omega
 ·exact (hR.fr g2.1 h3 k2).fr hfb (fun x hx hn=>h1 (by simp only [List.mem_singleton] at hn;rw [←hn];exact hx)) (by simpa using Ne.symm k1)
 ·simp only
  rw [bt]
  exact g1.fr hfb (fun x hx hn=>hbF3 (by simp only [List.mem_singleton] at hn;rw [←hn];exact hx))
 ·refine { hw with many:=?_,words:=fun w hw'=>?_ }
  ·simp only [List.length_append];omega
  ·rcases List.mem_append.1 hw' with h4 | h4
   ·exact hw.words w h4
   ·exact Classical.byContradiction fun hn=>hbad ⟨w,h4,hn⟩
 ·exact (g2.1.mono (F':=b :: (F1++F2)) fun x hx=>by simp [hx]).trans (hfb.mono fun x hx=>by simp only [List.mem_singleton] at hx;simp [hx])
 ·rcases List.mem_cons.1 hx with rfl | hx
  ·exact .inl (by simp)
  ·rcases List.mem_append.1 hx with hx | hx
   ·exact .inl (by simp [hx])
   ·exact (g2.2 x hx).imp (fun h4=>by simp [h4]) id
theorem jt (hS:gn H b F s) (h:∀ a c H',Rd 1 H' a s.stack.length (aq s.stack)->Fr [] H H'->Q (.slice a s.stack.length c) H'):ah PP Pv #[.pointer (some ⟨b,0,none⟩)] Q H:=by
 apply KL
 unfold Rx pV lV cS
 refine fZ hS ⟨_,rfl,?_⟩
 simp only [cond_false]
 obtain ⟨hb,a,l,c,F1,F2,po,b5,b6,b7,rfl,h1,h2,h3,k1,k2,hB,hR,hO,hw,ho⟩:=hS
 have hc2:ac H ⟨b,2,none⟩=some (.slice a l c):=hB.cell 2
 have hl:l=s.stack.length:=by have:=hO.len;simpa [aq] using this.symm
 have hm:=hw.many
 refine ⟨_,rfl,_,_,_,by rw [ao];exact hc2,?_⟩
 refine yv hO.rd (by omega) fun a' c' G H1 ho1 hf1 hG=>⟨_,_,_,rfl,?_⟩
 apply Aw
 unfold Mn lV
 have hlc:=ho1.2.1
 refine ⟨⟨⟨by omega,by omega⟩,by omega,by omega⟩,_,_,_,rfl,?_⟩
 rw [Int.toNat_natCast,hl]
 rw [hl] at ho1
 exact h _ _ H1 ho1.rd hf1
theorem oW (hS:gn H b F s){n:Int} (hn:Ak n) (h:∀ H',gn H' b F (s.drop n).2->Fr F H H'->Q (.int .i64 (s.drop n).1) H'):ah PP M3 #[.pointer (some ⟨b,0,none⟩),.int .i64 n] Q H:=by
 have hS0:=hS
 apply HK
 unfold Rt iV wW pV lV
 unfold SP.drop at h
 refine fZ hS ⟨_,rfl,?_⟩
 simp only [cond_false,ae]
 refine aA (fun hneg=>?_) fun hneg=>?_
 ·rw [if_pos (.inl hneg)] at h;exact h H hS0 (Fr.refl _ _)
 obtain ⟨hb,a,l,c,F1,F2,po,b5,b6,b7,rfl,h1,h2,h3,k1,k2,hB,hR,hO,hw,ho⟩:=hS
 have hc2:ac H ⟨b,2,none⟩=some (.slice a l c):=hB.cell 2
 have hl:l=s.stack.length:=by have:=hO.len;simpa [aq] using this.symm
 have hm:=hw.many
 refine ⟨_,rfl,_,_,_,by rw [ao];exact hc2,aA (fun hbig=>?_) fun hbig=>?_⟩
 ·rw [if_pos (.inr (by omega))] at h;exact h H hS0 (Fr.refl _ _)
 rw [if_neg (by omega)] at h
 have e:IntKind.wrap .i64 ((l:Int)-n)=(l:Int)-n:=am (by omega) (by omega)
 have hlc:=hO.2.1
 refine ⟨_,rfl,_,_,_,by rw [ao];exact hc2,_,rfl,_,_,_,by rw [ao];exact hc2,?_⟩
 rw [e]
 have hfb:Fr [b] H (au H ⟨b,2,none⟩ (.slice a ((l:Int)-n).toNat c)):=Fr.set (by simp)
 refine ⟨⟨by omega,by omega⟩,_,rfl,by rw [ao];exact hB.wr (by simp),trivial,?_⟩
 rw [ao]
 refine h _ ⟨hb,a,((l:Int)-n).toNat,c,F1,F2,po,b5,b6,b7,rfl,h1,h2,h3,k1,k2,hB.set 2 _,?_,?_,?_,ho⟩ (hfb.mono fun x hx=>by simp only [List.mem_singleton] at hx;simp [hx])
 ·exact hR.fr hfb (fun x hx hn=>h1 (by simp only [List.mem_singleton] at hn;rw [←hn];exact hx)) (by simpa using Ne.symm k1)
 ·have h4:=hO.fr hfb (fun x hx hn=>h2 (by simp only [List.mem_singleton] at hn;rw [←hn];exact hx))
  have h5:s.stack.length-n.toNat=((l:Int)-n).toNat:=by omega
  simp only
  rw [h5]
  refine ⟨by simp [aq];omega,by omega,?_⟩
  rcases h4.2.2 with ⟨h6,h7,h8⟩ | ⟨b',cs,h6,h7,h8,h9,h10⟩
  ·exact .inl ⟨h6,h7,h8⟩
  ·refine .inr ⟨b',cs,h6,h7,h8,h9,?_⟩
   have h11:(cs.toList.take (l*1)).take (((l:Int)-n).toNat*1)=(aq s.stack).take (((l:Int)-n).toNat*1):=by rw [h10]
   rw [List.take_take] at h11
   have h12:min (((l:Int)-n).toNat*1) (l*1)=((l:Int)-n).toNat*1:=by omega
   rw [h12] at h11
   rw [h11]
   simp [aq,List.map_take]
 ·refine { hw with many:=?_,words:=fun w hw'=>hw.words w (List.mem_of_mem_take hw') }
  simp only [List.length_take];omega
end
theorem zL {H:aj}{b:Nat}{cs:Array Value} (hB:bA H b cs){o:Nat} (ho:o+3<cs.size) (v0 v1 v2 v3:Value) :
  Wr H ⟨b,o,none⟩∧Wr (au H ⟨b,o,none⟩ v0) ⟨b,o+1,none⟩∧Wr (au (au H ⟨b,o,none⟩ v0) ⟨b,o+1,none⟩ v1) ⟨b,o+2,none⟩ ∧
  Wr (au (au (au H ⟨b,o,none⟩ v0) ⟨b,o+1,none⟩ v1) ⟨b,o+2,none⟩ v2) ⟨b,o+3,none⟩ ∧
  bA (au (au (au (au H ⟨b,o,none⟩ v0) ⟨b,o+1,none⟩ v1) ⟨b,o+2,none⟩ v2) ⟨b,o+3,none⟩ v3) b ((((cs.setIfInBounds o v0).setIfInBounds (o+1) v1).setIfInBounds (o+2) v2).setIfInBounds (o+3) v3) ∧
  Fr [b] H (au (au (au (au H ⟨b,o,none⟩ v0) ⟨b,o+1,none⟩ v1) ⟨b,o+2,none⟩ v2) ⟨b,o+3,none⟩ v3):=by
 have h0:=hB.set o v0
 have h1:=h0.set (o+1) v1
 have h2:=h1.set (o+2) v2
 refine ⟨hB.wr (by omega),h0.wr (by simp;omega),h1.wr (by simp;omega),h2.wr (by simp;omega),h2.set (o+3) v3,?_⟩
 exact (((Fr.set (by simp)).step (by simp)).step (by simp)).step (by simp)
def CD (cs:Array Value) (i:Nat) (o:RO):Prop:=∃ a c,cs[i*4]?=some (.int .i64 o.oop)∧cs[i*4+1]?=some (.int .i64 o.cls)∧cs[i*4+2]?=some (.int .i64 o.fmt)∧cs[i*4+3]?=some (.slice a o.slots.length c)
theorem CD.set {cs:Array Value}{i:Nat}{o:RO}{a:Option Addr}{c:Nat} (hs:i*4+3<cs.size) :
  CD ((((cs.setIfInBounds (i*4) (.int .i64 o.oop)).setIfInBounds (i*4+1) (.int .i64 o.cls)).setIfInBounds (i*4+2) (.int .i64 o.fmt)).setIfInBounds (i*4+3) (.slice a o.slots.length c)) i o:=by
 refine ⟨a,c,?_,?_,?_,?_⟩ <;> simp [Array.getElem?_setIfInBounds] <;> omega
theorem CD.keep {cs:Array Value}{i j:Nat}{o:RO}{v0 v1 v2 v3:Value} (h:CD cs j o) (hij:j<i) :
  CD ((((cs.setIfInBounds (i*4) v0).setIfInBounds (i*4+1) v1).setIfInBounds (i*4+2) v2).setIfInBounds (i*4+3) v3) j o:=by
 obtain ⟨a,c,h0,h1,h2,h3⟩:=h
 refine ⟨a,c,?_,?_,?_,?_⟩
 all_goals
  rw [Array.getElem?_setIfInBounds_ne (by omega),Array.getElem?_setIfInBounds_ne (by omega),Array.getElem?_setIfInBounds_ne (by omega),Array.getElem?_setIfInBounds_ne (by omega)]
  assumption
def RY (H:aj) (a:Option Addr) (l:Nat) (objs:List RO):Prop:=l=objs.length∧∃ ob cs,a=some ⟨ob,0,none⟩∧bA H ob cs∧∀ j (hj:j<objs.length),CD cs j objs[j]
section
variable {H:aj}{hb:Nat}{F:ay}{r:RH}{Q:QT}
theorem qc {H0 G7:aj}{wb tb bb:Nat}{W T B:Int->Int}{low:Int}{o:RO}{o1 sb:Nat}{Kend:aj->Prop} (hPof:∀ {H':aj},Fr [] H0 H'->PHs H' hb wb tb bb W T B low r) (ho:o∈r.objs) (hf0:Fr [] H0 G7)
  (hm:dM G7 sb o.slots.length fun _=>0) (hB:bA G7 o1 #[.int .i64 o.oop,.int .i64 o.cls,.int .i64 o.fmt,.slice (some ⟨sb,0,none⟩) o.slots.length o.slots.length]) (h1:H0.size<=sb) (h2:o1≠sb)
  (hend:∀ H8,Fr [sb] G7 H8->bA H8 o1 #[.int .i64 o.oop,.int .i64 o.cls,.int .i64 o.fmt,.slice (some ⟨sb,0,none⟩) o.slots.length o.slots.length]->Kend H8) :
  ∃(I:List Value->aj->Prop) (μ:List Value->aj->Nat),I [.int .i64 0] G7∧∀ w H7,I w H7->∀ _g:Nat->Value,∃ n:Int,w=[.int .i64 n]∧cond (decide (n<(o.slots.length:Int))) (∃ a:Option Addr,∃ l:Nat,∃ c:Nat,ac H7 ⟨o1,3,none⟩=some (.slice a l c) ∧
   ah PP tV #[.pointer (some ⟨hb,0,none⟩),.int .i64 o.oop,.int .i64 n] (fun v H8=>∃ x:Int,∃ y:Int,v=.tuple #[.int .i64 x,.int .i64 y]∧((ac H8 ⟨o1,3,none⟩=some (.slice a l c)∧True)∧True)∧((0:Int)<=n∧n<(l:Int))∧∃ q,a=some q∧Wr H8 (q.add (Int.toNat n))∧True ∧
    I [.int .i64 (IntKind.wrap .i64 (n+1))] (au H8 (q.add (Int.toNat n)) (.int .i64 x))∧μ [.int .i64 (IntKind.wrap .i64 (n+1))] (au H8 (q.add (Int.toNat n)) (.int .i64 x))<μ w H7) H7) (Kend H7):=by
 have hmany:=((hPof hf0).in_ ho).2.2.2.2.2
 refine ⟨fun w H7=>∃ i:Nat,w=[.int .i64 i]∧i<=o.slots.length∧Fr [sb] G7 H7∧(∃ f,dM H7 sb o.slots.length f)∧bA H7 o1 #[.int .i64 o.oop,.int .i64 o.cls,.int .i64 o.fmt,.slice (some ⟨sb,0,none⟩) o.slots.length o.slots.length],fun w _=>match w with
  | [.int _ i]=>(o.slots.length-i).toNat
  | _=>0,⟨0,rfl,Nat.zero_le _,Fr.refl _ _,⟨_,hm⟩,hB⟩,?_⟩
 rintro w H7 ⟨i,rfl,hi,hf,⟨f,hm7⟩,hB7⟩ _
 refine ⟨_,rfl,?_⟩
 rw [ae]
 refine aA (fun hlt=>?_) fun hlt=>hend H7 hf hB7
 have hf7:Fr [] H0 H7:=⟨Nat.le_trans hf0.1 hf.1,fun x hx _=>by rw [hf.2 x (Nat.lt_of_lt_of_le hx hf0.1) (by simp;omega),hf0.2 x hx (by simp)]⟩
 have e:IntKind.wrap .i64 ((i:Int)+1)=((i+1:Nat):Int):=by rw [am (by omega) (by omega)];omega
 refine ⟨_,_,_,hB7.cell 3,Ml (hPof hf7) ⟨_,_,rfl,⟨⟨hB7.cell 3,trivial⟩,trivial⟩,⟨by omega,hlt⟩,_,rfl,?_⟩⟩
 rw [ao,Nat.zero_add,e]
 refine ⟨hm7.wr (by omega) (by omega),trivial,⟨i+1,rfl,by omega,hf.step (by simp),⟨_,hm7.set (by omega) _⟩,hB7.set_ne h2 _⟩,by simp;omega⟩
theorem Be (hR:dp H hb F r) (h:∀ a c H',RY H' a r.objs.length r.objs->Fr [] H H'->Q (.agg #[.int .i64 r.words,.int .i64 r.oops,.int .i64 r.mark,.slice a r.objs.length c]) H'):ah PP Fv #[.pointer (some ⟨hb,0,none⟩)] Q H:=by
 have hlt0:=hR.lt
 have hw:=hR.wf
 have hw0:=hw.w0
 have hw1:=hw.w1
 have ho0:=hw.o0
 have ho1:=hw.o1
 have hs4:aF PP 241=some (4,48,some (.agg #[.int .i64 0,.int .i64 0,.int .i64 0,.slice none 0 0])):=by kernel_rfl
 have hs1:aF PP 108=some (1,8,some (.int .i64 0)):=by kernel_rfl
 have hcount:r.objs.length<=65537:=by
  have h1:r.objs.length=(r.objs.map (·.oop)).length:=by simp
  have h2:(r.objs.map (·.oop)).length<=r.all.length:=jr (by
   rw [List.nodup_iff_pairwise_ne,List.pairwise_map]
   exact hw.objs.pw.imp fun h=>h.1) fun k hk=>by
    obtain ⟨o,ho,rfl⟩:=List.mem_map.1 hk
    rw [RH.mem_all hw,bW hw.objs ho];simp
  have h3:=r.upto_len (r.oops+1).toNat
  have h4:r.all.length<=(r.oops+1).toNat:=h3
  omega
 apply Bj
 unfold LO A0 iV wW pV lV cS;dsimp only [shH]
 have hfR:Fr [] H (H.push (.cells #[.int .i64 0,.int .i64 0,.int .i64 0,.slice none 0 0] 243)):=Fr.push _ _ _
 have hBR:bA (H.push (.cells #[.int .i64 0,.int .i64 0,.int .i64 0,.slice none 0 0] 243)) H.size #[.int .i64 0,.int .i64 0,.int .i64 0,.slice none 0 0]:=bA.new _ _ _
 have hsz1:(H.push (.cells #[.int .i64 0,.int .i64 0,.int .i64 0,.slice none 0 0] 243)).size=H.size+1:=by simp
 generalize (H.push (.cells #[.int .i64 0,.int .i64 0,.int .i64 0,.slice none 0 0] 243))=H1 at hfR hBR hsz1 ⊢
 obtain ⟨wb,tb,bb,W,T,B,low,rfl,hP⟩:=hR
 have hPof:∀ {H':aj},Fr [] H H'->PHs H' hb wb tb bb W T B low r:=fun hf=>by
  obtain ⟨_,_,_,_,_,_,_,_,_⟩:=hP.rep.fr hf (bi.nil_right _) (by simp)
  exact { hP with hd:=hP.hd.fr hf (by simp),mw:=hP.mw.fr hf (by simp),mt:=hP.mt.fr hf (by simp),mb:=hP.mb.fr hf (by simp),kinds:=hP.kinds.fr hf (by simp) }
 have hP1:=hPof hfR
 refine lF hP1 ⟨_,rfl,?_⟩
 simp only [cond_false]
 refine ⟨_,rfl,_,_,_,hP1.c0,_,rfl,_,_,_,by rw [ao];exact hP1.c1,_,rfl,_,by rw [ao];exact hP1.c6,?_⟩
 simp only [ao,Nat.zero_add]
 have e1:IntKind.wrap .i64 ((((r.oops+1).toNat:Nat):Int)-1)=r.oops:=by rw [am (by omega) (by omega)];omega
 have e2:((r.words.toNat:Nat):Int)=r.words:=by omega
 rw [e1,e2]
 have hp:=hPof (hfR.trans (Fr.push [] H1 (.cells #[.int .i64 0,.int .i64 0,.int .i64 0,.slice none 0 0] 243)))
 refine ⟨⟨⟨hp.c6,trivial⟩,⟨hp.c1,trivial⟩,⟨hp.c0,trivial⟩,trivial⟩,?_⟩
 obtain ⟨w0,w1,w2,w3,hBs,hfs⟩:=zL (bA.new H1 #[.int .i64 0,.int .i64 0,.int .i64 0,.slice none 0 0] 243) (o:=0) (by simp) (.int .i64 r.words) (.int .i64 r.oops) (.int .i64 r.mark) (.slice none 0 0)
 refine ⟨w0,w1,w2,w3,trivial,_,rfl,?_⟩
 simp only [Nat.zero_add] at hBs hfs
 rw [ao]
 have hf2:Fr [] H (au (au (au (au (H1.push (.cells #[.int .i64 0,.int .i64 0,.int .i64 0,.slice none 0 0] 243)) ⟨H1.size,0,none⟩ (.int .i64 r.words)) ⟨H1.size,1,none⟩ (.int .i64 r.oops)) ⟨H1.size,2,none⟩ (.int .i64 r.mark)) ⟨H1.size,3,none⟩ (.slice none 0 0)):=⟨by have:=hfs.1;simp only [Array.size_push] at this;omega,fun x hx _=>by
  rw [hfs.2 x (by simp;omega) (by simp;omega),Array.getElem?_push,if_neg (by omega),hfR.2 x hx (by simp)]⟩
 have hBR2:=(hBR.push (.cells #[.int .i64 0,.int .i64 0,.int .i64 0,.slice none 0 0] 243)).fr hfs (by simp;omega)
 have hsz2:H1.size+1=(au (au (au (au (H1.push (.cells #[.int .i64 0,.int .i64 0,.int .i64 0,.slice none 0 0] 243)) ⟨H1.size,0,none⟩ (.int .i64 r.words)) ⟨H1.size,1,none⟩ (.int .i64 r.oops)) ⟨H1.size,2,none⟩ (.int .i64 r.mark)) ⟨H1.size,3,none⟩ (.slice none 0 0)).size:=by simp [dR]
 generalize (au (au (au (au (H1.push (.cells #[.int .i64 0,.int .i64 0,.int .i64 0,.slice none 0 0] 243)) ⟨H1.size,0,none⟩ (.int .i64 r.words)) ⟨H1.size,1,none⟩ (.int .i64 r.oops)) ⟨H1.size,2,none⟩ (.int .i64 r.mark)) ⟨H1.size,3,none⟩ (.slice none 0 0))=H2 at hBs hf2 hBR2 hsz2 ⊢

 have hP2:=hPof hf2
 refine ⟨_,hP2.c3,nM hs4 (by omega) (Int.le_refl _) (by omega) (by decide) fun e cs hcs=>⟨_,_,_,rfl,?_⟩⟩
 simp only [Int.toNat_natCast,ao,Nat.zero_add] at hcs ⊢
 have hBs3:=hBs.push (.cells cs e)
 refine ⟨hBs3.wr (by simp),?_⟩
 have hB4:=hBs3.set 3 (.slice (some ⟨H2.size,0,none⟩) r.objs.length r.objs.length)
 simp only [List.setIfInBounds_toArray,List.set_cons_zero,List.set_cons_succ,List.size_toArray,List.length_cons,List.length_nil,List.getElem?_toArray,List.getElem?_cons_succ,List.getElem?_cons_zero] at hB4
 have hfx:Fr [H1.size] (H2.push (.cells cs e)) (au (H2.push (.cells cs e)) ⟨H1.size,3,none⟩ (.slice (some ⟨H2.size,0,none⟩) r.objs.length r.objs.length)):=Fr.set (by simp)
 have hob4:bA (au (H2.push (.cells cs e)) ⟨H1.size,3,none⟩ (.slice (some ⟨H2.size,0,none⟩) r.objs.length r.objs.length)) H2.size cs:=(bA.new H2 cs e).fr hfx (by simp;omega)
 have hBR4:=(hBR2.push (.cells cs e)).fr hfx (by simp;omega)
 have hf4:Fr [] H (au (H2.push (.cells cs e)) ⟨H1.size,3,none⟩ (.slice (some ⟨H2.size,0,none⟩) r.objs.length r.objs.length)):=⟨by have:=hf2.1;simp [dR];omega,fun x hx _=>by
  rw [hfx.2 x (by have:=hf2.1;simp;omega) (by simp;omega),Array.getElem?_push,if_neg (by have:=hf2.1;omega),hf2.2 x hx (by simp)]⟩
 have hsz4:H2.size+1=(au (H2.push (.cells cs e)) ⟨H1.size,3,none⟩ (.slice (some ⟨H2.size,0,none⟩) r.objs.length r.objs.length)).size:=by simp [dR]
 generalize (au (H2.push (.cells cs e)) ⟨H1.size,3,none⟩ (.slice (some ⟨H2.size,0,none⟩) r.objs.length r.objs.length))=H4 at hB4 hob4 hBR4 hf4 hsz4 ⊢
 have hP4:=hPof hf4
 refine qE hb r hP4 fun a l c G H5 hown hf5 hG=>⟨_,_,_,rfl,?_⟩
 have hl:l=r.objs.length:=by have:=hown.len;simpa [aq] using this.symm
 subst hl
 have hGn:∀ x,x<H4.size->x∉G:=fun x hx hm=>by have:=hG x hm;omega
 refine ⟨fun w H'=>∃(i:Nat) (cs':Array Value),w=[.int .i64 i]∧i<=r.objs.length∧Fr [] H H'∧bA H' H1.size #[.int .i64 r.words,.int .i64 r.oops,.int .i64 r.mark,.slice (some ⟨H2.size,0,none⟩) r.objs.length r.objs.length] ∧
   bA H' H2.size cs'∧cs'.size=r.objs.length*4∧(∀ j (hj:j<r.objs.length),j<i->CD cs' j r.objs[j])∧bv 1 H' a r.objs.length c (aq (r.objs.map (·.oop))) G∧bA H' H.size #[.int .i64 0,.int .i64 0,.int .i64 0,.slice none 0 0]∧H4.size<=H'.size,fun w _=>match w with
  | [.int _ i]=>(r.objs.length-i).toNat
  | _=>0,⟨0,cs,rfl,Nat.zero_le _,hf4.trans hf5,hB4.fr hf5 (by simp),hob4.fr hf5 (by simp),hcs,by simp,hown,hBR4.fr hf5 (by simp),hf5.1⟩,?_⟩
 rintro w H6 ⟨i,cs6,rfl,hi,hf6,hB6,hob6,hcs6,hen6,hown6,hBR6,hsz6⟩ _
 refine ⟨_,rfl,?_⟩
 rw [ae]
 refine aA (fun hlt=>?_) fun hlt=>?_
 ·have hlt':i<r.objs.length:=by omega
  have hoi:r.objs[i]∈r.objs:=List.getElem_mem hlt'
  have hP6:=hPof hf6
  obtain ⟨p,rfl,hcell,hlt2⟩:=hown6.rd.int (i:=(i:Int)) (by omega) hlt
  rw [Int.toNat_natCast] at hcell hlt2
  have hx:(r.objs.map (·.oop)).getD i 0=r.objs[i].oop:=by simp [hlt']
  rw [hx] at hcell
  have hg:=hw.objs.good r.objs[i] hoi
  have hg1:=hg.oop1
  have hg2:=hg.oop2
  have hgp:=hg.pl
  have hgf:=hg.fits
  have hgl:=r.objs[i].len_pos
  have hmany:=hg.many
  have htab:=hP6.sim.tab r.objs[i].oop (by omega) (by omega)
  rw [bW hw.objs hoi] at htab
  simp only at htab
  have htc:=hP6.tabc (i:=r.objs[i].oop) (by omega) (by omega)
  rw [htab] at htc
  have hwc:=hP6.word (i:=r.objs[i].place) (by omega) (by omega)
  rw [hP6.sim.cls _ hoi] at hwc
  refine ⟨⟨by omega,hlt⟩,_,rfl,_,by rw [Int.toNat_natCast,Nat.mul_one];exact hcell,_,rfl,_,_,_,hP6.c1,⟨by omega,by omega⟩,_,rfl,_,by rw [ao,Nat.zero_add,Nat.mul_one];exact htc,?_⟩
  refine rD hP6 hoi ⟨_,_,rfl,_,rfl,_,_,_,hP6.c0,_,rfl,_,_,_,hP6.c1,⟨by omega,by omega⟩,_,rfl,_,by rw [ao,Nat.zero_add,Nat.mul_one];exact htc,⟨by omega,by omega⟩,_,rfl,_,by rw [ao,Nat.zero_add,Nat.mul_one];exact hwc,?_⟩
  simp only [ao,Nat.zero_add,Nat.mul_one,Int.toNat_natCast]
  have hold:∀ {H':aj},Fr [] H6 H'->PHs H' hb wb tb bb W T B low r:=fun hf=>hPof (hf6.trans hf)
  have holds:∀ {H':aj},Fr [] H6 H'->(((ac H' ⟨wb,r.objs[i].place.toNat,none⟩=some (.int .i64 r.objs[i].cls)∧True)∧(ac H' ⟨tb,r.objs[i].oop.toNat,none⟩=some (.int .i64 r.objs[i].place)∧True)∧(ac H' ⟨hb,1,none⟩=some (.slice (some ⟨tb,0,none⟩) (r.oops+1).toNat (r.oops+1).toNat)∧True)∧(ac H' ⟨hb,0,none⟩=some (.slice (some ⟨wb,0,none⟩) r.words.toNat r.words.toNat)∧True)∧True)):=fun hf=>by
   have hq:=hold hf
   have h1:=hq.tabc (i:=r.objs[i].oop) (by omega) (by omega)
   rw [htab] at h1
   have h2:=hq.word (i:=r.objs[i].place) (by omega) (by omega)
   rw [hq.sim.cls _ hoi] at h2
   exact ⟨⟨h2,trivial⟩,⟨h1,trivial⟩,⟨hq.c1,trivial⟩,⟨hq.c0,trivial⟩,trivial⟩
  have e:IntKind.wrap .i64 ((i:Int)+1)=((i+1:Nat):Int):=by rw [am (by omega) (by omega)];omega
  have hbl:H1.size<H6.size:=hB6.lt
  have hobl:H2.size<H6.size:=hob6.lt
  have hHl:H.size<H6.size:=hBR6.lt
  have hGl:=hown6.lt
  have entry:∀ (G7 H8:aj) (o1 sb:Nat),H6.size<=o1->H6.size<=sb->Fr [] H6 G7->Fr [sb] G7 H8->bA H8 o1 #[.int .i64 r.objs[i].oop,.int .i64 r.objs[i].cls,.int .i64 r.objs[i].fmt,.slice (some ⟨sb,0,none⟩) r.objs[i].slots.length r.objs[i].slots.length] ->
    Fr [] H H8∧bA H8 H1.size #[.int .i64 r.words,.int .i64 r.oops,.int .i64 r.mark,.slice (some ⟨H2.size,0,none⟩) r.objs.length r.objs.length]∧bA H8 H2.size cs6∧bv 1 H8 (some p) r.objs.length c (aq (r.objs.map (·.oop))) G∧bA H8 H.size #[.int .i64 0,.int .i64 0,.int .i64 0,.slice none 0 0]∧H4.size<=H8.size:=by
   intro G7 H8 o1 sb h1 h2 hfa hfb hbo
   have hfab:∀ x,x<H6.size->H8[x]?=H6[x]?:=fun x hx=>by rw [hfb.2 x (Nat.lt_of_lt_of_le hx hfa.1) (by simp;omega),hfa.2 x hx (by simp)]
   refine ⟨⟨Nat.le_trans (Nat.le_trans hf6.1 hfa.1) hfb.1,fun x hx _=>by rw [hfab x (Nat.lt_of_lt_of_le hx hf6.1),hf6.2 x hx (by simp)]⟩,hB6.of_eq (hfab _ hbl),hob6.of_eq (hfab _ hobl),hown6.keep fun b hb=>hfab b (hGl b hb),hBR6.of_eq (hfab _ hHl),Nat.le_trans hsz6 (Nat.le_trans hfa.1 hfb.1)⟩
  refine ⟨?_,?_⟩
  ·refine dS hs1 rfl (by omega) (Int.le_refl _) (by omega) (by decide) fun e7=>⟨_,_,_,rfl,holds (Fr.push _ _ _),holds ((Fr.push [] H6 _).more),?_⟩
   simp only [Int.toNat_natCast]
   have hm7:dM (H6.push (.cells (Array.replicate r.objs[i].slots.length (.int .i64 0)) e7)) H6.size r.objs[i].slots.length fun _=>0:=dM.new _ _ _
   have hs7:(H6.push (.cells (Array.replicate r.objs[i].slots.length (.int .i64 0)) e7)).size=H6.size+1:=by simp
   have hf7:Fr [] H6 (H6.push (.cells (Array.replicate r.objs[i].slots.length (.int .i64 0)) e7)):=Fr.push _ _ _
   generalize (H6.push (.cells (Array.replicate r.objs[i].slots.length (.int .i64 0)) e7))=H7 at hm7 hs7 hf7 ⊢
   obtain ⟨v0,v1,v2,v3,hBo,hfo⟩:=zL (bA.new H7 #[.int .i64 0,.int .i64 0,.int .i64 0,.slice none 0 0] 246) (o:=0) (by simp) (.int .i64 r.objs[i].oop) (.int .i64 r.objs[i].cls) (.int .i64 r.objs[i].fmt) (.slice (some ⟨H6.size,0,none⟩) r.objs[i].slots.length r.objs[i].slots.length)
   simp only [Nat.zero_add] at hBo hfo
   refine ⟨v0,v1,v2,v3,trivial,_,_,_,hBo.cell 3,?_⟩
   refine qc (hb:=hb) (r:=r) (H0:=H6) (o1:=H7.size) (sb:=H6.size) hold hoi ⟨by have:=hfo.1;simp only [Array.size_push] at this;omega,fun x hx _=>?_⟩ ((hm7.push _).fr hfo (by simp;omega)) hBo (Nat.le_refl _) (by omega) fun H8 hf8 hb8=>?_
   ·rw [hfo.2 x (by simp;omega) (by simp;omega),Array.getElem?_push,if_neg (by omega),hf7.2 x hx (by simp)]
   obtain ⟨k1,k2,k3,k4,k5,k6⟩:=entry _ H8 H7.size H6.size (by omega) (by omega) (show Fr [] H6 _ from ⟨by have:=hfo.1;simp only [Array.size_push] at this;omega,fun x hx _=>by rw [hfo.2 x (by simp;omega) (by simp;omega),Array.getElem?_push,if_neg (by omega),hf7.2 x hx (by simp)]⟩) hf8 hb8
   refine ⟨_,_,_,k2.cell 3,_,hb8.cell 0,_,hb8.cell 1,_,hb8.cell 2,_,_,_,hb8.cell 3,⟨by omega,hlt⟩,_,rfl,?_⟩
   simp only [ao,Nat.zero_add]
   obtain ⟨u0,u1,u2,u3,hB9,hf9⟩:=zL k3 (o:=i*4) (by omega) (.int .i64 r.objs[i].oop) (.int .i64 r.objs[i].cls) (.int .i64 r.objs[i].fmt) (.slice (some ⟨H6.size,0,none⟩) r.objs[i].slots.length r.objs[i].slots.length)
   refine ⟨u0,u1,u2,u3,?_⟩
   rw [e]
   have hobn:H2.size∉G:=hGn _ (by omega)
   refine ⟨⟨i+1,_,rfl,by omega,⟨Nat.le_trans k1.1 hf9.1,fun x hx _=>by rw [hf9.2 x (Nat.lt_of_lt_of_le hx k1.1) (by have:=hf2.1;simp;omega),k1.2 x hx (by simp)]⟩,k2.fr hf9 (by simp;omega),hB9,by simpa using hcs6,fun j hj hji=>?_,k4.fr hf9 (fun x hx hm=>hobn (by simp only [List.mem_singleton] at hm;rw [←hm];exact hx)),k5.fr hf9 (by have:=hf2.1;simp;omega),Nat.le_trans k6 hf9.1⟩,by simp;omega⟩
   by_cases hje:j=i
   ·subst hje
    exact CD.set (by omega)
   ·exact (hen6 j hj (by omega)).keep (by omega)
  ·refine ⟨holds (Fr.push _ _ _),?_⟩
   have hBo0:bA (H6.push (.cells #[.int .i64 0,.int .i64 0,.int .i64 0,.slice none 0 0] 246)) H6.size #[.int .i64 0,.int .i64 0,.int .i64 0,.slice none 0 0]:=bA.new _ _ _
   have hfp:Fr [] H6 (H6.push (.cells #[.int .i64 0,.int .i64 0,.int .i64 0,.slice none 0 0] 246)):=Fr.push _ _ _
   have hsp:(H6.push (.cells #[.int .i64 0,.int .i64 0,.int .i64 0,.slice none 0 0] 246)).size=H6.size+1:=by simp
   generalize (H6.push (.cells #[.int .i64 0,.int .i64 0,.int .i64 0,.slice none 0 0] 246))=HP at hBo0 hfp hsp ⊢
   refine dS hs1 rfl (by omega) (Int.le_refl _) (by omega) (by decide) fun e7=>⟨_,_,_,rfl,holds (hfp.more),?_⟩
   simp only [Int.toNat_natCast]
   have hm7:dM (HP.push (.cells (Array.replicate r.objs[i].slots.length (.int .i64 0)) e7)) HP.size r.objs[i].slots.length fun _=>0:=dM.new _ _ _
   have hs7:(HP.push (.cells (Array.replicate r.objs[i].slots.length (.int .i64 0)) e7)).size=H6.size+2:=by simp;omega
   have hf7:Fr [] H6 (HP.push (.cells (Array.replicate r.objs[i].slots.length (.int .i64 0)) e7)):=hfp.more
   have hBo1:=hBo0.push (.cells (Array.replicate r.objs[i].slots.length (.int .i64 0)) e7)
   generalize (HP.push (.cells (Array.replicate r.objs[i].slots.length (.int .i64 0)) e7))=H7 at hm7 hs7 hf7 hBo1 ⊢
   obtain ⟨v0,v1,v2,v3,hBo,hfo⟩:=zL hBo1 (o:=0) (by simp) (.int .i64 r.objs[i].oop) (.int .i64 r.objs[i].cls) (.int .i64 r.objs[i].fmt) (.slice (some ⟨HP.size,0,none⟩) r.objs[i].slots.length r.objs[i].slots.length)
   simp only [Nat.zero_add] at hBo hfo
   refine ⟨v0,v1,v2,v3,trivial,_,_,_,hBo.cell 3,?_⟩
   refine qc (hb:=hb) (r:=r) (H0:=H6) (o1:=H6.size) (sb:=HP.size) hold hoi ⟨by have:=hfo.1;omega,fun x hx _=>?_⟩ (hm7.fr hfo (by simp;omega)) hBo (by omega) (by omega) fun H8 hf8 hb8=>?_
   ·rw [hfo.2 x (by omega) (by simp;omega),hf7.2 x hx (by simp)]
   obtain ⟨k1,k2,k3,k4,k5,k6⟩:=entry _ H8 H6.size HP.size (by omega) (by omega) (show Fr [] H6 _ from ⟨by have:=hfo.1;omega,fun x hx _=>by rw [hfo.2 x (by omega) (by simp;omega),hf7.2 x hx (by simp)]⟩) hf8 hb8
   refine ⟨_,_,_,k2.cell 3,_,hb8.cell 0,_,hb8.cell 1,_,hb8.cell 2,_,_,_,hb8.cell 3,⟨by omega,hlt⟩,_,rfl,?_⟩
   simp only [ao,Nat.zero_add]
   obtain ⟨u0,u1,u2,u3,hB9,hf9⟩:=zL k3 (o:=i*4) (by omega) (.int .i64 r.objs[i].oop) (.int .i64 r.objs[i].cls) (.int .i64 r.objs[i].fmt) (.slice (some ⟨HP.size,0,none⟩) r.objs[i].slots.length r.objs[i].slots.length)
   refine ⟨u0,u1,u2,u3,?_⟩
   rw [e]
   have hobn:H2.size∉G:=hGn _ (by omega)
   refine ⟨⟨i+1,_,rfl,by omega,⟨Nat.le_trans k1.1 hf9.1,fun x hx _=>by rw [hf9.2 x (Nat.lt_of_lt_of_le hx k1.1) (by have:=hf2.1;simp;omega),k1.2 x hx (by simp)]⟩,k2.fr hf9 (by simp;omega),hB9,by simpa using hcs6,fun j hj hji=>?_,k4.fr hf9 (fun x hx hm=>hobn (by simp only [List.mem_singleton] at hm;rw [←hm];exact hx)),k5.fr hf9 (by have:=hf2.1;simp;omega),Nat.le_trans k6 hf9.1⟩,by simp;omega⟩
   by_cases hje:j=i
   ·subst hje
    exact CD.set (by omega)
   ·exact (hen6 j hj (by omega)).keep (by omega)
 ·have hii:i=r.objs.length:=by omega
  subst hii
  obtain ⟨v0,v1,v2,v3,hBo,hfo⟩:=zL hBR6 (o:=0) (by simp) (.int .i64 r.words) (.int .i64 r.oops) (.int .i64 r.mark) (.slice (some ⟨H2.size,0,none⟩) r.objs.length r.objs.length)
  simp only [Nat.zero_add] at hBo hfo
  refine ⟨_,hB6.cell 0,_,hB6.cell 1,_,hB6.cell 2,_,_,_,hB6.cell 3,v0,v1,v2,v3,_,hBo.cell 0,_,hBo.cell 1,_,hBo.cell 2,_,_,_,hBo.cell 3,?_⟩
  refine h _ _ _ ⟨rfl,H2.size,cs6,rfl,hob6.fr hfo (by have:=hf2.1;simp;omega),fun j hj=>hen6 j hj hj⟩ ⟨Nat.le_trans hf6.1 hfo.1,fun x hx _=>?_⟩
  rw [hfo.2 x (Nat.lt_of_lt_of_le hx hf6.1) (by simp;omega),hf6.2 x hx (by simp)]
end
variable {Q:QT}{H:aj}
abbrev Lc:Nat:=254
def Mf (n1:Int) (Q:QT) (H:aj):Prop :=
 Q (.bool (n1 != n1)) H
theorem BD {n1:Int} (h:Mf n1 Q H):ah PP 254 #[.int .i64 n1] Q H :=
 okF Tryz.func254 rfl h
end Go.Proofs.YtmkdkplipbocjaaGreatDoor
namespace Go.Proofs.YtmkdkplipbocjaaGreatDoor
open Kw
section
variable {H:aj}{Q:QT}
theorem E3 {n m:Int} (h:Q (.bool (decide (n<m))) H):ah PP HS #[.int .i64 n,.int .i64 m] Q H:=by
 apply CE
 unfold Nc iV cS
 apply B5
 unfold N2
 refine ⟨_,rfl,?_⟩
 rw [bf]
 simp only [ne_eq,not_true_eq_false,decide_false,cond_false]
 exact h
theorem Lv {n:Int} (h:Q (.bool false) H):ah PP Lc #[.int .i64 n] Q H:=by
 apply BD
 unfold Mf
 rw [bf]
 simpa using h
theorem FW {x:Int} (h0:0<=x) (h1:x<=4000000000):IntKind.wrap .i64 (eZ .u64 (IntKind.wrap .u64 (IntKind.wrap .i64 x)) 1)=x / 2:=by
 rw [am (n:=x) (by omega) (by omega)]
 have e:IntKind.wrap .u64 x=x:=by
  simp only [IntKind.wrap,IntKind.bits,IntKind.signed]
  simp
  omega
 rw [e]
 unfold eZ
 have:min (Int.toNat (1:Int)) (IntKind.bits .u64)=1:=by decide
 rw [this,Int.fdiv_eq_ediv_of_nonneg _ (by decide)]
 have e2:(2:Int) ^ 1=2:=by decide
 rw [e2,am (by omega) (by omega)]
theorem wJ {a:Option Addr}{l c:Nat}{ks:List Int}{n:Int} (hk:Rd 1 H a l (aq ks)) (hlk:l<=1000000000) (hs:ks.Pairwise (· < ·)) (h:∀ x:Int,Q (.tuple #[.int .i64 x,.bool (decide (n∈ks))]) H):ah PP IK #[.slice a l c,.int .i64 n] Q H:=by
 have hl:l=ks.length:=by have:=hk.1;simpa [aq] using this.symm
 have hget:∀ (i j:Nat) (hi:i<ks.length) (hj:j<ks.length),i<j->ks[i]<ks[j]:=fun i j hi hj hij=>(List.pairwise_iff_getElem.1 hs) i j hi hj hij
 apply Dy
 unfold NV iV wW cS
 refine ⟨fun w H'=>H'=H∧∃ i j:Nat,w=[.int .i64 i,.int .i64 j]∧i<=j∧j<=l∧(∀ t (ht:t<ks.length),t<i->ks[t]<n)∧∀ t (ht:t<ks.length),j<=t->n<=ks[t],fun w _=>match w with
  | [.int _ i,.int _ j]=>(j-i).toNat
  | _=>0,⟨rfl,0,l,rfl,Nat.zero_le _,Nat.le_refl _,by simp,fun t ht hle=>by omega⟩,?_⟩
 rintro w H1 ⟨rfl,i,j,rfl,hij,hjl,hlo,hhi⟩ _
 refine ⟨_,_,rfl,?_⟩
 rw [ae,FW (by omega) (by omega)]
 refine aA (fun hlt=>?_) fun hlt=>?_
 ·have hm0:((i:Int)+j) / 2=(((i+j) / 2:Nat):Int):=by omega
  rw [hm0]
  have hml:(i+j) / 2<ks.length:=by omega
  obtain ⟨p,rfl,hcell,hlt2⟩:=hk.int (i:=(((i+j) / 2:Nat):Int)) (by omega) (by omega)
  rw [Int.toNat_natCast] at hcell
  have hx:ks.getD ((i+j) / 2) 0=ks[(i+j) / 2]:=by simp [hml]
  rw [hx] at hcell
  refine ⟨⟨by omega,by omega⟩,_,rfl,_,by rw [Int.toNat_natCast,Nat.mul_one];exact hcell,E3 ⟨_,rfl,?_⟩⟩
  rw [ae]
  have e:IntKind.wrap .i64 ((((i+j) / 2:Nat):Int)+1)=(((i+j) / 2+1:Nat):Int):=by rw [am (by omega) (by omega)];omega
  refine aA (fun hlt3=>?_) fun hlt3=>?_
  ·rw [e]
   refine ⟨⟨rfl,_,j,rfl,by omega,hjl,fun t ht hti=>?_,hhi⟩,by simp;omega⟩
   rcases Nat.lt_or_ge t ((i+j) / 2) with h1 | h1
   ·have:=hget t _ ht hml h1;omega
   ·have:t=(i+j) / 2:=by omega
    subst this;exact hlt3
  ·refine ⟨⟨rfl,i,_,rfl,by omega,by omega,hlo,fun t ht hti=>?_⟩,by simp;omega⟩
   rcases Nat.lt_or_ge ((i+j) / 2) t with h1 | h1
   ·have:=hget _ t hml ht h1;omega
   ·have:t=(i+j) / 2:=by omega
    subst this;omega
 ·have hije:i=j:=by omega
  subst hije
  rw [ae]
  refine aA (fun hlt3=>?_) fun hlt3=>?_
  ·have hil:i<ks.length:=by omega
   obtain ⟨p,rfl,hcell,hlt2⟩:=hk.int (i:=(i:Int)) (by omega) hlt3
   rw [Int.toNat_natCast] at hcell
   have hx:ks.getD i 0=ks[i]:=by simp [hil]
   rw [hx] at hcell
   refine ⟨⟨by omega,hlt3⟩,_,rfl,_,by rw [Int.toNat_natCast,Nat.mul_one];exact hcell,?_⟩
   rw [bj,ae]
   refine aA (fun heq=>?_) fun heq=>?_
   ·have:n∈ks:=by rw [←heq];exact List.getElem_mem hil
    have h2:=h i
    rw [decide_eq_true this] at h2;exact h2
   ·refine ⟨⟨by omega,hlt3⟩,_,rfl,_,by rw [Int.toNat_natCast,Nat.mul_one];exact hcell,Lv ⟨_,rfl,?_⟩⟩
    simp only [cond_false]
    have:n∉ks:=fun hm=>by
     obtain ⟨t,ht,hte⟩:=List.mem_iff_getElem.1 hm
     rcases Nat.lt_trichotomy t i with h1 | h1 | h1
     ·have:=hlo t ht h1;omega
     ·subst h1;exact heq hte
     ·have h2:=hget i t hil ht h1;have h3:=hhi i hil (Nat.le_refl _);omega
    have h2:=h i
    rw [decide_eq_false this] at h2;exact h2
  ·have:n∉ks:=fun hm=>by
    obtain ⟨t,ht,hte⟩:=List.mem_iff_getElem.1 hm
    have:=hlo t ht (by omega);omega
   have h2:=h i
   rw [decide_eq_false this] at h2;exact h2
theorem wD {n f:Int} (h0:0<=n) (h1:n<=1000000000) (h:Q (.int .i64 (lenOf n f)) H):ah PP EZ #[.int .i64 n,.int .i64 f] Q H:=by
 apply AZ
 unfold Lt iV wW
 rw [bj,ae]
 unfold lenOf at h
 refine aA (fun hf=>?_) fun hf=>?_
 ·rw [if_pos hf] at h
  rw [am (n:=n+3) (by omega) (by omega),jC,if_pos (by omega),am (n:=(n+3) / 4) (by omega) (by omega),am (by omega) (by omega)]
  exact h
 ·rw [if_neg hf] at h
  rw [am (by omega) (by omega)]
  exact h
end
theorem kV {r:RH} (ws:List Int):(r.reach ws).Pairwise (· < ·):=(RH.all_sorted r).filter _
def IS (r:RH) (k:Int):Int:=match aH r.objs k with
 | some o=>o.len
 | none=>2
theorem yR {l m:List Int} (h:l.Perm m):l.sum=m.sum:=by
 induction h with
 | nil=>rfl
 | cons x _ ih=>simp [ih]
 | swap x y l=>simp;omega
 | trans _ _ ih1 ih2=>exact ih1.trans ih2
theorem xr {r:RH} (hw:WFH r) (ws:List Int):((r.objs.filter fun o=>decide (o.oop∈r.reach ws)).map RO.len).sum=((r.reach ws).map (IS r)).sum:=by
 have h1:((r.objs.filter fun o=>decide (o.oop∈r.reach ws)).map (·.oop)).Perm (r.reach ws):=by
  rw [List.perm_ext_iff_of_nodup]
  ·intro k
   simp only [List.mem_map,List.mem_filter,decide_eq_true_eq]
   constructor
   ·rintro ⟨o,⟨_,h2⟩,rfl⟩;exact h2
   ·intro hk
    have:=((RH.mem_reach hw).1 hk).there
    cases ho:aH r.objs k with
    | none=>exact absurd ho this
    | some o=>exact ⟨o,⟨(aM ho).1,by rw [(aM ho).2];exact hk⟩,(aM ho).2⟩
  ·rw [List.nodup_iff_pairwise_ne,List.pairwise_map]
   exact (hw.objs.pw.filter _).imp fun h=>h.1
  ·exact (kV ws).imp fun h e=>by omega
 rw [←yR (List.Perm.map (IS r) h1),List.map_map]
 congr 1
 apply List.map_congr_left
 intro o ho
 have:=bW hw.objs (List.mem_filter.1 ho).1
 simp [IS,this]
theorem tM {r:RH} (hw:WFH r):r.objs.length<=65537:=by
 have ho0:=hw.o0
 have ho1:=hw.o1
 have h1:r.objs.length=(r.objs.map (·.oop)).length:=by simp
 have h2:(r.objs.map (·.oop)).length<=r.all.length:=jr (by
  rw [List.nodup_iff_pairwise_ne,List.pairwise_map]
  exact hw.objs.pw.imp fun h=>h.1) fun k hk=>by
   obtain ⟨o,ho,rfl⟩:=List.mem_map.1 hk
   rw [RH.mem_all hw,bW hw.objs ho];simp
 have h3:=r.upto_len (r.oops+1).toNat
 have h4:r.all.length<=(r.oops+1).toNat:=h3
 omega
section
variable {H:aj}{b:Nat}{F F':ay}{s:SP}{Q:QT}
theorem xZ (hS:gn H b F s) (h:∀ H',Fr [] H H'->Q (mP s.room) H'):ah PP LW #[.pointer (some ⟨b,0,none⟩)] Q H:=by
 have hw:=hS.wf.h
 have hw0:=hw.w0
 have hw1:=hw.w1
 have ho0:=hw.o0
 have ho1:=hw.o1
 have hcount:=tM hw
 have hlt:=hS.lt
 have hbl:b<H.size:=hlt b hS.bmem
 apply FY
 unfold QL A0 iV wW pV lV cS;dsimp only [shH]
 refine fZ hS ⟨_,rfl,?_⟩
 simp only [cond_false]
 obtain ⟨hb,F1,hR,c0,c3,c1,hsub,hnb,hup⟩:=hS.upd
 refine ⟨_,rfl,_,c0,qa hS fun a l c H1 ws hk hl he hf1=>⟨_,_,_,rfl,?_⟩⟩
 have cell0:∀ {H':aj},Fr [] H H'->ac H' ⟨b,0,none⟩=some (.pointer (some ⟨hb,0,none⟩)):=fun hf=>by
  rw [←c0];unfold ac;rw [hf.2 b hbl (by simp)]
 have repOf:∀ {H':aj},Fr [] H H'->dp H' hb F1 s.h:=fun hf=>hR.fr hf (bi.nil_right _) (by simp)
 refine ⟨⟨⟨cell0 hf1,trivial⟩,trivial⟩,?_⟩
 refine vO (repOf hf1) hk (by omega) fun a2 l2 c2 G H2 hor hf2 hG=>⟨_,_,_,_,rfl,trivial,?_⟩
 rw [he] at hor
 simp only [show ((0:Int) != 0)=false from rfl,cond_false]
 have hf12:=hf1.trans hf2
 refine ⟨_,rfl,_,cell0 hf12,Be (repOf hf12) fun a3 c3' H3 hst hf3=>⟨_,_,_,_,_,_,rfl,?_⟩⟩
 have hl2:l2=s.reach.length:=by have:=hor.len;simpa [aq] using this.symm
 have hreach:s.reach.length<=65537:=by
  have h2:s.reach.length<=s.h.all.length:=List.length_filter_le _ _
  have h3:=s.h.upto_len (s.h.oops+1).toNat
  have h4:s.h.all.length<=(s.h.oops+1).toNat:=h3
  omega
 obtain ⟨v0,v1,v2,v3,hBs,hfs⟩:=zL (bA.new H3 #[.int .i64 0,.int .i64 0,.int .i64 0,.slice none 0 0] 243) (o:=0) (by simp) (.int .i64 s.h.words) (.int .i64 s.h.oops) (.int .i64 s.h.mark) (.slice a3 s.h.objs.length c3')
 simp only [ao,Nat.zero_add] at hBs hfs ⊢
 refine ⟨v0,v1,v2,v3,_,hBs.cell 0,_,_,_,hBs.cell 3,?_⟩
 have hfr:∀ x,x<H3.size->(au (au (au (au (H3.push (.cells #[.int .i64 0,.int .i64 0,.int .i64 0,.slice none 0 0] 243)) ⟨H3.size,0,none⟩ (.int .i64 s.h.words)) ⟨H3.size,1,none⟩ (.int .i64 s.h.oops)) ⟨H3.size,2,none⟩ (.int .i64 s.h.mark)) ⟨H3.size,3,none⟩ (.slice a3 s.h.objs.length c3'))[x]?=H3[x]?:=fun x hx=>by
  rw [hfs.2 x (by simp;omega) (by simp;omega),Array.getElem?_push,if_neg (by omega)]
 have hsz:H3.size+1=(au (au (au (au (H3.push (.cells #[.int .i64 0,.int .i64 0,.int .i64 0,.slice none 0 0] 243)) ⟨H3.size,0,none⟩ (.int .i64 s.h.words)) ⟨H3.size,1,none⟩ (.int .i64 s.h.oops)) ⟨H3.size,2,none⟩ (.int .i64 s.h.mark)) ⟨H3.size,3,none⟩ (.slice a3 s.h.objs.length c3')).size:=by simp [dR]
 generalize (au (au (au (au (H3.push (.cells #[.int .i64 0,.int .i64 0,.int .i64 0,.slice none 0 0] 243)) ⟨H3.size,0,none⟩ (.int .i64 s.h.words)) ⟨H3.size,1,none⟩ (.int .i64 s.h.oops)) ⟨H3.size,2,none⟩ (.int .i64 s.h.mark)) ⟨H3.size,3,none⟩ (.slice a3 s.h.objs.length c3'))=H4 at hBs hfr hsz ⊢
 have hf34:Fr [] H3 H4:=⟨by omega,fun x hx _=>hfr x hx⟩
 have hf4:Fr [] H H4:=(hf12.trans hf3).trans hf34
 obtain ⟨_,ob,cs,rfl,hob,hent⟩:=hst
 have hob4:=hob.fr hf34 (by simp)
 have hor4:=(hor.fr hf3 (by simp)).fr hf34 (by simp)
 have hsort:s.reach.Pairwise (· < ·):=kV _
 have hroom:s.room=(s.h.words-((s.h.objs.filter fun o=>decide (o.oop∈s.reach)).map RO.len).sum,s.h.oops-(s.reach.length:Int)):=by
  unfold SP.room
  rw [show ((s.h.objs.filter fun o=>decide (o.oop∈s.reach)).map RO.len).sum=_ from xr hw s.roots]
  rfl
 refine ⟨fun w H'=>∃ i:Nat,w=[.int .i64 (s.h.words-(((s.h.objs.take i).filter fun o=>decide (o.oop∈s.reach)).map RO.len).sum),.int .i64 i]∧i<=s.h.objs.length∧Fr [] H4 H',fun w _=>match w with
  | [_,.int _ i]=>(s.h.objs.length-i).toNat
  | _=>0,⟨0,by simp,Nat.zero_le _,Fr.refl _ _⟩,?_⟩
 rintro w H5 ⟨i,rfl,hi,hf5⟩ _
 have hB5:=hBs.fr hf5 (by simp)
 refine ⟨_,_,rfl,?_⟩
 rw [ae]
 refine aA (fun hlt5=>?_) fun hlt5=>?_
 ·have hlt':i<s.h.objs.length:=by omega
  obtain ⟨ai,ci,g0,g1,g2,g3⟩:=hent i hlt'
  have hob5:=hob4.fr hf5 (by simp)
  have hoi:s.h.objs[i]∈s.h.objs:=List.getElem_mem hlt'
  have hg:=hw.objs.good _ hoi
  have hmany:=hg.many
  have e:IntKind.wrap .i64 ((i:Int)+1)=((i+1:Nat):Int):=by rw [am (by omega) (by omega)];omega
  have htk:s.h.objs.take (i+1)=s.h.objs.take i++[s.h.objs[i]]:=by rw [List.take_add_one];simp [hlt']
  refine ⟨⟨by omega,hlt5⟩,_,rfl,?_⟩
  simp only [ao,Nat.zero_add,Int.toNat_natCast]
  refine ⟨_,by rw [hob5.cell];exact g0,_,by rw [hob5.cell];exact g1,_,by rw [hob5.cell];exact g2,_,_,_,by rw [hob5.cell];exact g3,?_⟩
  obtain ⟨u0,u1,u2,u3,hBx,hfx⟩:=zL (bA.new H5 #[.int .i64 0,.int .i64 0,.int .i64 0,.slice none 0 0] 246) (o:=0) (by simp) (.int .i64 s.h.objs[i].oop) (.int .i64 s.h.objs[i].cls) (.int .i64 s.h.objs[i].fmt) (.slice ai s.h.objs[i].slots.length ci)
  simp only [Nat.zero_add] at hBx hfx
  refine ⟨u0,u1,u2,u3,_,hBx.cell 0,?_⟩
  have hfx5:Fr [] H5 (au (au (au (au (H5.push (.cells #[.int .i64 0,.int .i64 0,.int .i64 0,.slice none 0 0] 246)) ⟨H5.size,0,none⟩ (.int .i64 s.h.objs[i].oop)) ⟨H5.size,1,none⟩ (.int .i64 s.h.objs[i].cls)) ⟨H5.size,2,none⟩ (.int .i64 s.h.objs[i].fmt)) ⟨H5.size,3,none⟩ (.slice ai s.h.objs[i].slots.length ci)):=⟨by have:=hfx.1;simp only [Array.size_push] at this;omega,fun x hx _=>by
   rw [hfx.2 x (by simp;omega) (by simp;omega),Array.getElem?_push,if_neg (by omega)]⟩
  have hor6:=(hor4.fr hf5 (by simp)).fr hfx5 (by simp)
  refine wJ hor6.rd (by omega) hsort fun x=>⟨_,_,rfl,?_⟩
  have hmu:((s.h.objs.length:Int)-((i+1:Nat):Int)).toNat<((s.h.objs.length:Int)-(i:Int)).toNat:=by omega
  have hsumle:∀ l:List RO,(∀ o∈l,o∈s.h.objs)->0<=(l.map RO.len).sum∧(l.map RO.len).sum<=9000*(l.length:Int):=by
   intro l
   induction l with
   | nil=>simp
   | cons o l ih =>
    intro hl
    have h1:=ih fun x hx=>hl x (by simp [hx])
    have h2:=o.len_pos
    have h3:=(hw.objs.good o (hl o (by simp))).many
    have h4:o.len<=2+(o.slots.length:Int)+3:=gR (by omega)
    simp only [List.map_cons,List.sum_cons,List.length_cons]
    omega
  rw [ae]
  refine aA (fun hin=>?_) fun hin=>?_
  ·refine ⟨_,_,_,hBx.cell 3,_,hBx.cell 2,wD (by omega) (by omega) ⟨_,rfl,?_⟩⟩
   have hsum:(((s.h.objs.take (i+1)).filter fun o=>decide (o.oop∈s.reach)).map RO.len).sum=(((s.h.objs.take i).filter fun o=>decide (o.oop∈s.reach)).map RO.len).sum+s.h.objs[i].len:=by
    rw [htk,List.filter_append,List.map_append,List.sum_append]
    simp [hin]
   have hb1:=hsumle ((s.h.objs.take i).filter fun o=>decide (o.oop∈s.reach)) fun o ho=>List.mem_of_mem_take (List.mem_filter.1 ho).1
   have hb2:((s.h.objs.take i).filter fun o=>decide (o.oop∈s.reach)).length<=s.h.objs.length:=Nat.le_trans (List.length_filter_le _ _) (by simp;omega)
   have hb3:=s.h.objs[i].len_pos
   have hb4:s.h.objs[i].len<=2+(s.h.objs[i].slots.length:Int)+3:=gR (by omega)
   have hlen:lenOf (s.h.objs[i].slots.length:Int) s.h.objs[i].fmt=s.h.objs[i].len:=rfl
   rw [hlen,am (n:=_-s.h.objs[i].len) (by omega) (by omega),e]
   refine ⟨⟨i+1,by rw [hsum,←Int.sub_sub],by omega,hf5.trans hfx5⟩,hmu⟩
  ·have hsum:(((s.h.objs.take (i+1)).filter fun o=>decide (o.oop∈s.reach)).map RO.len).sum=(((s.h.objs.take i).filter fun o=>decide (o.oop∈s.reach)).map RO.len).sum:=by
    rw [htk,List.filter_append,List.map_append,List.sum_append]
    simp [hin]
   rw [e]
   exact ⟨⟨i+1,by rw [hsum],by omega,hf5.trans hfx5⟩,hmu⟩
 ·have hie:i=s.h.objs.length:=by omega
  subst hie
  rw [List.take_length]
  refine ⟨_,hB5.cell 1,?_⟩
  rw [hl2,am (by omega) (by omega)]
  have:=h H5 (hf4.trans hf5)
  rw [hroom] at this
  exact this
end
end Go.Proofs.YtmkdkplipbocjaaGreatDoor
namespace Kw
open Go
def aO (l:List ByteArray):List Value:=l.map .string
theorem wE {l:List ByteArray}:∀ v∈aO l,cC v=true:=by
 intro v hv
 simp only [aO,List.mem_map] at hv
 obtain ⟨i,_,rfl⟩:=hv
 rfl
theorem ce (l m:List ByteArray):aO (l++m)=aO l++aO m:=by simp [aO]
theorem Rd.str {H:aj}{a:Option Addr}{l:Nat}{ys:List ByteArray} (h:Rd 1 H a l (aO ys)){i:Int} (h0:0<=i) (h1:i<l):∃ p,∃ hlt:i.toNat<ys.length,a=some p∧ac H (p.add i.toNat)=some (.string ys[i.toNat]):=by
 have hl:=h.1
 simp only [aO,List.length_map] at hl
 cases a with
 | none=>have:=h.2.1 rfl;omega
 | some p =>
  have hi:i.toNat<ys.length:=by omega
  refine ⟨p,hi,rfl,?_⟩
  rw [h.2.2 p rfl i.toNat (by omega)]
  simp [aO,hi]
structure TB where
 most:Int
 texts:List ByteArray
def cy (s:ByteArray):Prop:=1<=s.size∧s.size<=96
instance (s:ByteArray):Decidable (cy s):=inferInstanceAs (Decidable (_∧_))
structure WFT (t:TB):Prop where
 m0:0<=t.most
 m1:t.most<=4096
 len:(t.texts.length:Int)<=t.most
 nodup:t.texts.Nodup
 good:∀ s∈t.texts,cy s
def bV:List ByteArray->ByteArray->Option Nat
 | [],_=>none
 | x :: l,s=>if x=s then some 0 else (bV l s).map (·+1)
theorem nT {l:List ByteArray}{s:ByteArray}{n:Nat} (hn:n<l.length) (h1:l[n]=s) (h2:∀ j (hj:j<l.length),j<n->l[j]≠s):bV l s=some n:=by
 induction l generalizing n with
 | nil=>simp at hn
 | cons x l ih =>
  unfold bV
  cases n with
  | zero=>simp only [List.getElem_cons_zero] at h1;rw [if_pos h1]
  | succ n =>
   have h3:=h2 0 (by simp) (by omega)
   simp only [List.getElem_cons_zero] at h3
   rw [if_neg h3,ih (n:=n) (by simpa using hn) (by simpa using h1) fun j hj hjn=>h2 (j+1) (by simpa using hj) (by omega)]
   rfl
theorem iF {l:List ByteArray}{s:ByteArray}:bV l s=none↔s∉l:=by
 induction l with
 | nil=>simp [bV]
 | cons x l ih =>
  unfold bV
  by_cases h:x=s
  ·simp [h]
  ·rw [if_neg h]
   simp only [Option.map_eq_none_iff,ih,List.mem_cons,not_or]
   exact ⟨fun h1=>⟨fun e=>h e.symm,h1⟩,fun h1=>h1.2⟩
theorem ri {l:List ByteArray}{s x:ByteArray}:bV (l++[s]) x=match bV l x with
  | some n=>some n
  | none=>if s=x then some l.length else none:=by
 induction l with
 | nil=>simp [bV]
 | cons y l ih =>
  simp only [List.cons_append,bV]
  by_cases h:y=x
  ·simp [h]
  ·rw [if_neg h,if_neg h,ih]
   cases bV l x with
   | some n=>rfl
   | none =>
    simp only [Option.map_none]
    by_cases h2:s=x <;> simp [h2]
def TB.add (t:TB) (s:ByteArray):(Int × Int) × TB :=
 if ¬ cy s then ((0,61),t) else match bV t.texts s with
 | some n=>(((n:Int),0),t)
 | none=>if t.most<=(t.texts.length:Int) then ((0,60),t) else (((t.texts.length:Int),0),{ t with texts:=t.texts++[s] })
theorem ib {t:TB} (h:WFT t) (s:ByteArray):WFT (t.add s).2:=by
 unfold TB.add
 split
 ·exact h
 ·rename_i hg
  have hg:cy s:=Classical.byContradiction hg
  cases hn:bV t.texts s with
  | some n=>exact h
  | none =>
   simp only
   split
   ·exact h
   ·refine { h with len:=by simp;omega,nodup:=?_,good:=fun x hx=>?_ }
    ·rw [List.nodup_append]
     exact ⟨h.nodup,by simp,fun a ha b hb e=>iF.1 hn (by simp only [List.mem_singleton] at hb;rw [←hb,←e];exact ha)⟩
    ·rcases List.mem_append.1 hx with hx | hx
     ·exact h.good x hx
     ·simp only [List.mem_singleton] at hx;rw [hx];exact hg
end Kw
namespace Kw
open Go
def eQ (r:RH) (o:Int) (ws:List Int):Prop:=∃ x,aH r.objs o=some x∧x.fmt=0∧x.slots=ws
theorem eQ.uniq {r:RH}{o:Int}{ws ws':List Int} (h:eQ r o ws) (h':eQ r o ws'):ws=ws':=by
 obtain ⟨x,h1,_,h3⟩:=h
 obtain ⟨y,h4,_,h6⟩:=h'
 rw [h1] at h4;cases h4
 rw [←h3,←h6]
theorem eQ.size {r:RH}{o:Int}{ws:List Int} (h:eQ r o ws):r.size o=((ws.length:Int),0,0):=by
 obtain ⟨x,h1,h2,h3⟩:=h
 simp [RH.size,h1,h2,h3]
theorem eQ.at {r:RH}{o:Int}{ws:List Int} (h:eQ r o ws){i:Int} (h0:0<=i) (h1:i<ws.length):r.at o i=(ws[i.toNat]'(by omega),0):=by
 obtain ⟨x,h2,_,h3⟩:=h
 subst h3
 simp only [RH.at,h2]
 rw [if_neg (by omega)]
 have:i.toNat<x.slots.length:=by omega
 simp [this]
theorem eQ.bnd {r:RH} (hw:WFH r){o:Int}{ws:List Int} (h:eQ r o ws):1<=o∧o<=65536∧ws.length<=8192∧∀ w∈ws,dG w:=by
 obtain ⟨x,h1,h2,h3⟩:=h
 have hg:=hw.objs.good x (aM h1).1
 have ho:=(aM h1).2
 have h4:=hg.oop1
 have h5:=hg.oop2
 have h6:=hw.o1
 subst h3
 refine ⟨by omega,by omega,hg.many,fun w hw'=>?_⟩
 have:=hg.may w hw'
 unfold io at this
 rw [if_neg (by omega)] at this
 exact this
theorem eQ.there {r:RH}{o:Int}{ws:List Int} (h:eQ r o ws):aH r.objs o≠none:=by
 obtain ⟨x,h1,_⟩:=h;rw [h1];simp
theorem pA {r:RH}{o:Int} (h0:1<=o) (h1:o<=65536) (h:aH r.objs o≠none):aZ r (4*o)=o:=by
 unfold aZ
 have hk:cz (4*o)=3:=by
  have:=bG (4*o)
  omega
 have e:4*o / 4=o:=by omega
 have hs:(aH r.objs o).isSome:=by cases ho:aH r.objs o with
  | none=>exact absurd ho h
  | some _=>rfl
 rw [e,if_pos ⟨hk,hs⟩]
def bH (r r':RH) (P:Int->Prop):Prop:=∀ k,P k->∀ x,aH r.objs k=some x->∃ y,aH r'.objs k=some y∧y.cls=x.cls∧y.fmt=x.fmt∧y.slots=x.slots
theorem bH.refl (r:RH) (P:Int->Prop):bH r r P:=fun k _ x hx=>⟨x,hx,rfl,rfl,rfl⟩
theorem bH.trans {r r' r'':RH}{P:Int->Prop} (h:bH r r' P) (h':bH r' r'' P):bH r r'' P:=fun k hk x hx=>by
 obtain ⟨y,h1,h2,h3,h4⟩:=h k hk x hx
 obtain ⟨z,g1,g2,g3,g4⟩:=h' k hk y h1
 exact ⟨z,g1,g2.trans h2,g3.trans h3,g4.trans h4⟩
theorem bH.mono {r r':RH}{P P':Int->Prop} (h:bH r r' P) (hp:∀ k,P' k->P k):bH r r' P':=fun k hk=>h k (hp k hk)
theorem eQ.keep {r r':RH}{P:Int->Prop}{o:Int}{ws:List Int} (h:eQ r o ws) (hk:bH r r' P) (hp:P o):eQ r' o ws:=by
 obtain ⟨x,h1,h2,h3⟩:=h
 obtain ⟨y,g1,_,g3,g4⟩:=hk o hp x h1
 exact ⟨y,g1,g3.trans h2,g4.trans h3⟩
theorem mD {r:RH} (hw:WFH r) (cls n f:Int):bH r (r.alloc cls n f).2 fun _=>True:=by
 intro k _ x hx
 unfold RH.alloc
 split
 ·exact ⟨x,hx,rfl,rfl,rfl⟩
 split
 ·exact ⟨x,hx,rfl,rfl,rfl⟩
 split
 ·exact ⟨x,hx,rfl,rfl,rfl⟩
 split
 ·exact ⟨x,hx,rfl,rfl,rfl⟩
 ·refine ⟨x,?_,rfl,rfl,rfl⟩
  rw [gu,hx]
theorem ov {r:RH} (hw:WFH r){cls n f:Int} (h:(r.alloc cls n f).1.2=0):aH r.objs (r.alloc cls n f).1.1=none∧1<=(r.alloc cls n f).1.1∧(r.alloc cls n f).1.1<=65536∧0<=n∧n<=8192 ∧
  (f=0->eQ (r.alloc cls n f).2 (r.alloc cls n f).1.1 (List.replicate n.toNat 4)):=by
 have ho1:=hw.o1
 unfold RH.alloc at h ⊢
 split at h
 ·simp at h
 rename_i g1
 split at h
 ·simp at h
 rename_i g2
 split at h
 ·simp at h
 rename_i g3
 split at h
 ·simp at h
 rename_i g4
 have hl:=dL hw.objs hw.o1 (by omega)
 rw [if_neg g1,if_neg g2,if_neg g3,if_neg g4]
 refine ⟨hl.2.2.1,hl.1,by have:=hl.2.1;simp only;omega,by omega,by omega,fun hf=>?_⟩
 subst hf
 refine ⟨dV r cls n 0,?_,rfl,by simp [dV]⟩
 simp only
 rw [gu,hl.2.2.1]
 simp [dV]
theorem gD {r:RH} (k i w:Int):bH r (r.put k i w).2 fun j=>j≠k:=by
 intro j hj x hx
 unfold RH.put
 split
 ·exact ⟨x,hx,rfl,rfl,rfl⟩
 split
 ·exact ⟨x,hx,rfl,rfl,rfl⟩
 split
 ·exact ⟨x,hx,rfl,rfl,rfl⟩
 ·refine ⟨x,?_,rfl,rfl,rfl⟩
  show aH (iU r.objs k (iS i w)) j=some x
  rw [gH (f:=iS i w) (fun o=>rfl),hx]
  have:=(aM hx).2
  simp only [Option.map_some]
  rw [if_neg (by omega)]
theorem jK {r:RH}{k:Int}{ws:List Int} (h:eQ r k ws){i w:Int} (h0:0<=i) (h1:i<ws.length) (hw:dG w):eQ (r.put k i w).2 k (ws.set i.toNat w)∧(r.put k i w).1=0:=by
 obtain ⟨x,h2,h3,h4⟩:=h
 subst h4
 have hm:io x.fmt w:=by unfold io;rw [if_neg (by omega)];exact hw
 simp only [RH.put,h2]
 rw [if_neg (by omega),if_neg (by simpa using hm)]
 refine ⟨⟨iS i w x,?_,h3,rfl⟩,rfl⟩
 show aH (iU r.objs k (iS i w)) k=some (iS i w x)
 rw [gH (f:=iS i w) (fun o=>rfl),h2]
 have:=(aM h2).2
 simp [this]
theorem xo {r:RH} (k i w:Int):(r.put k i w).2.words=r.words∧(r.put k i w).2.oops=r.oops∧(r.put k i w).2.mark=r.mark:=by
 unfold RH.put
 split
 ·exact ⟨rfl,rfl,rfl⟩
 split
 ·exact ⟨rfl,rfl,rfl⟩
 split
 ·exact ⟨rfl,rfl,rfl⟩
 ·exact ⟨rfl,rfl,rfl⟩
theorem ux {at_:Int}{l:List RO}{k:Int}:∀ x,aH l k=some x->∃ y,aH (bR at_ l) k=some y∧y.cls=x.cls∧y.fmt=x.fmt∧y.slots=x.slots:=by
 induction l generalizing at_ with
 | nil=>intro x hx;cases hx
 | cons o l ih =>
  intro x hx
  unfold aH at *
  simp only [bR,List.find?_cons] at hx ⊢
  by_cases h:o.oop=k
  ·simp only [h,decide_true] at hx ⊢
   cases hx
   exact ⟨_,rfl,rfl,rfl,rfl⟩
  ·simp only [h,decide_false] at hx ⊢
   exact ih x hx
theorem ki {r:RH} (l:List Int):bH r (r.keep l).2 fun k=>k∈l:=by
 intro k hk x hx
 unfold RH.keep
 split
 ·exact ⟨x,hx,rfl,rfl,rfl⟩
 ·simp only [RH.keepO]
  refine ux x ?_
  unfold aH at hx ⊢
  rw [List.find?_filter]
  have ho:=(aM (l:=r.objs) (k:=k) (o:=x) hx).2
  rw [←hx]
  congr 1
  funext a
  by_cases h:a.oop=k
  ·simp [h,hk]
  ·simp [h]
theorem gg {r:RH} (k:Int):bH r (r.marks k).2 fun _=>True:=by
 intro j _ x hx
 unfold RH.marks
 split <;> exact ⟨x,hx,rfl,rfl,rfl⟩
theorem Reaches.mono {r r':RH}{ws ws':List Int} (hw:WFH r) (h:bH r r' (Reaches r ws)) (hs:∀ w∈ws,w∈ws'){k:Int} (hk:Reaches r ws k):Reaches r' ws' k:=by
 have hn:∀ {w:Int},aZ r w≠0->Reaches r ws (aZ r w)->aZ r' w=aZ r w:=by
  intro w hne hr
  have ht:=hr.there
  cases ho:aH r.objs (aZ r w) with
  | none=>exact absurd ho ht
  | some x =>
   obtain ⟨y,g1,_⟩:=h _ hr x ho
   unfold aZ at *
   split at hne
   ·rename_i hc
    rw [if_pos hc] at g1
    rw [if_pos hc,if_pos ⟨hc.1,by rw [g1];rfl⟩]
   ·exact absurd rfl hne
 induction hk with
 | @root w h1 h2 =>
  have hr:Reaches r ws (aZ r w):=.root h1 h2
  have e:=hn h2 hr
  rw [←e];exact .root (hs w h1) (by rw [e];exact h2)
 | @cls o h1 h2 h3 ih =>
  have hr:Reaches r ws (aZ r o.cls):=.cls h1 h2 h3
  have e:=hn h3 hr
  obtain ⟨y,g1,g2,g3,g4⟩:=h _ h1 o (bW hw.objs h2)
  have gy:=aM g1
  rw [←e,←g2]
  rw [←gy.2] at ih
  exact .cls ih gy.1 (by rw [g2,e];exact h3)
 | @slot o w h1 h2 h3 h4 h5 ih =>
  have hr:Reaches r ws (aZ r w):=.slot h1 h2 h3 h4 h5
  have e:=hn h5 hr
  obtain ⟨y,g1,g2,g3,g4⟩:=h _ h1 o (bW hw.objs h2)
  have gy:=aM g1
  rw [←e]
  rw [←gy.2] at ih
  exact .slot ih gy.1 (g3.trans h3) (by rw [g4];exact h4) (by rw [e];exact h5)
theorem Reaches.arr {r:RH}{ws l:List Int}{o k:Int} (h:Reaches r ws o) (ha:eQ r o l) (h0:1<=k) (h1:k<=65536) (hk:aH r.objs k≠none) (hm:4*k∈l):Reaches r ws k:=by
 obtain ⟨x,g1,g2,g3⟩:=ha
 have gx:=aM g1
 have e:=pA h0 h1 hk
 rw [←gx.2] at h
 have:=Reaches.slot (w:=4*k) h gx.1 g2 (by rw [g3];exact hm) (by rw [e];omega)
 rw [e] at this;exact this
theorem Reaches.of_root {r:RH}{ws:List Int}{k:Int} (h0:1<=k) (h1:k<=65536) (hk:aH r.objs k≠none) (hm:4*k∈ws):Reaches r ws k:=by
 have e:=pA h0 h1 hk
 have:=Reaches.root (r:=r) (ws:=ws) (w:=4*k) hm (by rw [e];omega)
 rw [e] at this;exact this
theorem pu {s:SP} (hw:WFH s.h):bH s.h s.collect.2.h (Reaches s.h s.roots):=by
 unfold SP.collect
 split
 ·exact bH.refl _ _
 ·exact (ki _).mono fun k hk=>(RH.mem_reach hw).2 hk
theorem uj {s:SP} (hw:WFS s):WFS s.collect.2:=by
 unfold SP.collect
 split
 ·exact hw
 ·exact { hw with h:=gz hw.h _ }
theorem rQ (s:SP):s.collect.2.king=s.king∧s.collect.2.stack=s.stack∧s.collect.2.op=s.op:=by
 unfold SP.collect;split <;> exact ⟨rfl,rfl,rfl⟩
theorem js (s:SP) (cls n f:Int):(s.alloc cls n f).2.king=s.king∧(s.alloc cls n f).2.stack=s.stack∧(s.alloc cls n f).2.op=s.op:=by
 unfold SP.alloc;split <;> exact ⟨rfl,rfl,rfl⟩
theorem pz {s:SP} (hw:WFS s) (cls n f:Int):WFS (s.alloc cls n f).2:=by
 unfold SP.alloc
 split
 ·exact { hw with h:=ix hw.h _ _ _ }
 ·exact { hw with h:=ix (gz hw.h _) _ _ _ }
theorem lx {s:SP} (hw:WFS s) (cls n f:Int):bH s.h (s.alloc cls n f).2.h (Reaches s.h s.roots):=by
 unfold SP.alloc
 split
 ·exact (mD hw.h _ _ _).mono fun _ _=>trivial
 ·exact ((ki _).mono fun k hk=>(RH.mem_reach hw.h).2 hk).trans ((mD (gz hw.h _) _ _ _).mono fun _ _=>trivial)
theorem ir {s:SP} (hw:WFS s){cls n:Int} (h:(s.alloc cls n 0).1.2=0):∃ o,(s.alloc cls n 0).1.1=4*o∧1<=o∧o<=65536∧0<=n∧n<=8192∧eQ (s.alloc cls n 0).2.h o (List.replicate n.toNat 4)∧¬ Reaches s.h s.roots o:=by
 unfold SP.alloc at h ⊢
 split at h
 ·rename_i hc
  rw [if_pos hc]
  obtain ⟨h1,h2,h3,h4,h5,h6⟩:=ov hw.h h
  exact ⟨_,rfl,h2,h3,h4,h5,h6 rfl,fun hr=>hr.there h1⟩
 ·rename_i hc
  rw [if_neg hc]
  obtain ⟨h1,h2,h3,h4,h5,h6⟩:=ov (gz hw.h _) h
  refine ⟨_,rfl,h2,h3,h4,h5,h6 rfl,fun hr=>?_⟩
  have ht:=hr.there
  cases ho:aH s.h.objs ((s.h.keep s.reach).2.alloc cls n 0).1.1 with
  | none=>exact ht ho
  | some x =>
   obtain ⟨y,g1,_⟩:=ki s.reach _ ((RH.mem_reach hw.h).2 hr) x ho
   rw [h1] at g1;cases g1
end Kw
namespace Kw
open Go
structure CV where
 oop:Int
 name:Nat
 up:Int
 own:List Nat
 ownA:Int
 selA:Int
 metA:Int
 sels:List Int
 mets:List Int
 lay:Int
structure KV where
 cls:List CV
 clsA:Int
 glob:List (Nat × Int)
 globA:Int
 rest:List Int
def bD (n:Nat):Int:=4*(n:Int)+2
def CV.slots (c:CV) (i:Nat):List Int:=[bD c.name,4*c.up,4*c.ownA,4*c.selA,4*c.metA,2*c.lay+1,2*((i:Int)+1)+1]
def bw:List (Nat × Int)->List Int
 | []=>[]
 | (n,v) :: l=>bD n :: v :: bw l
theorem fY (l:List (Nat × Int)):(bw l).length=2*l.length:=by
 induction l with
 | nil=>rfl
 | cons p l ih=>obtain ⟨n,v⟩:=p;simp only [bw,List.length_cons,ih];omega
theorem qQ (l m:List (Nat × Int)):bw (l++m)=bw l++bw m:=by
 induction l with
 | nil=>rfl
 | cons p l ih=>obtain ⟨n,v⟩:=p;simp only [List.cons_append,bw,ih]
theorem qe {l:List (Nat × Int)}{i:Nat} (h:i<l.length):(bw l)[2*i]?=some (bD l[i].1)∧(bw l)[2*i+1]?=some l[i].2:=by
 induction l generalizing i with
 | nil=>simp at h
 | cons p l ih =>
  obtain ⟨n,v⟩:=p
  cases i with
  | zero=>simp [bw]
  | succ i =>
   have:=ih (i:=i) (by simpa using h)
   have e:2*(i+1)=2*i+2:=by omega
   rw [e]
   simpa [bw] using this
theorem wy {l:List (Nat × Int)}{i:Nat} (h:i<l.length) (w:Int):(bw l).set (2*i+1) w=bw (l.set i (l[i].1,w)):=by
 induction l generalizing i with
 | nil=>simp at h
 | cons p l ih =>
  obtain ⟨n,v⟩:=p
  cases i with
  | zero=>simp [bw]
  | succ i =>
   have:=ih (i:=i) (by simpa using h)
   have e:2*(i+1)+1=(2*i+1)+2:=by omega
   rw [e]
   simp only [bw,List.set_cons_succ,List.getElem_cons_succ,this]
abbrev jO:=Int × List Int
def crole (c:CV) (i:Nat):List jO:=[(c.oop,c.slots i),(c.ownA,c.own.map bD),(c.selA,c.sels),(c.metA,c.mets)]
def cD:List CV->Nat->List jO
 | [],_=>[]
 | c :: l,i=>crole c i++cD l (i+1)
theorem im (l m:List CV) (i:Nat):cD (l++m) i=cD l i++cD m (i+l.length):=by
 induction l generalizing i with
 | nil=>simp [cD]
 | cons c l ih =>
  simp only [List.cons_append,cD,ih,List.append_assoc,List.length_cons]
  have:i+1+l.length=i+(l.length+1):=by omega
  rw [this]
theorem uC {l:List CV}{i j:Nat} (h:j<l.length){p:jO} (hp:p∈crole l[j] (i+j)):p∈cD l i:=by
 induction l generalizing i j with
 | nil=>simp at h
 | cons c l ih =>
  simp only [cD,List.mem_append]
  cases j with
  | zero=>exact .inl (by simpa using hp)
  | succ j =>
   refine .inr (ih (j:=j) (by simpa using h) ?_)
   have e:i+1+j=i+(j+1):=by omega
   rw [e];simpa using hp
theorem vY {l:List CV}{i:Nat}{p:jO} (h:p∈cD l i):∃ j,∃ hj:j<l.length,p∈crole l[j] (i+j):=by
 induction l generalizing i with
 | nil=>cases h
 | cons c l ih =>
  simp only [cD,List.mem_append] at h
  rcases h with h | h
  ·exact ⟨0,by simp,by simpa using h⟩
  ·obtain ⟨j,hj,h1⟩:=ih h
   refine ⟨j+1,by simpa using hj,?_⟩
   have e:i+1+j=i+(j+1):=by omega
   rw [e] at h1;simpa using h1
def KV.rootW (v:KV):List Int:=4*v.clsA :: 4*v.globA :: v.rest
def KV.clsW (v:KV):List Int:=v.cls.map fun c=>4*c.oop
def KV.roles (v:KV):List jO:=(19,v.rootW) :: (v.clsA,v.clsW) :: (v.globA,bw v.glob) :: (1,[]) :: (18,[]) :: cD v.cls 0
def dN (r:RH) (v:KV):Prop:=∀ p∈v.roles,eQ r p.1 p.2
def D8 (v:KV):Prop:=v.roles.Pairwise fun p q=>p.1=q.1->p.2=[]
structure KShape (v:KV):Prop where
 rest:v.rest.length=6
 many0:14<=v.cls.length
 many1:v.cls.length<=256
 globs:v.glob.length<=256
 up0:∀ h:0<v.cls.length,(v.cls[0]).up=1∧(v.cls[0]).ownA=18
 ups:∀ i (h:i<v.cls.length),0<i->∃ j,∃ hj:j<v.cls.length,j<i∧(v.cls[j]).oop=(v.cls[i]).up
 kern:∀ i (h:i<v.cls.length),i<14->(v.cls[i]).oop=4+i
 lay:∀ c∈v.cls,0<=c.lay∧c.lay<=1073741823
structure KNames (v:KV) (t:TB):Prop where
 wf:WFT t
 name:∀ c∈v.cls,c.name<t.texts.length
 own:∀ c∈v.cls,∀ n∈c.own,n<t.texts.length
 glob:∀ p∈v.glob,p.1<t.texts.length
 nodup:(v.cls.map (·.name)).Nodup
section
variable {r:RH}{v:KV}
theorem dN.root (h:dN r v):eQ r 19 v.rootW:=h (19,v.rootW) (by simp [KV.roles])
theorem dN.all (h:dN r v):eQ r v.clsA v.clsW:=h (v.clsA,v.clsW) (by simp [KV.roles])
theorem dN.globs (h:dN r v):eQ r v.globA (bw v.glob):=h (v.globA,bw v.glob) (by simp [KV.roles])
theorem dN.nil (h:dN r v):eQ r 1 []:=h (1,[]) (by simp [KV.roles])
theorem dN.empty (h:dN r v):eQ r 18 []:=h (18,[]) (by simp [KV.roles])
theorem dN.crole (h:dN r v){i:Nat} (hi:i<v.cls.length){p:jO} (hp:p∈crole v.cls[i] i):eQ r p.1 p.2:=h p (by
 simp only [KV.roles,List.mem_cons]
 exact .inr (.inr (.inr (.inr (.inr (uC hi (by simpa using hp)))))))
theorem dN.cls (h:dN r v){i:Nat} (hi:i<v.cls.length):eQ r (v.cls[i]).oop ((v.cls[i]).slots i):=h.crole hi (p:=((v.cls[i]).oop,(v.cls[i]).slots i)) (by simp [Kw.crole])
theorem dN.own (h:dN r v){i:Nat} (hi:i<v.cls.length):eQ r (v.cls[i]).ownA ((v.cls[i]).own.map bD):=h.crole hi (p:=(_,_)) (by simp [Kw.crole])
theorem dN.sel (h:dN r v){i:Nat} (hi:i<v.cls.length):eQ r (v.cls[i]).selA (v.cls[i]).sels:=h.crole hi (p:=(_,_)) (by simp [Kw.crole])
theorem dN.met (h:dN r v){i:Nat} (hi:i<v.cls.length):eQ r (v.cls[i]).metA (v.cls[i]).mets:=h.crole hi (p:=(_,_)) (by simp [Kw.crole])
theorem dN.of (h1:eQ r 19 v.rootW) (h2:eQ r v.clsA v.clsW) (h3:eQ r v.globA (bw v.glob)) (h4:eQ r 1 []) (h5:eQ r 18 []) (h6:∀ p∈cD v.cls 0,eQ r p.1 p.2):dN r v:=by
 intro p hp
 simp only [KV.roles,List.mem_cons] at hp
 rcases hp with rfl | rfl | rfl | rfl | rfl | hp
 ·exact h1
 ·exact h2
 ·exact h3
 ·exact h4
 ·exact h5
 ·exact h6 p hp
theorem dN.keep {r':RH}{P:Int->Prop} (h:dN r v) (hk:bH r r' P) (hp:∀ p∈v.roles,P p.1):dN r' v:=fun p hm=>(h p hm).keep hk (hp p hm)
theorem dN.inj (h:dN r v){i j:Nat} (hi:i<v.cls.length) (hj:j<v.cls.length) (he:(v.cls[i]).oop=(v.cls[j]).oop):i=j:=by
 have h1:=h.cls hi
 have h2:=h.cls hj
 rw [he] at h1
 have:=h1.uniq h2
 simp only [CV.slots,List.cons.injEq] at this
 omega
theorem dN.ne1 (h:dN r v){i:Nat} (hi:i<v.cls.length):(v.cls[i]).oop≠1:=fun e=>by
 have h1:=h.cls hi
 rw [e] at h1
 have:=h1.uniq h.nil
 simp [CV.slots] at this
theorem dN.idx (h:dN r v){c:CV} (hc:c∈v.cls):∃ i,∃ hi:i<v.cls.length,v.cls[i]=c:=List.getElem_of_mem hc
theorem dN.reach (hw:WFH r) (h:dN r v) (hs:KShape v){ws:List Int} (hk:(76:Int)∈ws):∀ p∈v.roles,Reaches r ws p.1:=by
 have to:∀ {o k:Int}{l m:List Int},Reaches r ws o->eQ r o l->eQ r k m->4*k∈l->Reaches r ws k:=fun h1 h2 h3 h4=>by
  have hb:=h3.bnd hw
  exact h1.arr h2 hb.1 hb.2.1 h3.there h4
 have h19:Reaches r ws 19:=Reaches.of_root (by decide) (by decide) h.root.there hk
 have hA:Reaches r ws v.clsA:=to h19 h.root h.all (by simp [KV.rootW])
 have hG:Reaches r ws v.globA:=to h19 h.root h.globs (by simp [KV.rootW])
 have hC:∀ {i:Nat} (hi:i<v.cls.length),Reaches r ws (v.cls[i]).oop:=fun {i} hi=>to hA h.all (h.cls hi) (List.mem_map.2 ⟨_,List.getElem_mem hi,rfl⟩)
 have h0:0<v.cls.length:=by have:=hs.many0;omega
 have hu:=hs.up0 h0
 intro p hp
 simp only [KV.roles,List.mem_cons] at hp
 rcases hp with rfl | rfl | rfl | rfl | rfl | hp
 ·exact h19
 ·exact hA
 ·exact hG
 ·exact to (hC h0) (h.cls h0) h.nil (by simp [CV.slots,hu.1])
 ·exact to (hC h0) (h.cls h0) h.empty (by simp [CV.slots,hu.2])
 ·obtain ⟨j,hj,hm⟩:=vY hp
  have ha:=h.crole hj (p:=p) (by simpa using hm)
  simp only [Kw.crole,List.mem_cons,List.not_mem_nil,or_false] at hm
  rcases hm with rfl | rfl | rfl | rfl
  ·exact hC hj
  ·exact to (hC hj) (h.cls hj) ha (by simp [CV.slots])
  ·exact to (hC hj) (h.cls hj) ha (by simp [CV.slots])
  ·exact to (hC hj) (h.cls hj) ha (by simp [CV.slots])
end
def gi (r:RH):Prop:=∀ o∈r.objs,cz o.cls=3
theorem sN {r:RH} (h:gi r){cls:Int} (hc:cz cls=3) (n f:Int):gi (r.alloc cls n f).2:=by
 unfold RH.alloc
 split
 ·exact h
 split
 ·exact h
 split
 ·exact h
 split
 ·exact h
 ·intro o ho
  simp only [List.mem_append,List.mem_singleton] at ho
  rcases ho with ho | rfl
  ·exact h o ho
  ·exact hc
theorem mg {r:RH} (h:gi r) (k i w:Int):gi (r.put k i w).2:=by
 unfold RH.put
 split
 ·exact h
 split
 ·exact h
 split
 ·exact h
 ·intro o ho
  simp only [iU,List.mem_map] at ho
  obtain ⟨x,hx,rfl⟩:=ho
  split
  ·exact h x hx
  ·exact h x hx
theorem zz {r:RH} (h:gi r) (k:Int):gi (r.marks k).2:=by
 unfold RH.marks;split <;> exact h
theorem vI {r:RH} (h:gi r) (l:List Int):gi (r.keep l).2:=by
 unfold RH.keep
 split
 ·exact h
 ·intro o ho
  obtain ⟨x,hx,e,_⟩:=ml ho
  have:=h x (List.mem_filter.1 hx).1
  rw [e];exact this
theorem pD {s:SP} (h:gi s.h){cls:Int} (hc:cz cls=3) (n f:Int):gi (s.alloc cls n f).2.h:=by
 unfold SP.alloc
 split
 ·exact sN h hc _ _
 ·exact sN (vI h _) hc _ _
theorem uJ {s:SP} (h:gi s.h):gi s.collect.2.h:=by
 unfold SP.collect;split
 ·exact h
 ·exact vI h _
structure KS (s:SP) (v:KV):Prop where
 wf:WFS s
 gc:gi s.h
 op:s.op=false
 king:s.king=19
 view:dN s.h v
 sep:D8 v
 shape:KShape v
theorem KS.roots {s:SP}{v:KV} (h:KS s v):s.roots=76 :: s.stack:=by unfold SP.roots;rw [h.king];rfl
theorem KS.reach {s:SP}{v:KV} (h:KS s v):∀ p∈v.roles,Reaches s.h s.roots p.1:=h.view.reach h.wf.h h.shape (by rw [h.roots];simp)
def RH.lay (r:RH) (o i:Int):List Int->RH
 | []=>r
 | w :: l=>RH.lay (r.put o i w).2 o (i+1) l
noncomputable def SP.make (s:SP) (cls:Int) (ws:List Int):(Int × Int) × SP :=
 if (s.alloc (4*cls) ws.length 0).1.2≠0 then ((0,(s.alloc (4*cls) ws.length 0).1.2),(s.alloc (4*cls) ws.length 0).2)
 else (((s.alloc (4*cls) ws.length 0).1.1,(SP.keepW { (s.alloc (4*cls) ws.length 0).2 with h:=(s.alloc (4*cls) ws.length 0).2.h.lay ((s.alloc (4*cls) ws.length 0).1.1 / 4) 0 ws } [(s.alloc (4*cls) ws.length 0).1.1]).1),
  (SP.keepW { (s.alloc (4*cls) ws.length 0).2 with h:=(s.alloc (4*cls) ws.length 0).2.h.lay ((s.alloc (4*cls) ws.length 0).1.1 / 4) 0 ws } [(s.alloc (4*cls) ws.length 0).1.1]).2)
noncomputable def SP.array (s:SP) (ws:List Int):(Int × Int) × SP:=if ws=[] then ((72,0),s) else s.make 11 ws
theorem uw {r:RH} (h:WFH r) (o i:Int) (l:List Int):WFH (r.lay o i l):=by
 induction l generalizing r i with
 | nil=>exact h
 | cons w l ih=>exact ih (il h _ _ _) _
theorem Is {r:RH} (h:gi r) (o i:Int) (l:List Int):gi (r.lay o i l):=by
 induction l generalizing r i with
 | nil=>exact h
 | cons w l ih=>exact ih (mg h _ _ _) _
theorem xv (r:RH) (o i:Int) (l:List Int):bH r (r.lay o i l) fun j=>j≠o:=by
 induction l generalizing r i with
 | nil=>exact bH.refl _ _
 | cons w l ih=>exact (gD o i w).trans (ih _ _)
theorem Au {r:RH}{o:Int}{pre l:List Int}{n:Nat} (h:eQ r o (pre++List.replicate n 4)) (hl:l.length=n) (hw:∀ w∈l,dG w):eQ (r.lay o pre.length l) o (pre++l):=by
 induction l generalizing r pre n with
 | nil=>subst hl;simpa [RH.lay] using h
 | cons w l ih =>
  subst hl
  simp only [RH.lay]
  have h1:=(jK h (i:=(pre.length:Int)) (w:=w) (by omega) (by simp;omega) (hw w (by simp))).1
  have e:(pre++List.replicate (w :: l).length 4).set (pre.length:Int).toNat w=(pre++[w])++List.replicate l.length 4:=by
   rw [Int.toNat_natCast,List.set_append_right _ _ (Nat.le_refl _)]
   simp [List.replicate_succ]
  rw [e] at h1
  have:=ih h1 rfl fun x hx=>hw x (by simp [hx])
  simpa using this
theorem lC {s:SP}{w:Int} (hw:dG w) (hs:s.stack.length<65536):s.keepW [w]=(0,{ s with stack:=s.stack++[w] }):=by
 unfold SP.keepW
 rw [if_neg (by simpa using hw),if_neg (by simp;omega)]
theorem cq {o:Int} (h0:1<=o) (h1:o<=65536):dG (4*o):=by
 unfold dG;have:=bG (4*o);omega
theorem kJ {s:SP}{v:KV} (hk:KS s v) (hst:s.stack.length<65536){cls:Int} (hcls:1<=cls∧cls<=65536){ws:List Int} (hws:∀ w∈ws,dG w) :
  KS (s.make cls ws).2 v∧bH s.h (s.make cls ws).2.h (Reaches s.h s.roots) ∧
  ((s.make cls ws).1.2≠0->(s.make cls ws).2.stack=s.stack∧(s.make cls ws).1.1=0) ∧
  ((s.make cls ws).1.2=0->∃ o,(s.make cls ws).1.1=4*o∧(s.make cls ws).2.stack=s.stack++[4*o]∧1<=o∧o<=65536∧eQ (s.make cls ws).2.h o ws∧¬ Reaches s.h s.roots o):=by
 have hal:=js s (4*cls) ws.length 0
 have hawf:=pz hk.wf (4*cls) ws.length 0
 have hake:=lx hk.wf (4*cls) ws.length 0
 have hagc:=pD hk.gc (cls:=4*cls) (by have:=bG (4*cls);omega) ws.length 0
 unfold SP.make
 by_cases he:(s.alloc (4*cls) ws.length 0).1.2=0
 ·obtain ⟨o,e1,o1,o2,n0,n1,harr,hnr⟩:=ir hk.wf he
  rw [if_neg (by simpa using he)]
  rw [e1]
  have e2:4*o / 4=o:=by omega
  rw [e2]
  generalize (s.alloc (4*cls) ws.length 0).2=s1 at *
  have hko:bH s.h (s1.h.lay o 0 ws) (Reaches s.h s.roots):=hake.trans ((xv _ _ _ _).mono fun k hk he=>hnr (he ▸ hk))
  have hl:eQ (s1.h.lay o 0 ws) o ws:=by
   have:=Au (pre:=[]) (n:=ws.length) (l:=ws) (by simpa using harr) rfl hws
   simpa using this
  rw [lC (cq o1 o2) (by simp only [hal.2.1];exact hst)]
  refine ⟨⟨?_,Is hagc _ _ _,hal.2.2.trans hk.op,hal.1.trans hk.king,hk.view.keep hko hk.reach,hk.sep,hk.shape⟩,hko,fun h=>absurd rfl h,fun _=>⟨o,rfl,by simp [hal.2.1],o1,o2,hl,hnr⟩⟩
  refine { hawf with h:=uw hawf.h _ _ _,many:=?_,words:=fun w hw=>?_ }
  ·simp only [List.length_append,List.length_cons,List.length_nil,hal.2.1];omega
  ·rcases List.mem_append.1 hw with hw | hw
   ·exact hawf.words w hw
   ·simp only [List.mem_singleton] at hw;rw [hw];exact cq o1 o2
 ·rw [if_pos (by simpa using he)]
  exact ⟨⟨hawf,hagc,hal.2.2.trans hk.op,hal.1.trans hk.king,hk.view.keep hake hk.reach,hk.sep,hk.shape⟩,hake,fun _=>⟨hal.2.1,rfl⟩,fun h=>absurd h he⟩
end Kw
namespace Kw
open Go
theorem gU {t:TB} (s:ByteArray) (h:(t.add s).1.2=0):∃ n:Nat,(t.add s).1.1=n∧(t.add s).2.texts[n]?=some s∧∃ l,(t.add s).2.texts=t.texts++l:=by
 unfold TB.add at h ⊢
 split at h
 ·cases h
 rename_i hg
 rw [if_neg hg]
 cases hn:bV t.texts s with
 | some n =>
  simp only
  refine ⟨n,rfl,?_,[],by simp⟩
  have:∀ (l:List ByteArray) n,bV l s=some n->l[n]?=some s:=by
   intro l
   induction l with
   | nil=>intro n h;cases h
   | cons x l ih =>
    intro n h
    unfold bV at h
    by_cases hx:x=s
    ·rw [if_pos hx] at h;cases h;simp [hx]
    ·rw [if_neg hx] at h
     cases hm:bV l s with
     | none=>rw [hm] at h;cases h
     | some m=>rw [hm] at h;cases h;simpa using ih m hm
  exact this _ _ hn
 | none =>
  rw [hn] at h
  simp only at h ⊢
  split at h
  ·cases h
  rename_i hm
  rw [if_neg hm]
  exact ⟨t.texts.length,rfl,by simp,[s],rfl⟩
theorem np (t:TB) (s:ByteArray):(t.add s).2.most=t.most∧∃ l,(t.add s).2.texts=t.texts++l:=by
 unfold TB.add
 split
 ·exact ⟨rfl,[],by simp⟩
 cases hn:bV t.texts s with
 | some n=>exact ⟨rfl,[],by simp⟩
 | none =>
  simp only
  split
  ·exact ⟨rfl,[],by simp⟩
  ·exact ⟨rfl,[s],rfl⟩
def TB.addAll (t:TB) (acc:List Int):List ByteArray->(List Int × Int) × TB
 | []=>((acc,0),t)
 | s :: l=>if (t.add s).1.2≠0 then (([],(t.add s).1.2),(t.add s).2) else TB.addAll (t.add s).2 (acc++[4*(t.add s).1.1+2]) l
theorem tL {t:TB} (h:WFT t) (acc:List Int) (l:List ByteArray):WFT (t.addAll acc l).2:=by
 induction l generalizing t acc with
 | nil=>exact h
 | cons s l ih =>
  unfold TB.addAll
  split
  ·exact ib h s
  ·exact ih (ib h s) _
theorem iD (t:TB) (acc:List Int) (l:List ByteArray):(t.addAll acc l).2.most=t.most∧∃ m,(t.addAll acc l).2.texts=t.texts++m:=by
 induction l generalizing t acc with
 | nil=>exact ⟨rfl,[],by simp [TB.addAll]⟩
 | cons s l ih =>
  have h1:=np t s
  unfold TB.addAll
  split
  ·exact h1
  ·have h2:=ih (t.add s).2 (acc++[4*(t.add s).1.1+2])
   obtain ⟨m,e⟩:=h1.2
   obtain ⟨m',e'⟩:=h2.2
   exact ⟨h2.1.trans h1.1,m++m',by rw [e',e];simp⟩
theorem lM {t:TB} (acc:List Int) (l:List ByteArray) (h:(t.addAll acc l).1.2=0):∃ ns:List Nat,(t.addAll acc l).1.1=acc++ns.map bD∧ns.map (fun n=>(t.addAll acc l).2.texts[n]?)=l.map some:=by
 induction l generalizing t acc with
 | nil=>exact ⟨[],by simp [TB.addAll],rfl⟩
 | cons s l ih =>
  unfold TB.addAll at h ⊢
  split at h
  ·rename_i hn;exact absurd h hn
  ·rename_i hn
   rw [if_neg hn]
   have hz:(t.add s).1.2=0:=Classical.byContradiction hn
   obtain ⟨n,e1,e2,_⟩:=gU s hz
   obtain ⟨ns,e3,e4⟩:=ih _ h
   obtain ⟨_,m,e5⟩:=iD (t.add s).2 (acc++[4*(t.add s).1.1+2]) l
   refine ⟨n :: ns,?_,?_⟩
   ·rw [e3,e1];simp [bD]
   ·simp only [List.map_cons,e4]
    congr 1
    rw [e5]
    have hlt:n<(t.add s).2.texts.length:=by
     rcases Nat.lt_or_ge n (t.add s).2.texts.length with h | h
     ·exact h
     ·rw [List.getElem?_eq_none h] at e2;cases e2
    rw [List.getElem?_append_left hlt,e2]
def TB.back (t:TB) (n:Int):Int × TB:=if n<0∨(t.texts.length:Int)<n then (1,t) else (0,{ t with texts:=t.texts.take n.toNat })
theorem sF {t t':TB} (h1:t'.most=t.most) (h2:∃ l,t'.texts=t.texts++l):(t'.back t.texts.length).2=t:=by
 obtain ⟨l,e⟩:=h2
 unfold TB.back
 rw [if_neg (by rw [e];simp;omega)]
 cases t with
 | mk most texts =>
  cases t' with
  | mk m ts =>
   simp only at e h1
   subst h1 e
   simp
def tx (t:TB) (n:Nat):ByteArray:=t.texts.getD n ⟨#[]⟩
theorem rl {t t':TB} (h:∃ l,t'.texts=t.texts++l){n:Nat} (hn:n<t.texts.length):tx t' n=tx t n:=by
 obtain ⟨l,e⟩:=h
 unfold tx
 rw [e,List.getD_eq_getElem?_getD,List.getD_eq_getElem?_getD,List.getElem?_append_left hn]
theorem cA {t:TB}{n:Nat}{s:ByteArray} (h:t.texts[n]?=some s):tx t n=s∧n<t.texts.length:=by
 refine ⟨by unfold tx;rw [List.getD_eq_getElem?_getD,h];rfl,?_⟩
 rcases Nat.lt_or_ge n t.texts.length with h1 | h1
 ·exact h1
 ·rw [List.getElem?_eq_none h1] at h;cases h
theorem yL {t:TB} (hw:WFT t){n m:Nat} (hn:n<t.texts.length) (hm:m<t.texts.length) (h:tx t n=tx t m):n=m:=by
 unfold tx at h
 rw [List.getD_eq_getElem?_getD,List.getD_eq_getElem?_getD,List.getElem?_eq_getElem hn,List.getElem?_eq_getElem hm] at h
 simp only [Option.getD_some] at h
 exact (List.getElem_inj hw.nodup).1 h
theorem Dq {t:TB} (hw:WFT t){n:Nat} (hn:n<t.texts.length):cy (tx t n):=by
 unfold tx
 rw [List.getD_eq_getElem?_getD,List.getElem?_eq_getElem hn]
 exact hw.good _ (List.getElem_mem hn)
theorem d6 {t:TB} (hw:WFT t){n:Nat} (hn:n<t.texts.length):dG (bD n):=by
 have h1:=hw.m1
 have h2:=hw.len
 unfold dG bD
 have:=bG (4*(n:Int)+2)
 omega
theorem KNames.grow {v:KV}{t t':TB} (h:KNames v t) (hw:WFT t') (hp:∃ l,t'.texts=t.texts++l):KNames v t':=by
 have:t.texts.length<=t'.texts.length:=by obtain ⟨l,e⟩:=hp;rw [e];simp
 exact ⟨hw,fun c hc=>Nat.lt_of_lt_of_le (h.name c hc) this,fun c hc n hn=>Nat.lt_of_lt_of_le (h.own c hc n hn) this,fun p hp=>Nat.lt_of_lt_of_le (h.glob p hp) this,h.nodup⟩
theorem dg {s:SP}{v:KV} (hk:KS s v) (hst:s.stack.length<65536){ws:List Int} (hws:∀ w∈ws,dG w) :
  KS (s.array ws).2 v∧bH s.h (s.array ws).2.h (Reaches s.h s.roots)∧(∃ l,(s.array ws).2.stack=s.stack++l∧l.length<=1) ∧
  ((s.array ws).1.2=0->∃ o,(s.array ws).1.1=4*o∧1<=o∧o<=65536∧eQ (s.array ws).2.h o ws∧Reaches (s.array ws).2.h (s.array ws).2.roots o∧(ws=[]∨¬ Reaches s.h s.roots o)):=by
 unfold SP.array
 by_cases he:ws=[]
 ·rw [if_pos he]
  subst he
  refine ⟨hk,bH.refl _ _,⟨[],by simp,by simp⟩,fun _=>⟨18,rfl,by decide,by decide,hk.view.empty,?_,.inl rfl⟩⟩
  exact hk.reach (18,[]) (by simp [KV.roles])
 ·rw [if_neg he]
  obtain ⟨h1,h2,h3,h4⟩:=kJ hk hst (cls:=11) (by decide) hws
  refine ⟨h1,h2,?_,fun hz=>?_⟩
  ·by_cases hz:(s.make 11 ws).1.2=0
   ·obtain ⟨o,_,e,_⟩:=h4 hz
    exact ⟨[4*o],e,by simp⟩
   ·exact ⟨[],by rw [(h3 hz).1];simp,by simp⟩
  ·obtain ⟨o,e1,e2,o1,o2,ha,hn⟩:=h4 hz
   refine ⟨o,e1,o1,o2,ha,?_,.inr hn⟩
   exact Reaches.of_root o1 o2 ha.there (by rw [h1.roots,e2];simp)
noncomputable def fj (s:SP) (t:TB) (cw:List Int) (c:Int):(Int × Int) × SP × TB :=
 if (s.array (cw++[c])).1.2≠0 then ((0,(s.array (cw++[c])).1.2),(s.array (cw++[c])).2,t)
 else ((c / 4,0),((s.array (cw++[c])).2.setRoot 0 (s.array (cw++[c])).1.1).2,t)
def bU (n:Int) (up l:Int) (k:Nat):List Int:=[n,4*up,l,72,72,1,2*((k:Int)+1)+1]
noncomputable def ji (s:SP) (t:TB) (cw:List Int) (n up l:Int):(Int × Int) × SP × TB :=
 if (s.make 12 (bU n up l cw.length)).1.2≠0 then ((0,(s.make 12 (bU n up l cw.length)).1.2),(s.make 12 (bU n up l cw.length)).2,t)
 else fj (s.make 12 (bU n up l cw.length)).2 t cw (s.make 12 (bU n up l cw.length)).1.1
noncomputable def nZ (s:SP) (t:TB) (cw:List Int) (n up:Int) (names:List Int):(Int × Int) × SP × TB :=
 if (s.array names).1.2≠0 then ((0,(s.array names).1.2),(s.array names).2,t)
 else ji (s.array names).2 t cw n up (s.array names).1.1
noncomputable def gN (s:SP) (t:TB) (cw:List Int) (name:ByteArray) (up:Int) (own:List ByteArray):(Int × Int) × SP × TB :=
 if (t.add name).1.2≠0 then ((0,(t.add name).1.2),s,(t.add name).2)
 else if ((t.add name).2.addAll [] own).1.2≠0 then ((0,((t.add name).2.addAll [] own).1.2),s,((t.add name).2.addAll [] own).2)
 else nZ s ((t.add name).2.addAll [] own).2 cw (4*(t.add name).1.1+2) up ((t.add name).2.addAll [] own).1.1
noncomputable def i0 (s:SP) (t:TB) (gw:List Int) (n:Int):Int × SP × TB :=
 if (s.array (gw++[n,4])).1.2≠0 then ((s.array (gw++[n,4])).1.2,(s.array (gw++[n,4])).2,t)
 else (0,((s.array (gw++[n,4])).2.setRoot 1 (s.array (gw++[n,4])).1.1).2,t)
noncomputable def fA (s:SP) (t:TB) (gw:List Int) (name:ByteArray):Int × SP × TB :=
 if (t.add name).1.2≠0 then ((t.add name).1.2,s,(t.add name).2) else i0 s (t.add name).2 gw (4*(t.add name).1.1+2)
def lA (s:SP) (t:TB) (mark cnt kept e:Int):SP × TB :=
 if e=0 then ((s.drop ((s.stack.length:Int)-kept)).2,t)
 else ({ (s.drop ((s.stack.length:Int)-kept)).2 with h:=if e=24 then s.h else (s.h.marks mark).2 },(t.back cnt).2)
noncomputable def cO (s:SP) (t:TB) (cw:List Int) (name:ByteArray) (up:Int) (own:List ByteArray):(Int × Int) × SP × TB :=
 ((if (gN s t cw name up own).1.2=0 then (gN s t cw name up own).1.1 else 0,(gN s t cw name up own).1.2),lA (gN s t cw name up own).2.1 (gN s t cw name up own).2.2 s.h.mark t.texts.length s.stack.length (gN s t cw name up own).1.2)
noncomputable def dB (s:SP) (t:TB) (gw:List Int) (name:ByteArray):Int × SP × TB :=
 ((fA s t gw name).1,lA (fA s t gw name).2.1 (fA s t gw name).2.2 s.h.mark t.texts.length s.stack.length (fA s t gw name).1)
theorem su {v:KV}{r:RH} (hv:dN r v) (hs:D8 v):∀ p∈(v.clsA,v.clsW) :: (v.globA,bw v.glob) :: (1,[]) :: (18,[]) :: cD v.cls 0,p.1≠19:=by
 intro p hp he
 have h:=(List.pairwise_cons.1 hs).1 p hp he.symm
 simp [KV.rootW] at h
theorem jT {s:SP}{v:KV} (hk:KS s v){i w:Int} (h0:0<=i) (h1:i<8) (hw:dG w) :
  eQ (s.setRoot i w).2.h 19 (v.rootW.set i.toNat w)∧bH s.h (s.setRoot i w).2.h (fun k=>k≠19)∧WFS (s.setRoot i w).2∧(s.setRoot i w).2.king=19∧(s.setRoot i w).2.op=false∧(s.setRoot i w).2.stack=s.stack∧gi (s.setRoot i w).2.h:=by
 unfold SP.setRoot
 have hl:v.rootW.length=8:=by simp [KV.rootW,hk.shape.rest]
 refine ⟨?_,by have:=gD (r:=s.h) s.king i w;rw [hk.king] at this ⊢;exact this,{ hk.wf with h:=il hk.wf.h _ _ _ },hk.king,hk.op,rfl,mg hk.gc _ _ _⟩
 have:=(jK hk.view.root h0 (by rw [hl];exact h1) hw).1
 simp only [hk.king];exact this
end Kw
namespace Go.Proofs.YtmkdkplipbocjaaGreatDoor
open Kw
theorem bL {p:Prop} [Decidable p] {X Y:Prop} (h1:p->X) (h2:¬ p->Y):if p then X else Y:=by
 split
 ·exact h1 ‹_›
 ·exact h2 ‹_›
def pZ (H:aj) (b:Nat) (F:ay) (t:TB):Prop:=∃ a l c F',F=b :: F'∧b∉F'∧bA H b #[.int .i64 t.most,.slice a l c]∧bv 1 H a l c (aO t.texts) F'∧WFT t
section
variable {H:aj}{b:Nat}{F F':ay}{t:TB}{Q:QT}
theorem pZ.wf (h:pZ H b F t):WFT t:=by obtain ⟨_,_,_,_,_,_,_,_,h⟩:=h;exact h
theorem pZ.lt (h:pZ H b F t):∀ x∈F,x<H.size:=by
 obtain ⟨a,l,c,F',rfl,h1,hB,hO,hw⟩:=h
 intro x hx
 rcases List.mem_cons.1 hx with rfl | hx
 ·exact hB.lt
 ·exact hO.lt x hx
theorem pZ.fr {H':aj}{G:ay} (h:pZ H b F t) (hf:Fr G H H') (hd:bi F G):pZ H' b F t:=by
 obtain ⟨a,l,c,F',rfl,h1,hB,hO,hw⟩:=h
 exact ⟨a,l,c,F',rfl,h1,hB.fr hf (hd b (by simp)),hO.fr hf fun x hx=>hd x (by simp [hx]),hw⟩
theorem CZ {n:Int} (hbad:¬ (0<=n∧n<=4096)->Q (.tuple #[.pointer none,.int .i64 1]) H) (h:(0<=n∧n<=4096)->∀ H',pZ H' H.size [H.size] ⟨n,[]⟩->Fr [] H H'->Q (.tuple #[.pointer (some ⟨H.size,0,none⟩),.int .i64 0]) H'):ah PP MD #[.int .i64 n] Q H:=by
 apply GY
 unfold QV A0 iV pV lV
 simp only [ae]
 refine bL (fun h1=>hbad (by omega)) fun h1=>bL (fun h2=>hbad (by omega)) fun h2=>?_
 exact h (by omega) _ ⟨none,0,0,[],rfl,by simp,bA.new _ _ _,bv.nil 1 _,by simp;omega,by simp;omega,by simp;omega,by simp,by simp⟩ (Fr.push _ _ _)
theorem zO {s:ByteArray} (h:Q (.bool (decide (cy s))) H):ah PP Kz #[.string s] Q H:=by
 apply zQ
 unfold Pt
 simp only [ae]
 have fin:∀ b:Bool,b=decide (cy s)->Q (.bool b) H:=fun b hb=>hb ▸ h
 refine bL (fun h1=>fin _ ?_) fun h1=>fin _ ?_
 ·rw [Bool.eq_iff_iff,decide_eq_true_iff,decide_eq_true_iff];unfold cy;omega
 ·rw [Bool.eq_iff_iff,decide_eq_true_iff];unfold cy;simp;omega
theorem Eo (hT:pZ H b F t){s:ByteArray} (h:Q (.int .i64 (match bV t.texts s with | some n=>(n:Int) | none=>-1)) H):ah PP KJ #[.pointer (some ⟨b,0,none⟩),.string s] Q H:=by
 obtain ⟨a,l,c,F',rfl,h1,hB,hO,hw⟩:=hT
 have hc1:ac H ⟨b,1,none⟩=some (.slice a l c):=hB.cell 1
 have hl:l=t.texts.length:=by have:=hO.len;simpa [aO] using this.symm
 have hm1:=hw.m1
 have hlen:=hw.len
 apply zY
 unfold LU iV wW sV lV
 refine ⟨fun w H'=>H'=H∧∃ n:Nat,w=[.int .i64 n]∧n<=l∧∀ j (hj:j<t.texts.length),j<n->t.texts[j]≠s,fun w _=>match w with
  | [.int _ i]=>(l-i).toNat
  | _=>0,⟨rfl,0,rfl,Nat.zero_le _,fun j hj h=>by omega⟩,?_⟩
 rintro w H1 ⟨rfl,n,rfl,hn1,hn2⟩ _
 refine ⟨_,rfl,_,rfl,_,_,_,hc1,?_⟩
 rw [ae]
 refine bL (fun hlt=>?_) fun hlt=>?_
 ·obtain ⟨p,hlt2,rfl,hcell⟩:=hO.rd.str (i:=(n:Int)) (by omega) hlt
  simp only [Int.toNat_natCast] at hcell hlt2
  refine ⟨_,rfl,_,_,_,hc1,⟨by omega,hlt⟩,_,rfl,_,by rw [Int.toNat_natCast,Nat.mul_one];exact hcell,?_⟩
  rw [cL,ae]
  refine bL (fun he=>?_) fun he=>?_
  ·rw [nT hlt2 he hn2] at h;exact h
  ·have e:IntKind.wrap .i64 ((n:Int)+1)=((n+1:Nat):Int):=by rw [am (by omega) (by omega)];omega
   rw [e]
   refine ⟨⟨rfl,n+1,rfl,by omega,fun j hj hj2=>?_⟩,by simp;omega⟩
   by_cases hjn:j=n
   ·subst hjn;exact he
   ·exact hn2 j hj (by omega)
 ·have:bV t.texts s=none:=iF.2 fun hm=>by
   obtain ⟨j,hj,he⟩:=List.getElem_of_mem hm
   exact hn2 j hj (by omega) he
  rw [this] at h;exact h
theorem tP (hT:pZ H b F t){s:ByteArray} (h:∀ H' F',pZ H' b F' (t.add s).2->Up F H F' H'->Q (.tuple #[.int .i64 (t.add s).1.1,.int .i64 (t.add s).1.2]) H'):ah PP LD #[.pointer (some ⟨b,0,none⟩),.string s] Q H:=by
 have hT0:=hT
 have hlt0:=hT.lt
 have hwf:=ib hT.wf s
 obtain ⟨a,l,c,F',rfl,h1,hB,hO,hw⟩:=hT
 have hc1:ac H ⟨b,1,none⟩=some (.slice a l c):=hB.cell 1
 have hc0:ac H ⟨b,0,none⟩=some (.int .i64 t.most):=hB.cell 0
 have hl:l=t.texts.length:=by have:=hO.len;simpa [aO] using this.symm
 have hm1:=hw.m1
 have hlen:=hw.len
 have hs1:aF PP 37=some (1,16,some (.string (⟨#[]⟩:ByteArray))):=by kernel_rfl
 apply Fo
 unfold Q1 A0 iV wW pV sV lV cS
 simp only [Option.isNone_some,cond_false]
 refine zO ⟨_,rfl,?_⟩
 unfold TB.add at h hwf
 by_cases hg:cy s
 ·simp only [hg,not_true_eq_false,if_false,decide_true,Bool.not_true,cond_false] at h hwf ⊢
  refine Eo hT0 ⟨_,rfl,?_⟩
  cases hn:bV t.texts s with
  | some n =>
   rw [hn] at h
   rw [ae,if_pos (by simp only;omega)]
   exact h H _ hT0 (Up.refl _ _)
  | none =>
   rw [hn] at h hwf
   simp only at h hwf
   rw [ae,if_neg (by simp)]
   refine ⟨_,rfl,_,_,_,hc1,_,rfl,_,hc0,?_⟩
   rw [ae]
   refine bL (fun h2=>?_) fun h2=>?_
   ·rw [if_pos (by omega)] at h;exact h H _ hT0 (Up.refl _ _)
   ·rw [if_neg (by omega)] at h hwf
    refine ⟨_,rfl,_,_,_,hc1,?_⟩
    refine bg hs1 rfl (by kernel_rfl) hO rfl (by simp [cC]) (by omega) (by decide) (by decide) fun a' c' F3 H2 g1 g2 g3=>⟨_,_,_,rfl,?_⟩
    have hbF3:b∉F3:=fun hx=>by
     rcases g2.2 b hx with h4 | h4
     ·exact h1 h4
     ·have:=hlt0 b (by simp);omega
    have hB2:=hB.fr g2.1 h1
    have hBs:=hB2.set 1 (.slice a' (l+1) c')
    have e:IntKind.wrap .i64 (((l+1:Nat):Int)-1)=(t.texts.length:Int):=by rw [am (by omega) (by omega)];omega
    refine ⟨_,rfl,hB2.wr (by simp),_,rfl,_,_,_,hBs.cell 1,?_⟩
    rw [e]
    refine h _ (b :: F3) ⟨a',l+1,c',F3,rfl,hbF3,hBs,?_,hwf⟩ ⟨(g2.1.mono fun x hx=>by simp [hx]).step (by simp),fun x hx=>?_⟩
    ·have h5:=g1.fr (G:=[b]) (Fr.set (a:=⟨b,1,none⟩) (v:=.slice a' (l+1) c') (by simp)) (fun x hx hn=>hbF3 (by simp only [List.mem_singleton] at hn;rw [←hn];exact hx))
     simp only
     rw [ce];exact h5
    ·rcases List.mem_cons.1 hx with rfl | hx
     ·exact .inl (by simp)
     ·exact (g2.2 x hx).imp (fun h4=>by simp [h4]) id
 ·simp only [hg,not_false_eq_true,if_true,decide_false,Bool.not_false,cond_true] at h ⊢
  exact h H _ hT0 (Up.refl _ _)
theorem sG (hT:pZ H b F t) (h:Q (.int .i64 (t.texts.length:Int)) H):ah PP HY #[.pointer (some ⟨b,0,none⟩)] Q H:=by
 obtain ⟨a,l,c,F',rfl,h1,hB,hO,hw⟩:=hT
 have hc1:ac H ⟨b,1,none⟩=some (.slice a l c):=hB.cell 1
 have hl:l=t.texts.length:=by have:=hO.len;simpa [aO] using this.symm
 apply CJ
 unfold Ni iV lV
 simp only [Option.isNone_some,cond_false]
 refine ⟨_,rfl,_,_,_,hc1,?_⟩
 rw [hl];exact h
def nP (t:TB) (n:Int):Value:=if h:0<=n∧n<t.texts.length then .tuple #[.string (t.texts[n.toNat]'(by omega)),.int .i64 0] else .tuple #[.string (⟨#[]⟩:ByteArray),.int .i64 61]
theorem BN (hT:pZ H b F t){n:Int} (h:Q (nP t n) H):ah PP IM #[.pointer (some ⟨b,0,none⟩),.int .i64 n] Q H:=by
 obtain ⟨a,l,c,F',rfl,h1,hB,hO,hw⟩:=hT
 have hc1:ac H ⟨b,1,none⟩=some (.slice a l c):=hB.cell 1
 have hl:l=t.texts.length:=by have:=hO.len;simpa [aO] using this.symm
 apply AI
 unfold Qh iV sV lV
 unfold nP at h
 simp only [ae,Option.isNone_some,cond_false]
 refine bL (fun h2=>?_) fun h2=>?_
 ·rw [dif_neg (by omega)] at h;exact h
 refine ⟨_,rfl,_,_,_,hc1,bL (fun h3=>?_) fun h3=>?_⟩
 ·rw [dif_neg (by omega)] at h;exact h
 ·rw [dif_pos (by omega)] at h
  obtain ⟨p,hlt2,rfl,hcell⟩:=hO.rd.str (i:=n) (by omega) (by omega)
  exact ⟨_,rfl,_,_,_,hc1,⟨by omega,by omega⟩,_,rfl,_,by rw [Nat.mul_one];exact hcell,h⟩
theorem Qy (hT:pZ H b F t) (h:∀ a l c G H',bv 1 H' a l c (aO t.texts) G->Fr [] H H'->(∀ x∈G,H.size<=x)->Q (.slice a l c) H'):ah PP Ma #[.pointer (some ⟨b,0,none⟩)] Q H:=by
 obtain ⟨a,l,c,F',rfl,h1,hB,hO,hw⟩:=hT
 have hl:l=t.texts.length:=by have:=hO.len;simpa [aO] using this.symm
 have hm1:=hw.m1
 have hlen:=hw.len
 have hs1:aF PP 37=some (1,16,some (.string (⟨#[]⟩:ByteArray))):=by kernel_rfl
 apply Gn
 unfold Ra A0 iV wW sV lV
 refine ⟨fun w H'=>∃(i:Nat) (a:Option Addr) (l' c:Nat) (G:ay),w=[.slice a l' c,.int .i64 i]∧i<=l∧bv 1 H' a l' c (aO (t.texts.take i)) G∧Fr [] H H'∧(∀ x∈G,H.size<=x),fun w _=>match w with
  | [_,.int _ i]=>(l-i).toNat
  | _=>0,⟨0,none,0,0,[],rfl,Nat.zero_le _,by simpa [aO] using bv.nil 1 H,Fr.refl _ _,by simp⟩,?_⟩
 rintro w H1 ⟨i,a1,l1,c1,G,rfl,hi,ho,hf,hG⟩ _
 have hB1:=hB.fr hf (by simp)
 have hc1:ac H1 ⟨b,1,none⟩=some (.slice a l c):=hB1.cell 1
 have hl1:l1=i:=by have:=ho.len;simp only [aO,List.length_map,List.length_take] at this;omega
 refine ⟨_,_,_,_,rfl,?_⟩
 simp only [Option.isNone_some,Bool.not_false,cond_true]
 refine ⟨_,rfl,_,_,_,hc1,?_⟩
 rw [ae]
 refine bL (fun hlt=>?_) fun hlt=>?_
 ·obtain ⟨p,hlt2,rfl,hcell⟩:=(hO.fr hf (by simp)).rd.str (i:=(i:Int)) (by omega) hlt
  simp only [Int.toNat_natCast] at hcell hlt2
  have htk:t.texts.take (i+1)=t.texts.take i++[t.texts[i]]:=by rw [List.take_add_one];simp [hlt2]
  have e:IntKind.wrap .i64 ((i:Int)+1)=((i+1:Nat):Int):=by rw [am (by omega) (by omega)];omega
  refine ⟨_,rfl,_,_,_,hc1,⟨by omega,hlt⟩,_,rfl,_,by rw [Int.toNat_natCast,Nat.mul_one];exact hcell,?_⟩
  refine bg hs1 rfl (by kernel_rfl) ho rfl (by simp [cC]) (by omega) (by decide) (by decide) fun a' c' G2 H2 g1 g2 g3=>⟨_,_,_,rfl,?_⟩
  have hfr:=Up.fresh hf g2 hG
  rw [e]
  refine ⟨⟨i+1,a',l1+1,c',G2,rfl,by omega,?_,hfr.1,hfr.2⟩,by simp;omega⟩
  rw [htk,ce];exact g1
 ·rw [List.take_of_length_le (by omega)] at ho
  exact h _ _ _ _ H1 ho hf hG
theorem Cm (hT:pZ H b F t){n:Int} (h:∀ H' F',pZ H' b F' (TB.back t n).2->Up F H F' H'->Q (.int .i64 (TB.back t n).1) H'):ah PP K0 #[.pointer (some ⟨b,0,none⟩),.int .i64 n] Q H:=by
 have hT0:=hT
 have hlt0:=hT.lt
 obtain ⟨a,l,c,F',rfl,h1,hB,hO,hw⟩:=hT
 have hc1:ac H ⟨b,1,none⟩=some (.slice a l c):=hB.cell 1
 have hl:l=t.texts.length:=by have:=hO.len;simpa [aO] using this.symm
 have hm1:=hw.m1
 have hlen:=hw.len
 have hs1:aF PP 37=some (1,16,some (.string (⟨#[]⟩:ByteArray))):=by kernel_rfl
 apply Ag
 unfold PQ A0 iV wW sV lV
 unfold TB.back at h
 simp only [ae,Option.isNone_some,cond_false]
 refine bL (fun h2=>?_) fun h2=>?_
 ·rw [if_pos (.inl h2)] at h;exact h H _ hT0 (Up.refl _ _)
 refine ⟨_,rfl,_,_,_,hc1,bL (fun h3=>?_) fun h3=>?_⟩
 ·rw [if_pos (by omega)] at h;exact h H _ hT0 (Up.refl _ _)
 rw [if_neg (by omega)] at h
 refine ⟨fun w H'=>∃(i:Nat) (a:Option Addr) (l' c:Nat) (G:ay),w=[.slice a l' c,.int .i64 i]∧(i:Int)<=n∧bv 1 H' a l' c (aO (t.texts.take i)) G∧Fr [] H H'∧(∀ x∈G,H.size<=x),fun w _=>match w with
  | [_,.int _ i]=>(n-i).toNat
  | _=>0,⟨0,none,0,0,[],rfl,by omega,by simpa [aO] using bv.nil 1 H,Fr.refl _ _,by simp⟩,?_⟩
 rintro w H1 ⟨i,a1,l1,c1,G,rfl,hi,ho,hf,hG⟩ _
 have hB1:=hB.fr hf (by simp)
 have hc11:ac H1 ⟨b,1,none⟩=some (.slice a l c):=hB1.cell 1
 have hl1:l1=i:=by have:=ho.len;simp only [aO,List.length_map,List.length_take] at this;omega
 refine ⟨_,_,_,_,rfl,bL (fun hlt=>?_) fun hlt=>?_⟩
 ·obtain ⟨p,hlt2,rfl,hcell⟩:=(hO.fr hf (by simp)).rd.str (i:=(i:Int)) (by omega) (by omega)
  simp only [Int.toNat_natCast] at hcell hlt2
  have htk:t.texts.take (i+1)=t.texts.take i++[t.texts[i]]:=by rw [List.take_add_one];simp [hlt2]
  have e:IntKind.wrap .i64 ((i:Int)+1)=((i+1:Nat):Int):=by rw [am (by omega) (by omega)];omega
  refine ⟨_,rfl,_,_,_,hc11,⟨by omega,by omega⟩,_,rfl,_,by rw [Int.toNat_natCast,Nat.mul_one];exact hcell,?_⟩
  refine bg hs1 rfl (by kernel_rfl) ho rfl (by simp [cC]) (by omega) (by decide) (by decide) fun a' c' G2 H2 g1 g2 g3=>⟨_,_,_,rfl,?_⟩
  have hfr:=Up.fresh hf g2 hG
  rw [e]
  refine ⟨⟨i+1,a',l1+1,c',G2,rfl,by omega,?_,hfr.1,hfr.2⟩,by simp;omega⟩
  rw [htk,ce];exact g1
 ·have hin:i=n.toNat:=by omega
  have hbG:b∉G:=fun hx=>by have:=hG b hx;have:=hlt0 b (by simp);omega
  refine ⟨_,rfl,hB1.wr (by simp),h _ (b :: G) ⟨a1,l1,c1,G,rfl,hbG,hB1.set 1 (.slice a1 l1 c1),?_,?_⟩ ⟨(hf.of_nil).step (by simp),fun x hx=>?_⟩⟩
  ·rw [hin] at ho
   exact ho.fr (G:=[b]) (Fr.set (by simp)) (fun x hx hn=>hbG (by simp only [List.mem_singleton] at hn;rw [←hn];exact hx))
  ·exact { hw with len:=by simp;omega,nodup:=hw.nodup.sublist (List.take_sublist _ _),good:=fun s hs=>hw.good s (List.mem_of_mem_take hs) }
  ·rcases List.mem_cons.1 hx with rfl | hx
   ·exact .inl (by simp)
   ·exact .inr (hG x hx)
end
noncomputable instance memDec (s:ByteArray) (l:List ByteArray):Decidable (s∈l):=Classical.propDecidable _
theorem j0 {es:List (Key × Value)}{k:Key}:d7 es k=none↔k∉es.map (·.1):=by
 induction es with
 | nil=>simp [d7]
 | cons p l ih =>
  unfold d7
  by_cases h:k=p.1
  ·simp [h]
  ·rw [if_neg h,ih]
   simp [h]
theorem xi {es:List (Key × Value)} (hnd:(es.map (·.1)).Nodup) (k k':Key):d7 (oI es k) k'=if k'=k then none else d7 es k':=by
 induction es with
 | nil=>simp [oI,d7]
 | cons p l ih =>
  rw [List.map_cons,List.nodup_cons] at hnd
  unfold oI
  by_cases h:k=p.1
  ·rw [if_pos h]
   by_cases h2:k'=k
   ·rw [if_pos h2]
    rw [j0,h2,h];exact hnd.1
   ·rw [if_neg h2]
    have:k'≠p.1:=fun e=>h2 (e.trans h.symm)
    conv=>rhs;unfold d7
    rw [if_neg this]
  ·rw [if_neg h]
   unfold d7
   by_cases h3:k'=p.1
   ·rw [if_pos h3,if_pos h3,if_neg (fun e=>h (e.symm.trans h3))]
   ·rw [if_neg h3,if_neg h3];exact ih hnd.2
theorem xE (es:List (Key × Value)) (k:Key):(oI es k).Sublist es:=by
 induction es with
 | nil=>exact List.Sublist.refl _
 | cons p l ih =>
  unfold oI
  split
  ·exact List.sublist_cons_self _ _
  ·exact ih.cons_cons _
def mS (H:aj) (b:Nat) (F:ay) (t:TB):Prop:=∃ a l c F' m es,F=b :: m :: F'∧b∉F'∧b≠m∧m∉F'∧bA H b #[.int .i64 t.most,.slice a l c,.map (some m)]∧bv 1 H a l c (aO t.texts) F'∧dQ H m es ∧
 (∀ p∈es,p.1.of .string)∧(∀ s,d7 es (.str s)=(bV t.texts s).map fun n:Nat=>.int .i64 n)∧WFT t∧(es.map (·.1)).Nodup
section
variable {H:aj}{b:Nat}{F F':ay}{t:TB}{Q:QT}
theorem mS.wf (h:mS H b F t):WFT t:=by obtain ⟨_,_,_,_,_,_,_,_,_,_,_,_,_,_,_,h,_⟩:=h;exact h
theorem mS.lt (h:mS H b F t):∀ x∈F,x<H.size:=by
 obtain ⟨a,l,c,F',m,es,rfl,h1,h2,h3,hB,hO,hM,_⟩:=h
 intro x hx
 rcases List.mem_cons.1 hx with rfl | hx
 ·exact hB.lt
 ·rcases List.mem_cons.1 hx with rfl | hx
  ·exact hM.lt
  ·exact hO.lt x hx
theorem mS.fr {H':aj}{G:ay} (h:mS H b F t) (hf:Fr G H H') (hd:bi F G):mS H' b F t:=by
 obtain ⟨a,l,c,F',m,es,rfl,h1,h2,h3,hB,hO,hM,h4⟩:=h
 exact ⟨a,l,c,F',m,es,rfl,h1,h2,h3,hB.fr hf (hd b (by simp)),hO.fr hf fun x hx=>hd x (by simp [hx]),hM.fr hf (hd m (by simp)),h4⟩
theorem kY (hT:mS H b F t) (h:Q (.bool false) H):ah PP Ie #[.pointer (some ⟨b,0,none⟩)] Q H:=by
 obtain ⟨a,l,c,F',m,es,rfl,h1,h2,h3,hB,_⟩:=hT
 have hc2:ac H ⟨b,2,none⟩=some (.map (some m)):=hB.cell 2
 apply CR
 unfold Nr
 simp only [Option.isNone_some,cond_false]
 exact ⟨_,rfl,_,hc2,h⟩
theorem Ds {n:Int} (hbad:¬ (0<=n∧n<=4096)->Q (.tuple #[.pointer none,.int .i64 1]) H) (h:(0<=n∧n<=4096)->∀ b F H',mS H' b F ⟨n,[]⟩->Fr [] H H'->(∀ x∈F,H.size<=x)->Q (.tuple #[.pointer (some ⟨b,0,none⟩),.int .i64 0]) H'):ah PP NF #[.int .i64 n] Q H:=by
 apply IA
 unfold Rg iV pV lV
 simp only [ae]
 refine bL (fun h1=>hbad (by omega)) fun h1=>bL (fun h2=>hbad (by omega)) fun h2=>?_
 refine h (by omega) _ _ _ ⟨none,0,0,[],H.size,[],rfl,by simp,by simp,by simp,bA.new _ _ _,bv.nil 1 _,dQ.fr (H:=H.push (.map #[] 0)) (G:=[]) (dQ.new H) (Fr.push [] _ _) (by simp),by simp,fun s=>by simp [d7,bV],?_,by simp⟩ ((Fr.push [] H _).more) (by simp)
 exact ⟨by simp;omega,by simp;omega,by simp;omega,by simp,by simp⟩
theorem oK (hT:mS H b F t):∃ a l c m es,ac H ⟨b,0,none⟩=some (.int .i64 t.most)∧ac H ⟨b,1,none⟩=some (.slice a l c)∧ac H ⟨b,2,none⟩=some (.map (some m))∧dQ H m es∧(∀ p∈es,p.1.of .string)∧(∀ s,d7 es (.str s)=(bV t.texts s).map fun n:Nat=>.int .i64 n)∧Rd 1 H a l (aO t.texts)∧l=t.texts.length:=by
 obtain ⟨a,l,c,F',m,es,rfl,h1,h2,h3,hB,hO,hM,h4,h5,h6⟩:=hT
 exact ⟨a,l,c,m,es,hB.cell 0,hB.cell 1,hB.cell 2,hM,h4,h5,hO.rd,by have:=hO.len;simpa [aO] using this.symm⟩
def qG (t:TB) (s:ByteArray):Value:=match bV t.texts s with
 | some n=>.tuple #[.int .i64 (n:Int),.bool true]
 | none=>.tuple #[.int .i64 0,.bool false]
theorem zv (hT:mS H b F t){s:ByteArray} (h:Q (qG t s) H):ah PP Ik #[.pointer (some ⟨b,0,none⟩),.string s] Q H:=by
 have hmi:eS PP 217=some (.string,some (.int .i64 0)):=by kernel_rfl
 obtain ⟨a,l,c,m,es,hc0,hc1,hc2,hM,ho,hg,_,_⟩:=oK hT
 apply Da
 unfold NC iV pV sV
 refine kY hT ⟨_,rfl,?_⟩
 simp only [cond_false]
 refine ⟨_,rfl,_,hc2,?_⟩
 refine kq (k:=.str s) hmi trivial ho hM ?_
 unfold qG at h
 rw [hg s]
 cases hn:bV t.texts s with
 | some n=>rw [hn] at h;exact ⟨_,_,rfl,h⟩
 | none=>rw [hn] at h;exact ⟨_,_,rfl,h⟩
theorem wj (hT:mS H b F t) (h:Q (.int .i64 (t.texts.length:Int)) H):ah PP Hl #[.pointer (some ⟨b,0,none⟩)] Q H:=by
 obtain ⟨a,l,c,m,es,hc0,hc1,hc2,hM,ho,hg,_,hl⟩:=oK hT
 apply Ck
 unfold MS iV pV lV
 refine kY hT ⟨_,rfl,?_⟩
 simp only [cond_false]
 refine ⟨_,rfl,_,_,_,hc1,?_⟩
 rw [hl];exact h
theorem sE (hT:mS H b F t){n:Int} (h:Q (nP t n) H):ah PP IC #[.pointer (some ⟨b,0,none⟩),.int .i64 n] Q H:=by
 obtain ⟨a,l,c,m,es,hc0,hc1,hc2,hM,ho,hg,hrd,hl⟩:=oK hT
 apply Do
 unfold NO iV pV sV lV
 unfold nP at h
 refine kY hT ⟨_,rfl,?_⟩
 simp only [cond_false,ae]
 refine bL (fun h2=>?_) fun h2=>?_
 ·rw [dif_neg (by omega)] at h;exact h
 refine ⟨_,rfl,_,_,_,hc1,bL (fun h3=>?_) fun h3=>?_⟩
 ·rw [dif_neg (by omega)] at h;exact h
 ·rw [dif_pos (by omega)] at h
  obtain ⟨p,hlt2,rfl,hcell⟩:=hrd.str (i:=n) (by omega) (by omega)
  exact ⟨_,rfl,_,_,_,hc1,⟨by omega,by omega⟩,_,rfl,_,by rw [Nat.mul_one];exact hcell,h⟩
theorem mT (hT:mS H b F t){s:ByteArray} (h:∀ H' F',mS H' b F' (t.add s).2->Up F H F' H'->Q (.tuple #[.int .i64 (t.add s).1.1,.int .i64 (t.add s).1.2]) H'):ah PP Gj #[.pointer (some ⟨b,0,none⟩),.string s] Q H:=by
 have hT0:=hT
 have hlt0:=hT.lt
 have hwf:=ib hT.wf s
 have hmi:eS PP 217=some (.string,some (.int .i64 0)):=by kernel_rfl
 have hs1:aF PP 37=some (1,16,some (.string (⟨#[]⟩:ByteArray))):=by kernel_rfl
 obtain ⟨a,l,c,F',m,es,rfl,h1,h2,h3,hB,hO,hM,ho,hg,hw,hnd⟩:=hT
 have hc0:ac H ⟨b,0,none⟩=some (.int .i64 t.most):=hB.cell 0
 have hc1:ac H ⟨b,1,none⟩=some (.slice a l c):=hB.cell 1
 have hc2:ac H ⟨b,2,none⟩=some (.map (some m)):=hB.cell 2
 have hl:l=t.texts.length:=by have:=hO.len;simpa [aO] using this.symm
 have hm1:=hw.m1
 have hlen:=hw.len
 apply By
 unfold Nq A0 iV pV sV lV
 refine kY hT0 ⟨_,rfl,?_⟩
 simp only [cond_false,ae]
 unfold TB.add at h hwf
 refine bL (fun g1=>?_) fun g1=>bL (fun g2=>?_) fun g2=>?_
 ·rw [if_pos (by unfold cy;omega)] at h;exact h H _ hT0 (Up.refl _ _)
 ·rw [if_pos (by unfold cy;omega)] at h;exact h H _ hT0 (Up.refl _ _)
 have hgd:¬ ¬ cy s:=by unfold cy;omega
 rw [if_neg hgd] at h hwf
 refine ⟨_,rfl,_,hc2,?_⟩
 refine kq (k:=.str s) hmi trivial ho hM ?_
 rw [hg s]
 cases hn:bV t.texts s with
 | some n =>
  rw [hn] at h
  refine ⟨_,_,rfl,?_⟩
  exact h H _ hT0 (Up.refl _ _)
 | none =>
  rw [hn] at h hwf
  simp only at h hwf
  refine ⟨_,_,rfl,?_⟩
  simp only [Option.map_none,Option.isSome_none,cond_false]
  refine ⟨_,rfl,_,_,_,hc1,_,rfl,_,hc0,bL (fun g3=>?_) fun g3=>?_⟩
  ·rw [if_pos (by omega)] at h;exact h H _ hT0 (Up.refl _ _)
  ·rw [if_neg (by omega)] at h hwf
   refine ⟨_,rfl,_,_,_,hc1,?_⟩
   refine bg hs1 rfl (by kernel_rfl) hO rfl (by simp [cC]) (by omega) (by decide) (by decide) fun a' c' F3 H2 k1 k2 k3=>⟨_,_,_,rfl,?_⟩
   have hbF3:b∉F3:=fun hx=>by
    rcases k2.2 b hx with h4 | h4
    ·exact h1 h4
    ·have:=hlt0 b (by simp);omega
   have hmF3:m∉F3:=fun hx=>by
    rcases k2.2 m hx with h4 | h4
    ·exact h3 h4
    ·have:=hlt0 m (by simp);omega
   have hB2:=hB.fr k2.1 h1
   have hBs:=hB2.set 1 (.slice a' (l+1) c')
   have hMs:=(hM.fr k2.1 h3).of_eq (H':=au H2 ⟨b,1,none⟩ (.slice a' (l+1) c')) (dI (Ne.symm h2))
   refine ⟨_,rfl,hB2.wr (by simp),_,rfl,_,hBs.cell 2,?_⟩
   refine jV (k:=.str s) hmi trivial ho hMs fun H4 hM4 hf4=>?_
   rw [hl]
   have hfb:Fr [b] H2 (au H2 ⟨b,1,none⟩ (.slice a' (l+1) c')):=Fr.set (by simp)
   refine h H4 (b :: m :: F3) ⟨a',l+1,c',F3,m,_,rfl,hbF3,h2,hmF3,hBs.fr hf4 (by simpa using h2),?_,hM4,?_,fun x=>?_,hwf,?_⟩ ⟨?_,fun x hx=>?_⟩
   ·have h5:=(k1.fr hfb (fun x hx hn=>hbF3 (by simp only [List.mem_singleton] at hn;rw [←hn];exact hx))).fr hf4 (fun x hx hn=>hmF3 (by simp only [List.mem_singleton] at hn;rw [←hn];exact hx))
    simp only
    rw [ce];exact h5
   ·intro p hp
    have:∀ (es:List (Key × Value)),(∀ p∈es,p.1.of .string)->∀ p∈lU es (.str s) (.int .i64 (t.texts.length:Int)),p.1.of .string:=by
     intro es
     induction es with
     | nil=>intro _ p hp;simp [lU] at hp;subst hp;trivial
     | cons q es ih =>
      intro hes p hp
      unfold lU at hp
      split at hp
      ·rcases List.mem_cons.1 hp with rfl | hp
       ·trivial
       ·exact hes p (by simp [hp])
      ·rcases List.mem_cons.1 hp with rfl | hp
       ·exact hes _ (by simp)
       ·exact ih (fun p hp=>hes p (by simp [hp])) p hp
    rw [hl] at hp
    exact this es ho p hp
   ·rw [xx,hg x,ri]
    by_cases hx:x=s
    ·subst hx
     rw [hn];simp [hl]
    ·rw [if_neg (by simpa using hx)]
     cases bV t.texts x with
     | some n=>rfl
     | none=>simp only;rw [if_neg (fun e:s=x=>hx e.symm)]
   ·have hgn:d7 es (.str s)=none:=by rw [hg s,hn];rfl
    rw [mm (fU.2 hgn),List.map_append,List.nodup_append]
    refine ⟨hnd,by simp,fun x hx y hy hxy=>?_⟩
    simp only [List.map_cons,List.map_nil,List.mem_singleton] at hy
    subst hy
    subst hxy
    exact (j0.1 hgn) hx
   ·exact ((k2.1.mono fun x hx=>by simp [hx]).step (by simp)).trans (hf4.mono fun x hx=>by simp only [List.mem_singleton] at hx;simp [hx])
   ·rcases List.mem_cons.1 hx with rfl | hx
    ·exact .inl (by simp)
    ·rcases List.mem_cons.1 hx with rfl | hx
     ·exact .inl (by simp)
     ·exact (k2.2 x hx).imp (fun h4=>by simp [h4]) id
theorem ub {l:List ByteArray} (hnd:l.Nodup) (n:Nat) (s:ByteArray):bV (l.take n) s=if s∈l.drop n then none else bV l s:=by
 induction l generalizing n with
 | nil=>simp [bV]
 | cons x l ih =>
  rw [List.nodup_cons] at hnd
  cases n with
  | zero =>
   simp only [List.take_zero,List.drop_zero,bV]
   by_cases h:s∈x :: l
   ·rw [if_pos h]
   ·rw [if_neg h]
    have h1:x≠s:=fun e=>h (by simp [e])
    have h2:bV l s=none:=iF.2 fun hm=>h (by simp [hm])
    rw [if_neg h1,h2];rfl
  | succ n =>
   simp only [List.take_succ_cons,List.drop_succ_cons,bV]
   by_cases h1:x=s
   ·subst h1
    have:x∉l.drop n:=fun hm=>hnd.1 (List.mem_of_mem_drop hm)
    simp [this]
   ·rw [if_neg h1,if_neg h1,ih hnd.2]
    split <;> rfl
theorem y8 (hT:mS H b F t){n:Int} (h:∀ H',mS H' b F (TB.back t n).2->Fr F H H'->Q (.int .i64 (TB.back t n).1) H'):ah PP Kt #[.pointer (some ⟨b,0,none⟩),.int .i64 n] Q H:=by
 have hT0:=hT
 have hlt0:=hT.lt
 have hmi:eS PP 217=some (.string,some (.int .i64 0)):=by kernel_rfl
 obtain ⟨a,l,c,F',m,es,rfl,h1,h2,h3,hB,hO,hM,ho,hg,hw,hnd⟩:=hT
 have hc1:ac H ⟨b,1,none⟩=some (.slice a l c):=hB.cell 1
 have hl:l=t.texts.length:=by have:=hO.len;simpa [aO] using this.symm
 have hm1:=hw.m1
 have hlen:=hw.len
 have hlc:=hO.2.1
 apply DY
 unfold Pj iV wW pV sV lV
 unfold TB.back at h
 refine kY hT0 ⟨_,rfl,?_⟩
 simp only [cond_false,ae]
 refine aA (fun g1=>?_) fun g1=>?_
 ·rw [if_pos (.inl g1)] at h;exact h H hT0 (Fr.refl _ _)
 refine ⟨_,rfl,_,_,_,by rw [ao];exact hc1,aA (fun g2=>?_) fun g2=>?_⟩
 ·rw [if_pos (by omega)] at h;exact h H hT0 (Fr.refl _ _)
 rw [if_neg (by omega)] at h
 have e1:IntKind.wrap .i64 ((l:Int)-n)=(l:Int)-n:=am (by omega) (by omega)
 refine ⟨_,rfl,_,_,_,by rw [ao];exact hc1,?_⟩
 rw [e1]
 refine ⟨fun w H'=>∃(i:Nat) (es':List (Key × Value)),w=[.int .i64 i]∧(i:Int)<=(l:Int)-n∧Fr [m] H H'∧dQ H' m es'∧es'.Sublist es∧∀ s,d7 es' (.str s)=if s∈(t.texts.drop n.toNat).take i then none else d7 es (.str s),fun w _=>match w with
  | [.int _ i]=>((l:Int)-n-i).toNat
  | _=>0,⟨0,es,rfl,by omega,Fr.refl _ _,hM,List.Sublist.refl _,by simp⟩,?_⟩
 rintro w H1 ⟨i,es',rfl,hi,hf,hM1,hsub,hg1⟩ _
 have hB1:=hB.fr hf (by simpa using h2)
 have hO1:=hO.fr hf (fun x hx hm=>h3 (by simp only [List.mem_singleton] at hm;rw [←hm];exact hx))
 refine ⟨_,rfl,aA (fun g3=>?_) fun g3=>?_⟩
 ·have e2:IntKind.wrap .i64 (n+(i:Int))=n+i:=am (by omega) (by omega)
  have e3:IntKind.wrap .i64 ((i:Int)+1)=((i+1:Nat):Int):=by rw [am (by omega) (by omega)];omega
  rw [e2,e3]
  obtain ⟨p,hlt2,rfl,hcell⟩:=hO1.rd.str (i:=n+(i:Int)) (by omega) (by omega)
  refine ⟨_,rfl,_,by rw [ao];exact hB1.cell 2,_,rfl,_,_,_,by rw [ao];exact hB1.cell 1,⟨by omega,by omega⟩,_,rfl,_,by rw [Nat.mul_one];exact hcell,?_⟩
  have hnd1:(es'.map (·.1)).Nodup:=hnd.sublist (hsub.map _)
  refine t8 (k:=.str t.texts[(n+(i:Int)).toNat]) hmi trivial (fun p hp=>ho p (hsub.subset hp)) hM1 fun H2 hM2 hf2=>⟨trivial,⟨i+1,_,rfl,by omega,hf.trans hf2,hM2,(xE _ _).trans hsub,fun s=>?_⟩,by simp;omega⟩
  have hdl:i<(t.texts.drop n.toNat).length:=by rw [List.length_drop];omega
  have htk:(t.texts.drop n.toNat).take (i+1)=(t.texts.drop n.toNat).take i++[t.texts[(n+(i:Int)).toNat]]:=by
   rw [List.take_succ_eq_append_getElem hdl,List.getElem_drop]
   congr 3;omega
  rw [xi hnd1,hg1,htk]
  by_cases hs:s=t.texts[(n+(i:Int)).toNat]
  ·rw [if_pos (by rw [hs]),if_pos (by rw [hs];simp)]
  ·rw [if_neg (by simpa using hs)]
   simp only [List.mem_append,List.mem_singleton,hs,or_false]
 ·have hin:(i:Int)=(l:Int)-n:=by omega
  have htk:(t.texts.drop n.toNat).take i=t.texts.drop n.toNat:=List.take_of_length_le (by rw [List.length_drop];omega)
  rw [htk] at hg1
  refine ⟨_,rfl,_,_,_,by rw [ao];exact hB1.cell 1,⟨by omega,by omega⟩,_,rfl,by rw [ao];exact hB1.wr (by simp),?_⟩
  rw [ao]
  have hfb:Fr [b] H1 (au H1 ⟨b,1,none⟩ (.slice a n.toNat c)):=Fr.set (by simp)
  refine h _ ⟨a,n.toNat,c,F',m,es',rfl,h1,h2,h3,hB1.set 1 _,?_,hM1.fr hfb (by simpa using Ne.symm h2),fun p hp=>ho p (hsub.subset hp),fun s=>?_,?_,hnd.sublist (hsub.map _)⟩ ((hf.mono fun x hx=>by simp only [List.mem_singleton] at hx;simp [hx]).trans (hfb.mono fun x hx=>by simp only [List.mem_singleton] at hx;simp [hx]))
  ·have h4:=hO1.fr hfb (fun x hx hm=>h1 (by simp only [List.mem_singleton] at hm;rw [←hm];exact hx))
   refine ⟨by simp [aO];omega,by omega,?_⟩
   rcases h4.2.2 with ⟨h6,h7,h8⟩ | ⟨b',cs,h6,h7,h8,h9,h10⟩
   ·exact .inl ⟨h6,h7,h8⟩
   ·refine .inr ⟨b',cs,h6,h7,h8,h9,?_⟩
    have h11:(cs.toList.take (l*1)).take (n.toNat*1)=(aO t.texts).take (n.toNat*1):=by rw [h10]
    rw [List.take_take] at h11
    have h12:min (n.toNat*1) (l*1)=n.toNat*1:=by omega
    rw [h12] at h11
    rw [h11]
    simp [aO,List.map_take]
  ·rw [hg1 s,ub hw.nodup,hg s]
   split <;> rfl
  ·exact { hw with len:=by simp;omega,nodup:=hw.nodup.sublist (List.take_sublist _ _),good:=fun s hs=>hw.good s (List.mem_of_mem_take hs) }
end
variable {Q:QT}{H:aj}
abbrev Ea:Nat:=10
def RJ (n1:Int) (n2:Int) (Q:QT) (H:aj):Prop :=
 ah PP 46 #[iV n1,iV n2] (fun v3 H1=>∃ p4 n5,v3=.tuple #[pV p4,iV n5]∧cond (n5 != 0) (Q (.tuple #[pV none,iV n5]) H1) (cS 47 #[iV 4096] (fun v6 H2=>∃ p7 n8,v6=.tuple #[pV p7,iV n8]∧cond (n8 != 0) (Q (.tuple #[pV none,iV n8]) H2) (cS 48 #[] (fun v9 H3=>∃ a10 l10 c10,v9=lV a10 l10 c10∧∃(I11:IT) (μ11:MT),I11 [lV (some (⟨(H2.push (.cells #[pV p4,pV p7] 90)).size,0,none⟩:Addr)) 3 3,iV 0] H3∧∀ w12 H4,I11 w12 H4->∀ _g:Nat->Value,∃ a13 l13 c13 n14,w12=[lV a13 l13 c13,iV n14]∧cond (decide (n14<(l10:Int))) (bk PP (Builtin.append_ #[92,92] 92 #[lV a13 l13 c13,lV (some (A0 H4.size)) 1 1]) (fun v15 H5=>∃ a16 l16 c16,v15=lV a16 l16 c16∧I11 [lV a16 l16 c16,iV (wW (n14+1))] H5∧μ11 [lV a16 l16 c16,iV (wW (n14+1))] H5<μ11 w12 H4) (H4.push (.cells #[iV 12,iV 7] 91))) (bk PP (Builtin.append_ #[92,92] 92 #[lV a13 l13 c13,lV (some (A0 H4.size)) 3 3]) (fun v17 H6=>∃ a18 l18 c18,v17=lV a18 l18 c18∧∃(I19:IT) (μ19:MT),I19 [iV 0] H6∧∀ w20 H7,I19 w20 H7->∀ _g:Nat->Value,∃ n21,w20=[iV n21]∧cond (decide (n21<(l18:Int))) (((0:Int)<=n21∧n21<(l18:Int))∧∃ q22,a18=some q22∧∃ n23:Int,shH (au (H7.push (.cells #[iV 0,iV 0] 91)) (A0 H7.size) (iV n23)) fun C2=>ac H7 (q22.add (Int.toNat n21*2))=some (iV n23)∧∃ n24:Int,shH (au C2 ((A0 H7.size).add 1) (iV n24)) fun C1=>ac H7 ((q22.add (Int.toNat n21*2)).add 1)=some (iV n24)∧Wr (H7.push (.cells #[iV 0,iV 0] 91)) (A0 H7.size)∧Wr C2 ((A0 H7.size).add 1)∧∃ n25,ac C1 (A0 H7.size)=some (iV n25)∧∃ n26,ac C1 ((A0 H7.size).add 1)=some (iV n26)∧cS 20 #[pV p4] (fun v27 H8=>∃ p28,v27=pV p28∧((ac H8 ((A0 H7.size).add 1)=some (iV n26)∧True)∧((ac H8 (A0 H7.size)=some (iV n25)∧True)∧True))∧cS 50 #[iV n25] (fun v29 H9=>∃ n30,v29=iV n30∧((ac H9 ((A0 H7.size).add 1)=some (iV n26)∧True)∧True)∧cS 49 #[pV p28,iV n30,iV n26,iV 0] (fun v31 H10=>∃ n32 n33,v31=.tuple #[iV n32,iV n33]∧True∧cond (n33 != 0) (Q (.tuple #[pV none,iV n33]) H10) (cS 50 #[iV n32] (fun v34 H11=>∃ n35,v34=iV n35∧cS 51 #[pV p4,lV (some (A0 H11.size)) 1 1] (fun v36 H12=>∃ n37,v36=iV n37∧cond (n37 != 0) (Q (.tuple #[pV none,iV n37]) H12) (I19 [iV (wW (n21+1))] H12∧μ19 [iV (wW (n21+1))] H12<μ19 w20 H7)) (H11.push (.cells #[iV n35] 36))) H10)) H9) H8) C1) (cS 52 #[pV (some (A0 H2.size))] (fun v38 H13=>v38=.tuple #[]∧cS 53 #[pV p4,iV 19] (fun v39 H14=>∃ n40,v39=iV n40∧cS 54 #[pV p4,iV (l18:Int)] (fun v41 H15=>∃ n42,v41=iV n42∧Q (.tuple #[pV (some (A0 H2.size)),iV 0]) H15) H14) H13) H7)) (H4.push (.cells #[iV 11,iV 0,iV 11,iV 8,iV 11,iV 14] 91)))) ((H2.push (.cells #[pV p4,pV p7] 90)).push (.cells #[iV 5,iV 0,iV 6,iV 0,iV 7,iV 0] 91)))) H1)) H
theorem EB {n1:Int}{n2:Int} (h:RJ n1 n2 Q H):ah PP 10 #[.int .i64 n1,.int .i64 n2] Q H :=
 aN good Tryz.func10 rfl (Ls:=fun | 10=>some [(10,92),(41,3)] | 15=>some [(56,3)] | _=>none) (by kernel_rfl) h
abbrev Mv:Nat:=17
def QS (p1:Option Addr) (s2:ByteArray) (s3:ByteArray) (a4:Option Addr) (l4:Nat) (c4:Nat) (Q:QT) (H:aj):Prop :=
 ah PP 73 #[pV p1] (fun v5 H1=>∃ b6,v5=.bool b6∧cond (!b6) (Q (.tuple #[iV 0,iV 2]) H1) (cS 87 #[pV p1,sV s2,sV s3,lV a4 l4 c4] (fun v7 H2=>∃ n8 n9,v7=.tuple #[iV n8,iV n9]∧cond (n9 != 0) (Q (.tuple #[iV 0,iV n9]) H2) (cS 88 #[pV p1] (fun v10 H3=>∃ p11,v10=pV p11∧cS 89 #[pV p11,sV s2,iV n8,lV a4 l4 c4] (fun v12 H4=>∃ n13 n14,v12=.tuple #[iV n13,iV n14]∧cS 90 #[pV p11,iV n14] (fun v15 H5=>∃ n16,v15=iV n16∧cond (n16 != 0) (Q (.tuple #[iV 0,iV n16]) H5) (Q (.tuple #[iV n13,iV 0]) H5)) H4) H3) H2)) H1)) H
theorem GK {p1:Option Addr}{s2:ByteArray}{s3:ByteArray}{a4:Option Addr}{l4:Nat}{c4:Nat} (h:QS p1 s2 s3 a4 l4 c4 Q H):ah PP 17 #[.pointer p1,.string s2,.string s3,.slice a4 l4 c4] Q H :=
 okF Tryz.func17 rfl h
abbrev NY:Nat:=18
def Rl (p1:Option Addr) (s2:ByteArray) (Q:QT) (H:aj):Prop :=
 ah PP 73 #[pV p1] (fun v3 H1=>∃ b4,v3=.bool b4∧cond (!b4) (Q (iV 2) H1) (cS 91 #[sV s2,.int .u8 65,.int .u8 90] (fun v5 H2=>∃ b6,v5=.bool b6∧cond (!b6) (Q (iV 133) H2) (cS 92 #[pV p1,sV s2] (fun v7 H3=>∃ b8,v7=.bool b8∧cond b8 (Q (iV 131) H3) (cS 71 #[pV p1] (fun v9 H4=>∃ a10 l10 c10,v9=lV a10 l10 c10∧cond (decide ((l10:Int) ≥ 256)) (Q (iV 138) H4) (cS 88 #[pV p1] (fun v11 H5=>∃ p12,v11=pV p12∧cS 93 #[pV p12,sV s2] (fun v13 H6=>∃ n14 n15,v13=.tuple #[iV n14,iV n15]∧cond (n15 == 0) (∃ q16,p12=some q16∧∃ p17,ac H6 q16=some (pV p17)∧∃ q18,p12=some q18∧∃ p19,ac H6 q18=some (pV p19)∧cS 74 #[.agg #[pV p19],iV 1] (fun v20 H7=>∃ n21,v20=iV n21∧((ac H7 q16=some (pV p17)∧True)∧True)∧cS 95 #[.agg #[pV p17],iV n21] (fun v22 H8=>∃ a23 l23 c23,v22=lV a23 l23 c23∧True∧cS 50 #[iV 1] (fun v24 H9=>∃ n25,v24=iV n25∧True∧True∧bk PP (Builtin.append_ #[108,108] 108 #[lV a23 l23 c23,lV (some (A0 H9.size)) 2 2]) (fun v26 H10=>∃ a27 l27 c27,v26=lV a27 l27 c27∧True∧cS 94 #[pV p12,lV a27 l27 c27] (fun v28 H11=>∃ n29 n30,v28=.tuple #[iV n29,iV n30]∧True∧cond (n30 == 0) (∃ q31,p12=some q31∧∃ p32,ac H11 q31=some (pV p32)∧∃ q33,p32=some q33∧∃ p34,ac H11 q33=some (pV p34)∧cS 96 #[pV p34,iV 1,iV n29] (fun v35 H12=>∃ n36,v35=iV n36∧cS 90 #[pV p12,iV n30] (fun v37 H13=>∃ n38,v37=iV n38∧Q (iV n38) H13) H12) H11) (cS 90 #[pV p12,iV n30] (fun v39 H14=>∃ n40,v39=iV n40∧Q (iV n40) H14) H11)) H10) (H9.push (.cells #[iV n14,iV n25] 36))) H8) H7) H6) (cS 90 #[pV p12,iV n15] (fun v41 H15=>∃ n42,v41=iV n42∧Q (iV n42) H15) H6)) H5) H4)) H3)) H2)) H1)) H
theorem IY {p1:Option Addr}{s2:ByteArray} (h:Rl p1 s2 Q H):ah PP 18 #[.pointer p1,.string s2] Q H :=
 okF Tryz.func18 rfl h
abbrev Ed:Nat:=19
def QE (p1:Option Addr) (Q:QT) (H:aj):Prop :=
 cond (Option.isNone p1) (Q (pV none) H) (∃ q2,p1=some q2∧∃ p3,ac H q2=some (pV p3)∧Q (pV p3) H)
theorem xW {p1:Option Addr} (h:QE p1 Q H):ah PP 19 #[.pointer p1] Q H :=
 okF Tryz.func19 rfl h
abbrev MV:Nat:=26
def QZ (p1:Option Addr) (Q:QT) (H:aj):Prop :=
 cond (Option.isNone p1) (Q (pV none) H) (∃ q2,p1=some q2∧∃ p3,ac H (q2.add 1)=some (pV p3)∧Q (pV p3) H)
theorem Hy {p1:Option Addr} (h:QZ p1 Q H):ah PP 26 #[.pointer p1] Q H :=
 okF Tryz.func26 rfl h
abbrev Pm:Nat:=52
def Ru (p1:Option Addr) (Q:QT) (H:aj):Prop :=
 ∃ q2,p1=some q2∧∃ p3,ac H q2=some (pV p3)∧cS 20 #[pV p3] (fun v4 H1=>∃ p5,v4=pV p5∧cS 48 #[] (fun v6 H2=>∃ a7 l7 c7,v6=lV a7 l7 c7∧∃(I8:IT) (μ8:MT),I8 [iV 0] H2∧∀ w9 H3,I8 w9 H3->∀ _g:Nat->Value,∃ n10,w9=[iV n10]∧cond (decide (n10<(l7:Int))) (((0:Int)<=n10∧n10<(l7:Int))∧∃ q11,a7=some q11∧∃ s12,ac H3 (q11.add (Int.toNat n10*1))=some (sV s12)∧∃ q13,p1=some q13∧∃ p14,ac H3 (q13.add 1)=some (pV p14)∧cS 131 #[pV p14,sV s12] (fun v15 H4=>∃ n16 n17,v15=.tuple #[iV n16,iV n17]∧cS 143 #[iV n16] (fun v18 H5=>∃ n19 n20,v18=.tuple #[iV n19,iV n20]∧cS 50 #[iV 4] (fun v21 H6=>∃ n22,v21=iV n22∧∃ J23:IT,(cond (n10 == 0) (cS 50 #[iV 1] (fun v24 H7=>∃ n25,v24=iV n25∧J23 [iV n25] H7) H6) (J23 [iV n22] H6))∧∀ w26 H8,J23 w26 H8->∀ _g:Nat->Value,∃ n27,w26=[iV n27]∧cS 50 #[iV 18] (fun v28 H9=>∃ n29,v28=iV n29∧cS 50 #[iV 18] (fun v30 H10=>∃ n31,v30=iV n31∧cS 50 #[iV 18] (fun v32 H11=>∃ n33,v32=iV n33∧cS 166 #[iV 0] (fun v34 H12=>∃ n35,v34=iV n35∧cS 166 #[iV (wW (n10+1))] (fun v36 H13=>∃ n37,v36=iV n37∧∃(I38:IT) (μ38:MT),I38 [iV 0] (H13.push (.cells #[iV n19,iV n27,iV n29,iV n31,iV n33,iV n35,iV n37] 36))∧∀ w39 H14,I38 w39 H14->∀ _g:Nat->Value,∃ n40,w39=[iV n40]∧cond (decide (n40<(7:Int))) (((0:Int)<=n40∧n40<(7:Int))∧∃ q41,(some (A0 H13.size))=some q41∧∃ n42,ac H14 (q41.add (Int.toNat n40*1))=some (iV n42)∧cS 140 #[pV p5,iV (wW (4+n10)),iV n40,iV n42] (fun v43 H15=>∃ n44,v43=iV n44∧I38 [iV (wW (n40+1))] H15∧μ38 [iV (wW (n40+1))] H15<μ38 w39 H14) H14) (cS 50 #[iV (wW (4+n10))] (fun v45 H16=>∃ n46,v45=iV n46∧cS 140 #[pV p5,iV 20,iV n10,iV n46] (fun v47 H17=>∃ n48,v47=iV n48∧I8 [iV (wW (n10+1))] H17∧μ8 [iV (wW (n10+1))] H17<μ8 w9 H3) H16) H14)) H12) H11) H10) H9) H8) H5) H4) H3) (∃(I49:IT) (μ49:MT),I49 [iV 0] (H3.push (.cells #[iV 20,iV 18,iV 18,iV 18,iV 1,iV 2,iV 3] 3))∧∀ w50 H18,I49 w50 H18->∀ _g:Nat->Value,∃ n51,w50=[iV n51]∧cond (decide (n51<(7:Int))) (((0:Int)<=n51∧n51<(7:Int))∧∃ q52,(some (A0 H3.size))=some q52∧∃ n53,ac H18 (q52.add (Int.toNat n51*1))=some (iV n53)∧cS 50 #[iV n53] (fun v54 H19=>∃ n55,v54=iV n55∧cS 140 #[pV p5,iV 19,iV n51,iV n55] (fun v56 H20=>∃ n57,v56=iV n57∧I49 [iV (wW (n51+1))] H20∧μ49 [iV (wW (n51+1))] H20<μ49 w50 H18) H19) H18) (Q (.tuple #[]) H18))) H1) H
theorem KB {p1:Option Addr} (h:Ru p1 Q H):ah PP 52 #[.pointer p1] Q H :=
 aN good Tryz.func52 rfl (Ls:=fun | 2=>some [(21,3)] | 1009=>some [(9,36)] | 10=>some [(55,3)] | 17=>some [(76,3)] | _=>none) (by kernel_rfl) h
abbrev Pw:Nat:=66
def QJ (p1:Option Addr) (s2:ByteArray) (Q:QT) (H:aj):Prop :=
 ah PP 73 #[pV p1] (fun v3 H1=>shH (au (H1.push (.cells #[pV none] 131)) (A0 H1.size) (pV p1)) fun C1=>∃ b4,v3=.bool b4∧cond (!b4) (Q (.tuple #[iV 0,iV 2]) H1) (Wr (H1.push (.cells #[pV none] 131)) (A0 H1.size)∧∃ p5,ac C1 (A0 H1.size)=some (pV p5)∧cS 74 #[.agg #[pV p5],iV 0] (fun v6 H2=>∃ n7,v6=iV n7∧∃ p8,ac H2 (A0 H1.size)=some (pV p8)∧cS 75 #[.agg #[pV p8],iV n7] (fun v9 H3=>∃ n10,v9=iV n10∧∃(I11:IT) (μ11:MT),I11 [iV 0] H3∧∀ w12 H4,I11 w12 H4->∀ _g:Nat->Value,∃ n13,w12=[iV n13]∧cond (decide (n13<n10)) (∃ p14,ac H4 (A0 H1.size)=some (pV p14)∧cS 76 #[.agg #[pV p14],iV n7,iV n13] (fun v15 H5=>∃ n16,v15=iV n16∧∃ p17,ac H5 (A0 H1.size)=some (pV p17)∧cS 176 #[.agg #[pV p17],iV n16,iV 0] (fun v18 H6=>∃ s19,v18=sV s19∧cond (cQ s19 s2) (Q (.tuple #[iV n16,iV 0]) H6) (I11 [iV (wW (n13+1))] H6∧μ11 [iV (wW (n13+1))] H6<μ11 w12 H4)) H5) H4) (Q (.tuple #[iV 0,iV 130]) H4)) H2) C1)) H
theorem KO {p1:Option Addr}{s2:ByteArray} (h:QJ p1 s2 Q H):ah PP 66 #[.pointer p1,.string s2] Q H :=
 aN good Tryz.func66 rfl (Ls:=fun | 6=>some [(20,3)] | _=>none) (by kernel_rfl) h
abbrev Nk:Nat:=68
def Q8 (p1:Option Addr) (n2:Int) (Q:QT) (H:aj):Prop :=
 ah PP 73 #[pV p1] (fun v3 H1=>shH (au (H1.push (.cells #[pV none] 131)) (A0 H1.size) (pV p1)) fun C1=>∃ b4,v3=.bool b4∧cond (!b4) (Q (.tuple #[iV 0,iV 2]) H1) (Wr (H1.push (.cells #[pV none] 131)) (A0 H1.size)∧∃ p5,ac C1 (A0 H1.size)=some (pV p5)∧cS 74 #[.agg #[pV p5],iV 1] (fun v6 H2=>∃ n7,v6=iV n7∧cond (decide (n2<0)) (Q (.tuple #[iV 0,iV 1]) H2) (∃ p8,ac H2 (A0 H1.size)=some (pV p8)∧cS 75 #[.agg #[pV p8],iV n7] (fun v9 H3=>∃ n10,v9=iV n10∧cond (decide (n2 ≥ (wW (Int.tdiv n10 2)))) (Q (.tuple #[iV 0,iV 1]) H3) (∃ p11,ac H3 (A0 H1.size)=some (pV p11)∧cS 181 #[.agg #[pV p11],iV n7,iV (wW ((wW (2*n2))+1))] (fun v12 H4=>∃ n13,v12=iV n13∧Q (.tuple #[iV n13,iV 0]) H4) H3)) H2)) C1)) H
theorem Ih {p1:Option Addr}{n2:Int} (h:Q8 p1 n2 Q H):ah PP 68 #[.pointer p1,.int .i64 n2] Q H :=
 okF Tryz.func68 rfl h
abbrev Nu:Nat:=69
def RF (p1:Option Addr) (n2:Int) (n3:Int) (Q:QT) (H:aj):Prop :=
 ah PP 68 #[pV p1,iV n2] (fun v4 H1=>∃ n5 n6,v4=.tuple #[iV n5,iV n6]∧cond (n6 != 0) (Q (iV n6) H1) (cS 165 #[iV n3] (fun v7 H2=>∃ n8,v7=iV n8∧cond (n8 == 0) (Q (iV 10) H2) (∃ q9,p1=some q9∧∃ p10,ac H2 q9=some (pV p10)∧cS 20 #[pV p10] (fun v11 H3=>∃ p12,v11=pV p12∧cS 74 #[.agg #[pV p1],iV 1] (fun v13 H4=>∃ n14,v13=iV n14∧cS 140 #[pV p12,iV n14,iV (wW ((wW (2*n2))+1)),iV n3] (fun v15 H5=>∃ n16,v15=iV n16∧Q (iV n16) H5) H4) H3) H2)) H1)) H
theorem Es {p1:Option Addr}{n2:Int}{n3:Int} (h:RF p1 n2 n3 Q H):ah PP 69 #[.pointer p1,.int .i64 n2,.int .i64 n3] Q H :=
 okF Tryz.func69 rfl h
abbrev Em:Nat:=70
def QQ (p1:Option Addr) (Q:QT) (H:aj):Prop :=
 ah PP 73 #[pV p1] (fun v2 H1=>shH (au (H1.push (.cells #[pV none] 131)) (A0 H1.size) (pV p1)) fun C1=>∃ b3,v2=.bool b3∧cond (!b3) (Q (iV 0) H1) (Wr (H1.push (.cells #[pV none] 131)) (A0 H1.size)∧∃ p4,ac C1 (A0 H1.size)=some (pV p4)∧∃ p5,ac C1 (A0 H1.size)=some (pV p5)∧cS 74 #[.agg #[pV p5],iV 0] (fun v6 H2=>∃ n7,v6=iV n7∧((ac H2 (A0 H1.size)=some (pV p4)∧True)∧True)∧cS 75 #[.agg #[pV p4],iV n7] (fun v8 H3=>∃ n9,v8=iV n9∧True∧Q (iV n9) H3) H2) C1)) H
theorem EC {p1:Option Addr} (h:QQ p1 Q H):ah PP 70 #[.pointer p1] Q H :=
 okF Tryz.func70 rfl h
abbrev Mq:Nat:=71
def Rh (p1:Option Addr) (Q:QT) (H:aj):Prop :=
 ah PP 73 #[pV p1] (fun v2 H1=>shH (au (H1.push (.cells #[pV none] 131)) (A0 H1.size) (pV p1)) fun C1=>∃ b3,v2=.bool b3∧cond (!b3) (Q (lV none 0 0) H1) (Wr (H1.push (.cells #[pV none] 131)) (A0 H1.size)∧∃ p4,ac C1 (A0 H1.size)=some (pV p4)∧cS 74 #[.agg #[pV p4],iV 1] (fun v5 H2=>∃ n6,v5=iV n6∧∃ p7,ac H2 (A0 H1.size)=some (pV p7)∧cS 75 #[.agg #[pV p7],iV n6] (fun v8 H3=>∃ n9,v8=iV n9∧∃(I10:IT) (μ10:MT),I10 [lV none 0 0,iV 0] H3∧∀ w11 H4,I10 w11 H4->∀ _g:Nat->Value,∃ a12 l12 c12 n13,w11=[lV a12 l12 c12,iV n13]∧cond (decide (n13<(wW (Int.tdiv n9 2)))) (∃ p14,ac H4 (A0 H1.size)=some (pV p14)∧cS 176 #[.agg #[pV p14],iV n6,iV (wW (2*n13))] (fun v15 H5=>∃ s16,v15=sV s16∧bk PP (Builtin.append_ #[37,37] 37 #[lV a12 l12 c12,lV (some (A0 H5.size)) 1 1]) (fun v17 H6=>∃ a18 l18 c18,v17=lV a18 l18 c18∧I10 [lV a18 l18 c18,iV (wW (n13+1))] H6∧μ10 [lV a18 l18 c18,iV (wW (n13+1))] H6<μ10 w11 H4) (H5.push (.cells #[sV s16] 9))) H4) (Q (lV a12 l12 c12) H4)) H2) C1)) H
theorem GE {p1:Option Addr} (h:Rh p1 Q H):ah PP 71 #[.pointer p1] Q H :=
 aN good Tryz.func71 rfl (Ls:=fun | 7=>some [(5,37),(18,3)] | _=>none) (by kernel_rfl) h
abbrev NZ:Nat:=73
def RQ (p1:Option Addr) (Q:QT) (H:aj):Prop :=
 cond (!(Option.isNone p1)) (∃ q2,p1=some q2∧∃ p3,ac H q2=some (pV p3)∧Q (.bool (!(Option.isNone p3))) H) (Q (.bool false) H)
theorem ET {p1:Option Addr} (h:RQ p1 Q H):ah PP 73 #[.pointer p1] Q H :=
 okF Tryz.func73 rfl h
abbrev Ll:Nat:=74
def QW (p1:Option Addr) (n2:Int) (Q:QT) (H:aj):Prop :=
 ∃ p3,ac (H.push (.cells #[pV p1] 131)) (A0 H.size)=some (pV p3)∧cS 76 #[.agg #[pV p3],iV 19,iV n2] (fun v4 H1=>∃ n5,v4=iV n5∧Q (iV n5) H1) (H.push (.cells #[pV p1] 131))
theorem E1 {p1:Option Addr}{n2:Int} (h:QW p1 n2 Q H):ah PP 74 #[.agg #[.pointer p1],.int .i64 n2] Q H :=
 okF Tryz.func74 rfl h
abbrev MN:Nat:=75
def QX (p1:Option Addr) (n2:Int) (Q:QT) (H:aj):Prop :=
 ∃ p3,ac (H.push (.cells #[pV p1] 131)) (A0 H.size)=some (pV p3)∧∃ q4,p3=some q4∧∃ p5,ac (H.push (.cells #[pV p1] 131)) q4=some (pV p5)∧cS 20 #[pV p5] (fun v6 H1=>∃ p7,v6=pV p7∧cS 182 #[pV p7,iV n2] (fun v8 H2=>∃ n9 n10 n11,v8=.tuple #[iV n9,iV n10,iV n11]∧Q (iV n9) H2) H1) (H.push (.cells #[pV p1] 131))
theorem Hq {p1:Option Addr}{n2:Int} (h:QX p1 n2 Q H):ah PP 75 #[.agg #[.pointer p1],.int .i64 n2] Q H :=
 okF Tryz.func75 rfl h
abbrev Ef:Nat:=76
def Rs (p1:Option Addr) (n2:Int) (n3:Int) (Q:QT) (H:aj):Prop :=
 ∃ p4,ac (H.push (.cells #[pV p1] 131)) (A0 H.size)=some (pV p4)∧cS 181 #[.agg #[pV p4],iV n2,iV n3] (fun v5 H1=>∃ n6,v5=iV n6∧cS 183 #[iV n6] (fun v7 H2=>∃ n8 n9,v7=.tuple #[iV n8,iV n9]∧Q (iV n8) H2) H1) (H.push (.cells #[pV p1] 131))
theorem Kv {p1:Option Addr}{n2:Int}{n3:Int} (h:Rs p1 n2 n3 Q H):ah PP 76 #[.agg #[.pointer p1],.int .i64 n2,.int .i64 n3] Q H :=
 okF Tryz.func76 rfl h
abbrev Pp:Nat:=87
def QI (p1:Option Addr) (s2:ByteArray) (s3:ByteArray) (a4:Option Addr) (l4:Nat) (c4:Nat) (Q:QT) (H:aj):Prop :=
 ah PP 91 #[sV s2,.int .u8 65,.int .u8 90] (fun v5 H1=>∃ b6,v5=.bool b6∧cond (!b6) (Q (.tuple #[iV 0,iV 133]) H1) (cS 92 #[pV p1,sV s2] (fun v7 H2=>∃ b8,v7=.bool b8∧cond b8 (Q (.tuple #[iV 0,iV 131]) H2) (cS 66 #[pV p1,sV s3] (fun v9 H3=>shH (au (H3.push (.cells #[pV none] 131)) (A0 H3.size) (pV p1)) fun C1=>∃ n10 n11,v9=.tuple #[iV n10,iV n11]∧cond (n11 != 0) (Q (.tuple #[iV 0,iV n11]) H3) (Wr (H3.push (.cells #[pV none] 131)) (A0 H3.size)∧∃ J12:IT,(∃ p13,ac C1 (A0 H3.size)=some (pV p13)∧cS 179 #[.agg #[pV p13],iV n10,iV 6] (fun v14 H4=>∃ n15,v14=iV n15∧cond (decide (n15 > 1)) (cond (decide (n15<=14)) (Q (.tuple #[iV 0,iV 132]) H4) (J12 [] H4)) (J12 [] H4)) C1)∧∀ w16 H5,J12 w16 H5->∀ _g:Nat->Value,w16=[]∧∃ p17,ac H5 (A0 H3.size)=some (pV p17)∧cS 202 #[.agg #[pV p17],iV n10] (fun v18 H6=>∃ a19 l19 c19,v18=lV a19 l19 c19∧∃(I20:IT) (μ20:MT),I20 [iV 0] H6∧∀ w21 H7,I20 w21 H7->∀ _g:Nat->Value,∃ n22,w21=[iV n22]∧cond (decide (n22<(l4:Int))) (((0:Int)<=n22∧n22<(l4:Int))∧∃ q23,a4=some q23∧∃ s24,ac H7 (q23.add (Int.toNat n22*1))=some (sV s24)∧cS 203 #[sV s24] (fun v25 H8=>∃ b26,v25=.bool b26∧cond (!b26) (Q (.tuple #[iV 0,iV 133]) H8) (((0:Int)<=n22∧n22<=(c4:Int))∧cS 204 #[lV a4 (Int.toNat n22) c4,sV s24] (fun v27 H9=>∃ b28,v27=.bool b28∧cond b28 (Q (.tuple #[iV 0,iV 134]) H9) (cS 204 #[lV a19 l19 c19,sV s24] (fun v29 H10=>∃ b30,v29=.bool b30∧cond b30 (Q (.tuple #[iV 0,iV 135]) H10) (I20 [iV (wW (n22+1))] H10∧μ20 [iV (wW (n22+1))] H10<μ20 w21 H7)) H9)) H8)) H7) (cond (decide ((wW ((l19:Int)+(l4:Int))) > 32)) (Q (.tuple #[iV 0,iV 137]) H7) (cS 70 #[pV p1] (fun v31 H11=>∃ n32,v31=iV n32∧cond (decide (n32 ≥ 256)) (Q (.tuple #[iV 0,iV 138]) H11) (Q (.tuple #[iV n10,iV 0]) H11)) H7))) H5)) H2)) H1)) H
theorem FF {p1:Option Addr}{s2:ByteArray}{s3:ByteArray}{a4:Option Addr}{l4:Nat}{c4:Nat} (h:QI p1 s2 s3 a4 l4 c4 Q H):ah PP 87 #[.pointer p1,.string s2,.string s3,.slice a4 l4 c4] Q H :=
 aN good Tryz.func87 rfl (Ls:=fun | 1012=>some [] | 14=>some [(48,3)] | _=>none) (by kernel_rfl) h
abbrev LQ:Nat:=88
def Q5 (p1:Option Addr) (Q:QT) (H:aj):Prop :=
 ∃ q2,p1=some q2∧∃ p3,ac H (q2.add 1)=some (pV p3)∧∃ q4,p1=some q4∧∃ p5,ac H q4=some (pV p5)∧∃ q6,p1=some q6∧∃ p7,ac H q6=some (pV p7)∧cS 205 #[pV p3] (fun v8 H1=>∃ n9,v8=iV n9∧((ac H1 q6=some (pV p7)∧True)∧((ac H1 q4=some (pV p5)∧True)∧True))∧cS 20 #[pV p5] (fun v10 H2=>∃ p11,v10=pV p11∧((ac H2 q6=some (pV p7)∧True)∧True)∧cS 81 #[pV p11] (fun v12 H3=>∃ n13,v12=iV n13∧((ac H3 q6=some (pV p7)∧True)∧True)∧cS 83 #[pV p7] (fun v14 H4=>∃ a15 l15 c15,v14=lV a15 l15 c15∧True∧True∧Q (pV (some (A0 H4.size))) (H4.push (.cells #[pV p1,iV n9,iV n13,iV (l15:Int)] 146))) H3) H2) H1) H
theorem FO {p1:Option Addr} (h:Q5 p1 Q H):ah PP 88 #[.pointer p1] Q H :=
 okF Tryz.func88 rfl h
abbrev Nf:Nat:=89
def Q6 (p1:Option Addr) (s2:ByteArray) (n3:Int) (a4:Option Addr) (l4:Nat) (_c4:Nat) (Q:QT) (H:aj):Prop :=
 ah PP 93 #[pV p1,sV s2] (fun v5 H1=>∃ n6 n7,v5=.tuple #[iV n6,iV n7]∧cond (n7 != 0) (Q (.tuple #[iV 0,iV n7]) H1) (∃(I8:IT) (μ8:MT),I8 [lV none 0 0,iV 0] H1∧∀ w9 H2,I8 w9 H2->∀ _g:Nat->Value,∃ a10 l10 c10 n11,w9=[lV a10 l10 c10,iV n11]∧cond (decide (n11<(l4:Int))) (((0:Int)<=n11∧n11<(l4:Int))∧∃ q12,a4=some q12∧∃ s13,ac H2 (q12.add (Int.toNat n11*1))=some (sV s13)∧cS 93 #[pV p1,sV s13] (fun v14 H3=>∃ n15 n16,v14=.tuple #[iV n15,iV n16]∧cond (n16 != 0) (Q (.tuple #[iV 0,iV n16]) H3) (bk PP (Builtin.append_ #[108,108] 108 #[lV a10 l10 c10,lV (some (A0 H3.size)) 1 1]) (fun v17 H4=>∃ a18 l18 c18,v17=lV a18 l18 c18∧I8 [lV a18 l18 c18,iV (wW (n11+1))] H4∧μ8 [lV a18 l18 c18,iV (wW (n11+1))] H4<μ8 w9 H2) (H3.push (.cells #[iV n15] 36)))) H2) (cS 94 #[pV p1,lV a10 l10 c10] (fun v19 H5=>∃ n20 n21,v19=.tuple #[iV n20,iV n21]∧cond (n21 != 0) (Q (.tuple #[iV 0,iV n21]) H5) (∃ q22,p1=some q22∧∃ p23,ac H5 q22=some (pV p23)∧cS 70 #[pV p23] (fun v24 H6=>∃ n25,v24=iV n25∧cS 50 #[iV 18] (fun v26 H7=>∃ n27,v26=iV n27∧cS 50 #[iV n3] (fun v28 H8=>∃ n29,v28=iV n29∧cS 166 #[iV 0] (fun v30 H9=>∃ n31,v30=iV n31∧cS 166 #[iV (wW (n25+1))] (fun v32 H10=>∃ n33,v32=iV n33∧cS 206 #[pV p1,iV 12,lV (some (A0 H10.size)) 7 7] (fun v34 H11=>∃ n35 n36,v34=.tuple #[iV n35,iV n36]∧cond (n36 != 0) (Q (.tuple #[iV 0,iV n36]) H11) (∃ J37:IT,(∃ q38,p1=some q38∧∃ p39,ac H11 q38=some (pV p39)∧∃ q40,p1=some q40∧∃ p41,ac H11 q40=some (pV p41)∧(cS 74 #[.agg #[pV p41],iV 0] (fun v42 H12=>∃ n43,v42=iV n43∧((ac H12 q38=some (pV p39)∧True)∧True)∧(cS 95 #[.agg #[pV p39],iV n43] (fun v44 H13=>∃ a45 l45 c45,v44=lV a45 l45 c45∧True∧True∧bk PP (Builtin.append_ #[108,108] 108 #[lV a45 l45 c45,lV (some (A0 H13.size)) 1 1]) (fun v46 H14=>∃ a47 l47 c47,v46=lV a47 l47 c47∧True∧cS 94 #[pV p1,lV a47 l47 c47] (fun v48 H15=>∃ n49 n50,v48=.tuple #[iV n49,iV n50]∧True∧J37 [iV n50,iV n49] H15) H14) (H13.push (.cells #[iV n35] 36))) H12)∧(((ac (H12.push (.cells #[iV n35] 36)) q38=some (pV p39)∧True)∧True)∧cS 95 #[.agg #[pV p39],iV n43] (fun v51 H16=>∃ a52 l52 c52,v51=lV a52 l52 c52∧True∧bk PP (Builtin.append_ #[108,108] 108 #[lV a52 l52 c52,lV (some (A0 H12.size)) 1 1]) (fun v53 H17=>∃ a54 l54 c54,v53=lV a54 l54 c54∧True∧cS 94 #[pV p1,lV a54 l54 c54] (fun v55 H18=>∃ n56 n57,v55=.tuple #[iV n56,iV n57]∧True∧J37 [iV n57,iV n56] H18) H17) H16) (H12.push (.cells #[iV n35] 36)))) H11)∧(((ac (H11.push (.cells #[iV n35] 36)) q40=some (pV p41)∧True)∧((ac (H11.push (.cells #[iV n35] 36)) q38=some (pV p39)∧True)∧True))∧cS 74 #[.agg #[pV p41],iV 0] (fun v58 H19=>∃ n59,v58=iV n59∧((ac H19 q38=some (pV p39)∧True)∧True)∧cS 95 #[.agg #[pV p39],iV n59] (fun v60 H20=>∃ a61 l61 c61,v60=lV a61 l61 c61∧True∧bk PP (Builtin.append_ #[108,108] 108 #[lV a61 l61 c61,lV (some (A0 H11.size)) 1 1]) (fun v62 H21=>∃ a63 l63 c63,v62=lV a63 l63 c63∧True∧cS 94 #[pV p1,lV a63 l63 c63] (fun v64 H22=>∃ n65 n66,v64=.tuple #[iV n65,iV n66]∧True∧J37 [iV n66,iV n65] H22) H21) H20) H19) (H11.push (.cells #[iV n35] 36))))∧∀ w67 H23,J37 w67 H23->∀ _g:Nat->Value,∃ n68 n69,w67=[iV n68,iV n69]∧cond (n68 != 0) (Q (.tuple #[iV 0,iV n68]) H23) (∃ q70,p1=some q70∧∃ p71,ac H23 q70=some (pV p71)∧∃ q72,p71=some q72∧∃ p73,ac H23 q72=some (pV p73)∧cS 96 #[pV p73,iV 0,iV n69] (fun v74 H24=>∃ n75,v74=iV n75∧cS 183 #[iV n35] (fun v76 H25=>∃ n77 n78,v76=.tuple #[iV n77,iV n78]∧Q (.tuple #[iV n77,iV n78]) H25) H24) H23))) (H10.push (.cells #[iV n6,iV n29,iV n20,iV n27,iV n27,iV n31,iV n33] 36))) H9) H8) H7) H6) H5)) H2))) H
theorem Ib {p1:Option Addr}{s2:ByteArray}{n3:Int}{a4:Option Addr}{l4:Nat}{c4:Nat} (h:Q6 p1 s2 n3 a4 l4 c4 Q H):ah PP 89 #[.pointer p1,.string s2,.int .i64 n3,.slice a4 l4 c4] Q H :=
 aN good Tryz.func89 rfl (Ls:=fun | 6=>some [(12,108),(33,3)] | 1022=>some [(11,23),(21,36)] | _=>none) (by kernel_rfl) h
abbrev Ej:Nat:=90
def RC (p1:Option Addr) (n2:Int) (Q:QT) (H:aj):Prop :=
 ∃ q3,p1=some q3∧∃ p4,ac H q3=some (pV p4)∧∃ q5,p4=some q5∧∃ p6,ac H q5=some (pV p6)∧∃ q7,p1=some q7∧∃ n8,ac H (q7.add 3)=some (iV n8)∧cS 83 #[pV p6] (fun v9 H1=>∃ a10 l10 c10,v9=lV a10 l10 c10∧((ac H1 (q7.add 3)=some (iV n8)∧True)∧True)∧cS 54 #[pV p6,iV (wW ((l10:Int)-n8))] (fun v11 H2=>∃ n12,v11=iV n12∧True∧cond (n2 == 0) (Q (iV n2) H2) (∃ q13,p1=some q13∧∃ p14,ac H2 q13=some (pV p14)∧∃ q15,p14=some q15∧∃ p16,ac H2 (q15.add 1)=some (pV p16)∧∃ q17,p1=some q17∧∃ n18,ac H2 (q17.add 1)=some (iV n18)∧cS 207 #[pV p16,iV n18] (fun v19 H3=>∃ n20,v19=iV n20∧True∧cond (n2 != 24) (∃ q21,p1=some q21∧∃ n22,ac H3 (q21.add 2)=some (iV n22)∧cS 20 #[pV p6] (fun v23 H4=>∃ p24,v23=pV p24∧((ac H4 (q21.add 2)=some (iV n22)∧True)∧True)∧cS 21 #[pV p24,iV n22] (fun v25 H5=>∃ n26,v25=iV n26∧True∧Q (iV n2) H5) H4) H3) (Q (iV n2) H3)) H2)) H1) H
theorem La {p1:Option Addr}{n2:Int} (h:RC p1 n2 Q H):ah PP 90 #[.pointer p1,.int .i64 n2] Q H :=
 okF Tryz.func90 rfl h
abbrev PT:Nat:=92
def QO (p1:Option Addr) (s2:ByteArray) (Q:QT) (H:aj):Prop :=
 ah PP 66 #[pV p1,sV s2] (fun v3 H1=>∃ n4 n5,v3=.tuple #[iV n4,iV n5]∧cond (n5 == 0) (Q (.bool true) H1) (cS 71 #[pV p1] (fun v6 H2=>∃ a7 l7 c7,v6=lV a7 l7 c7∧cS 204 #[lV a7 l7 c7,sV s2] (fun v8 H3=>∃ b9,v8=.bool b9∧Q (.bool b9) H3) H2) H1)) H
theorem Eu {p1:Option Addr}{s2:ByteArray} (h:QO p1 s2 Q H):ah PP 92 #[.pointer p1,.string s2] Q H :=
 okF Tryz.func92 rfl h
abbrev Mj:Nat:=93
def Rf (p1:Option Addr) (s2:ByteArray) (Q:QT) (H:aj):Prop :=
 ∃ q3,p1=some q3∧∃ p4,ac H q3=some (pV p4)∧∃ q5,p4=some q5∧∃ p6,ac H (q5.add 1)=some (pV p6)∧cS 131 #[pV p6,sV s2] (fun v7 H1=>∃ n8 n9,v7=.tuple #[iV n8,iV n9]∧cond (n9 != 0) (Q (.tuple #[iV 0,iV n9]) H1) (cS 143 #[iV n8] (fun v10 H2=>∃ n11 n12,v10=.tuple #[iV n11,iV n12]∧Q (.tuple #[iV n11,iV n12]) H2) H1)) H
theorem Gy {p1:Option Addr}{s2:ByteArray} (h:Rf p1 s2 Q H):ah PP 93 #[.pointer p1,.string s2] Q H :=
 okF Tryz.func93 rfl h
abbrev Eb:Nat:=94
def Ri (p1:Option Addr) (a2:Option Addr) (l2:Nat) (c2:Nat) (Q:QT) (H:aj):Prop :=
 cond ((l2:Int) == 0) (cS 50 #[iV 18] (fun v3 H1=>∃ n4,v3=iV n4∧Q (.tuple #[iV n4,iV 0]) H1) H) (cS 206 #[pV p1,iV 11,lV a2 l2 c2] (fun v5 H2=>∃ n6 n7,v5=.tuple #[iV n6,iV n7]∧Q (.tuple #[iV n6,iV n7]) H2) H)
theorem IE {p1:Option Addr}{a2:Option Addr}{l2:Nat}{c2:Nat} (h:Ri p1 a2 l2 c2 Q H):ah PP 94 #[.pointer p1,.slice a2 l2 c2] Q H :=
 okF Tryz.func94 rfl h
abbrev NR:Nat:=95
def RN (p1:Option Addr) (n2:Int) (Q:QT) (H:aj):Prop :=
 ∃ p3,ac (H.push (.cells #[pV p1] 131)) (A0 H.size)=some (pV p3)∧cS 75 #[.agg #[pV p3],iV n2] (fun v4 H1=>∃ n5,v4=iV n5∧∃(I6:IT) (μ6:MT),I6 [lV none 0 0,iV 0] H1∧∀ w7 H2,I6 w7 H2->∀ _g:Nat->Value,∃ a8 l8 c8 n9,w7=[lV a8 l8 c8,iV n9]∧cond (decide (n9<n5)) (∃ p10,ac H2 (A0 H.size)=some (pV p10)∧cS 181 #[.agg #[pV p10],iV n2,iV n9] (fun v11 H3=>∃ n12,v11=iV n12∧bk PP (Builtin.append_ #[108,108] 108 #[lV a8 l8 c8,lV (some (A0 H3.size)) 1 1]) (fun v13 H4=>∃ a14 l14 c14,v13=lV a14 l14 c14∧I6 [lV a14 l14 c14,iV (wW (n9+1))] H4∧μ6 [lV a14 l14 c14,iV (wW (n9+1))] H4<μ6 w7 H2) (H3.push (.cells #[iV n12] 36))) H2) (Q (lV a8 l8 c8) H2)) (H.push (.cells #[pV p1] 131))
theorem EL {p1:Option Addr}{n2:Int} (h:RN p1 n2 Q H):ah PP 95 #[.agg #[.pointer p1],.int .i64 n2] Q H :=
 aN good Tryz.func95 rfl (Ls:=fun | 3=>some [(5,108),(10,3)] | _=>none) (by kernel_rfl) h
abbrev Ix:Nat:=176
def NK (p1:Option Addr) (n2:Int) (n3:Int) (Q:QT) (H:aj):Prop :=
 ∃ p4,ac (H.push (.cells #[pV p1] 131)) (A0 H.size)=some (pV p4)∧cS 181 #[.agg #[pV p4],iV n2,iV n3] (fun v5 H1=>∃ n6,v5=iV n6∧cS 239 #[iV n6] (fun v7 H2=>∃ n8 n9,v7=.tuple #[iV n8,iV n9]∧cond (n9 != 0) (Q (sV (⟨#[]⟩:ByteArray)) H2) (∃ p10,ac H2 (A0 H.size)=some (pV p10)∧∃ q11,p10=some q11∧∃ p12,ac H2 (q11.add 1)=some (pV p12)∧cS 240 #[pV p12,iV n8] (fun v13 H3=>∃ s14 n15,v13=.tuple #[sV s14,iV n15]∧Q (sV s14) H3) H2)) H1) (H.push (.cells #[pV p1] 131))
theorem Dl {p1:Option Addr}{n2:Int}{n3:Int} (h:NK p1 n2 n3 Q H):ah PP 176 #[.agg #[.pointer p1],.int .i64 n2,.int .i64 n3] Q H :=
 okF Tryz.func176 rfl h
abbrev IG:Nat:=177
def Qd (p1:Option Addr) (n2:Int) (Q:QT) (H:aj):Prop :=
 ah PP 73 #[pV p1] (fun v3 H1=>shH (au (H1.push (.cells #[pV none] 131)) (A0 H1.size) (pV p1)) fun C1=>∃ b4,v3=.bool b4∧cond (!b4) (Wr H1 (A0 H.size)∧∃ p5,ac (au H1 (A0 H.size) (pV none)) (A0 H.size)=some (pV p5)∧Q (.tuple #[.agg #[pV p5],iV 2]) (au H1 (A0 H.size) (pV none))) (Wr (H1.push (.cells #[pV none] 131)) (A0 H1.size)∧∃ p6,ac C1 (A0 H1.size)=some (pV p6)∧cS 245 #[.agg #[pV p6],iV n2] (fun v7 H2=>∃ b8,v7=.bool b8∧cond (!b8) (Wr H2 (A0 H.size)∧∃ p9,ac (au H2 (A0 H.size) (pV none)) (A0 H.size)=some (pV p9)∧Q (.tuple #[.agg #[pV p9],iV 130]) (au H2 (A0 H.size) (pV none))) (∃ p10,ac H2 (A0 H1.size)=some (pV p10)∧Wr H2 (A0 H.size)∧∃ p11,ac (au H2 (A0 H.size) (pV p10)) (A0 H.size)=some (pV p11)∧Q (.tuple #[.agg #[pV p11],iV 0]) (au H2 (A0 H.size) (pV p10)))) C1)) (H.push (.cells #[pV none] 131))
theorem AG {p1:Option Addr}{n2:Int} (h:Qd p1 n2 Q H):ah PP 177 #[.pointer p1,.int .i64 n2] Q H :=
 okF Tryz.func177 rfl h
abbrev xR:Nat:=178
def MA (p1:Option Addr) (n2:Int) (Q:QT) (H:aj):Prop :=
 ∃ p3,ac (H.push (.cells #[pV p1] 131)) (A0 H.size)=some (pV p3)∧cS 75 #[.agg #[pV p3],iV n2] (fun v4 H1=>∃ n5,v4=iV n5∧∃(I6:IT) (μ6:MT),I6 [lV none 0 0,iV 0] H1∧∀ w7 H2,I6 w7 H2->∀ _g:Nat->Value,∃ a8 l8 c8 n9,w7=[lV a8 l8 c8,iV n9]∧cond (decide (n9<n5)) (∃ p10,ac H2 (A0 H.size)=some (pV p10)∧cS 176 #[.agg #[pV p10],iV n2,iV n9] (fun v11 H3=>∃ s12,v11=sV s12∧bk PP (Builtin.append_ #[37,37] 37 #[lV a8 l8 c8,lV (some (A0 H3.size)) 1 1]) (fun v13 H4=>∃ a14 l14 c14,v13=lV a14 l14 c14∧I6 [lV a14 l14 c14,iV (wW (n9+1))] H4∧μ6 [lV a14 l14 c14,iV (wW (n9+1))] H4<μ6 w7 H2) (H3.push (.cells #[sV s12] 9))) H2) (Q (lV a8 l8 c8) H2)) (H.push (.cells #[pV p1] 131))
theorem AK {p1:Option Addr}{n2:Int} (h:MA p1 n2 Q H):ah PP 178 #[.agg #[.pointer p1],.int .i64 n2] Q H :=
 aN good Tryz.func178 rfl (Ls:=fun | 3=>some [(5,37),(10,3)] | _=>none) (by kernel_rfl) h
abbrev GU:Nat:=179
def MH (p1:Option Addr) (n2:Int) (n3:Int) (Q:QT) (H:aj):Prop :=
 ∃ p4,ac (H.push (.cells #[pV p1] 131)) (A0 H.size)=some (pV p4)∧cS 181 #[.agg #[pV p4],iV n2,iV n3] (fun v5 H1=>∃ n6,v5=iV n6∧cS 246 #[iV n6] (fun v7 H2=>∃ n8 n9,v7=.tuple #[iV n8,iV n9]∧Q (iV n8) H2) H1) (H.push (.cells #[pV p1] 131))
theorem Ca {p1:Option Addr}{n2:Int}{n3:Int} (h:MH p1 n2 n3 Q H):ah PP 179 #[.agg #[.pointer p1],.int .i64 n2,.int .i64 n3] Q H :=
 okF Tryz.func179 rfl h
abbrev Kf:Nat:=180
def Pd (p1:Option Addr) (n2:Int) (Q:QT) (H:aj):Prop :=
 ∃ p3,ac (H.push (.cells #[pV p1] 131)) (A0 H.size)=some (pV p3)∧cS 76 #[.agg #[pV p3],iV n2,iV 1] (fun v4 H1=>∃ n5,v4=iV n5∧cond (n5 != 1) (Q (iV n5) H1) (Q (iV 0) H1)) (H.push (.cells #[pV p1] 131))
theorem DP {p1:Option Addr}{n2:Int} (h:Pd p1 n2 Q H):ah PP 180 #[.agg #[.pointer p1],.int .i64 n2] Q H :=
 okF Tryz.func180 rfl h
abbrev Kp:Nat:=181
def Lz (p1:Option Addr) (n2:Int) (n3:Int) (Q:QT) (H:aj):Prop :=
 ∃ p4,ac (H.push (.cells #[pV p1] 131)) (A0 H.size)=some (pV p4)∧∃ q5,p4=some q5∧∃ p6,ac (H.push (.cells #[pV p1] 131)) q5=some (pV p6)∧cS 20 #[pV p6] (fun v7 H1=>∃ p8,v7=pV p8∧cS 233 #[pV p8,iV n2,iV n3] (fun v9 H2=>∃ n10 n11,v9=.tuple #[iV n10,iV n11]∧Q (iV n10) H2) H1) (H.push (.cells #[pV p1] 131))
theorem Bb {p1:Option Addr}{n2:Int}{n3:Int} (h:Lz p1 n2 n3 Q H):ah PP 181 #[.agg #[.pointer p1],.int .i64 n2,.int .i64 n3] Q H :=
 okF Tryz.func181 rfl h
abbrev Fj:Nat:=188
def M5 (p1:Option Addr) (n2:Int) (Q:QT) (H:aj):Prop :=
 ah PP 177 #[pV p1,iV n2] (fun v3 H1=>∃ p4:Option Addr,shH (au (H1.push (.cells #[pV none] 131)) (A0 H1.size) (pV p4)) fun C1=>∃ n5,v3=.tuple #[.agg #[pV p4],iV n5]∧Wr (H1.push (.cells #[pV none] 131)) (A0 H1.size)∧cond (n5 != 0) (Q (.tuple #[iV 0,iV n5]) C1) (∃ p6,ac C1 (A0 H1.size)=some (pV p6)∧cS 179 #[.agg #[pV p6],iV n2,iV 6] (fun v7 H2=>∃ n8,v7=iV n8∧Q (.tuple #[iV n8,iV 0]) H2) C1)) H
theorem Bh {p1:Option Addr}{n2:Int} (h:M5 p1 n2 Q H):ah PP 188 #[.pointer p1,.int .i64 n2] Q H :=
 okF Tryz.func188 rfl h
abbrev HM:Nat:=190
def Na (p1:Option Addr) (n2:Int) (Q:QT) (H:aj):Prop :=
 ah PP 177 #[pV p1,iV n2] (fun v3 H1=>∃ p4:Option Addr,shH (au (H1.push (.cells #[pV none] 131)) (A0 H1.size) (pV p4)) fun C1=>∃ n5,v3=.tuple #[.agg #[pV p4],iV n5]∧Wr (H1.push (.cells #[pV none] 131)) (A0 H1.size)∧cond (n5 != 0) (Q (.tuple #[iV 0,iV n5]) C1) (∃ p6,ac C1 (A0 H1.size)=some (pV p6)∧cS 180 #[.agg #[pV p6],iV n2] (fun v7 H2=>∃ n8,v7=iV n8∧Q (.tuple #[iV n8,iV 0]) H2) C1)) H
theorem CC {p1:Option Addr}{n2:Int} (h:Na p1 n2 Q H):ah PP 190 #[.pointer p1,.int .i64 n2] Q H :=
 okF Tryz.func190 rfl h
abbrev zI:Nat:=202
def Fa (p1:Option Addr) (n2:Int) (Q:QT) (H:aj):Prop :=
 cond (n2 == 0) (Q (lV none 0 0) (H.push (.cells #[pV p1] 131))) (∃ p3,ac (H.push (.cells #[pV p1] 131)) (A0 H.size)=some (pV p3)∧∃ p4,ac (H.push (.cells #[pV p1] 131)) (A0 H.size)=some (pV p4)∧∃ p5,ac (H.push (.cells #[pV p1] 131)) (A0 H.size)=some (pV p5)∧∃ p6,ac (H.push (.cells #[pV p1] 131)) (A0 H.size)=some (pV p6)∧cS 180 #[.agg #[pV p4],iV n2] (fun v7 H1=>∃ n8,v7=iV n8∧((ac H1 (A0 H.size)=some (pV p6)∧True)∧((ac H1 (A0 H.size)=some (pV p5)∧True)∧((ac H1 (A0 H.size)=some (pV p3)∧True)∧True)))∧cS 202 #[.agg #[pV p3],iV n8] (fun v9 H2=>∃ a10 l10 c10,v9=lV a10 l10 c10∧((ac H2 (A0 H.size)=some (pV p6)∧True)∧((ac H2 (A0 H.size)=some (pV p5)∧True)∧True))∧cS 76 #[.agg #[pV p6],iV n2,iV 2] (fun v11 H3=>∃ n12,v11=iV n12∧((ac H3 (A0 H.size)=some (pV p5)∧True)∧True)∧cS 178 #[.agg #[pV p5],iV n12] (fun v13 H4=>∃ a14 l14 c14,v13=lV a14 l14 c14∧True∧bk PP (Builtin.append_ #[37,37] 37 #[lV a10 l10 c10,lV a14 l14 c14]) (fun v15 H5=>∃ a16 l16 c16,v15=lV a16 l16 c16∧True∧Q (lV a16 l16 c16) H5) H4) H3) H2) H1) (H.push (.cells #[pV p1] 131)))
theorem uT {p1:Option Addr}{n2:Int} (h:Fa p1 n2 Q H):ah PP 202 #[.agg #[.pointer p1],.int .i64 n2] Q H :=
 okF Tryz.func202 rfl h
abbrev Gm:Nat:=206
def Nw (p1:Option Addr) (n2:Int) (a3:Option Addr) (l3:Nat) (_c3:Nat) (Q:QT) (H:aj):Prop :=
 ∃ q4,p1=some q4∧∃ p5,ac H q4=some (pV p5)∧∃ q6,p5=some q6∧∃ p7,ac H q6=some (pV p7)∧cS 50 #[iV n2] (fun v8 H1=>∃ n9,v8=iV n9∧((ac H1 q6=some (pV p7)∧True)∧((ac H1 q4=some (pV p5)∧True)∧True))∧cS 238 #[pV p7,iV n9,iV (l3:Int),iV 0] (fun v10 H2=>∃ n11 n12,v10=.tuple #[iV n11,iV n12]∧True∧cond (n12 != 0) (Q (.tuple #[iV 0,iV n12]) H2) (cS 183 #[iV n11] (fun v13 H3=>∃ n14 n15,v13=.tuple #[iV n14,iV n15]∧∃(I16:IT) (μ16:MT),I16 [iV 0] H3∧∀ w17 H4,I16 w17 H4->∀ _g:Nat->Value,∃ n18,w17=[iV n18]∧cond (decide (n18<(l3:Int))) (((0:Int)<=n18∧n18<(l3:Int))∧∃ q19,a3=some q19∧∃ n20,ac H4 (q19.add (Int.toNat n18*1))=some (iV n20)∧∃ q21,p1=some q21∧∃ p22,ac H4 q21=some (pV p22)∧∃ q23,p22=some q23∧∃ p24,ac H4 q23=some (pV p24)∧cS 20 #[pV p24] (fun v25 H5=>∃ p26,v25=pV p26∧cS 140 #[pV p26,iV n14,iV n18,iV n20] (fun v27 H6=>∃ n28,v27=iV n28∧I16 [iV (wW (n18+1))] H6∧μ16 [iV (wW (n18+1))] H6<μ16 w17 H4) H5) H4) (∃ q29,p1=some q29∧∃ p30,ac H4 q29=some (pV p30)∧∃ q31,p30=some q31∧∃ p32,ac H4 q31=some (pV p32)∧cS 51 #[pV p32,lV (some (A0 H4.size)) 1 1] (fun v33 H7=>∃ n34,v33=iV n34∧Q (.tuple #[iV n11,iV n34]) H7) (H4.push (.cells #[iV n11] 36)))) H2)) H1) H
theorem BC {p1:Option Addr}{n2:Int}{a3:Option Addr}{l3:Nat}{c3:Nat} (h:Nw p1 n2 a3 l3 c3 Q H):ah PP 206 #[.pointer p1,.int .i64 n2,.slice a3 l3 c3] Q H :=
 aN good Tryz.func206 rfl (Ls:=fun | 6=>some [(40,3)] | _=>none) (by kernel_rfl) h
abbrev Io:Nat:=245
def NE (p1:Option Addr) (n2:Int) (Q:QT) (H:aj):Prop :=
 ∃ p3,ac (H.push (.cells #[pV p1] 131)) (A0 H.size)=some (pV p3)∧cS 179 #[.agg #[pV p3],iV n2,iV 6] (fun v4 H1=>∃ n5,v4=iV n5∧∃ p6,ac H1 (A0 H.size)=some (pV p6)∧cS 74 #[.agg #[pV p6],iV 0] (fun v7 H2=>∃ n8,v7=iV n8∧cond (decide (n2 > 0)) (cond (decide (n5 ≥ 1)) (∃ p9,ac H2 (A0 H.size)=some (pV p9)∧cS 75 #[.agg #[pV p9],iV n8] (fun v10 H3=>∃ n11,v10=iV n11∧cond (decide (n5<=n11)) (∃ p12,ac H3 (A0 H.size)=some (pV p12)∧cS 76 #[.agg #[pV p12],iV n8,iV (wW (n5-1))] (fun v13 H4=>∃ n14,v13=iV n14∧Q (.bool (n14 == n2)) H4) H3) (Q (.bool false) H3)) H2) (Q (.bool false) H2)) (Q (.bool false) H2)) H1) (H.push (.cells #[pV p1] 131))
theorem De {p1:Option Addr}{n2:Int} (h:NE p1 n2 Q H):ah PP 245 #[.agg #[.pointer p1],.int .i64 n2] Q H :=
 okF Tryz.func245 rfl h
end Go.Proofs.YtmkdkplipbocjaaGreatDoor
namespace Kw
open Go
def KV.addC (v:KV) (c:CV) (d:Int):KV:={ v with cls:=v.cls++[c],clsA:=d }
def KV.addG (v:KV) (n:Nat) (d:Int):KV:={ v with glob:=v.glob++[(n,4)],globA:=d }
theorem KS.fresh {s:SP}{v:KV} (h:KS s v){o:Int} (hn:¬ Reaches s.h s.roots o):∀ p∈v.roles,p.1≠o:=fun p hp he=>hn (he ▸ h.reach p hp)
theorem my {s s':SP}{v:KV} (h:KS s v) (h':KS s' v){l:List Int} (e:s'.stack=s.stack++l):∀ w∈s.roots,w∈s'.roots:=by
 intro w hw
 rw [h.roots] at hw
 rw [h'.roots,e]
 simp only [List.mem_cons,List.mem_append] at hw ⊢
 rcases hw with h | h
 ·exact .inl h
 ·exact .inr (.inl h)
theorem iH {s:SP}{v:KV} (h:KS s v){j:Nat} (hj:j<v.cls.length):1<=(v.cls[j]).oop∧(v.cls[j]).oop<=65536:=by
 have:=(h.view.cls hj).bnd h.wf.h
 exact ⟨this.1,this.2.1⟩
theorem fu {n up l:Int}{k:Nat} (hn:dG n) (hu:dG (4*up)) (hl:dG l) (hk:k<=1000):∀ w∈bU n up l k,dG w:=by
 intro w hw
 simp only [bU,List.mem_cons,List.not_mem_nil,or_false] at hw
 rcases hw with rfl | rfl | rfl | rfl | rfl | rfl | rfl
 ·exact hn
 ·exact hu
 ·exact hl
 ·decide
 ·decide
 ·decide
 ·unfold dG;have:=bG (2*((k:Int)+1)+1);omega
theorem kr {s:SP}{v:KV} (h:KS s v):∀ w∈v.clsW,dG w:=fun w hw=>(h.view.all.bnd h.wf.h).2.2.2 w hw
theorem jk {s:SP}{v:KV} (h:KS s v):∀ w∈bw v.glob,dG w:=fun w hw=>(h.view.globs.bnd h.wf.h).2.2.2 w hw
theorem yC {s:SP}{v:KV}{t:TB} (hk:KS s v) (hst:s.stack.length<65000){c l:Int}{n:Nat}{ns:List Nat}{j:Nat} (hj:j<v.cls.length) (hlt:v.cls.length<256)
  (hc1:1<=c) (hc2:c<=65536) (hcr:Reaches s.h s.roots c) (hlr:Reaches s.h s.roots l) (hca:eQ s.h c (bU (bD n) (v.cls[j]).oop (4*l) v.cls.length)) (hla:eQ s.h l (ns.map bD))
  (hcf:∀ p∈v.roles,p.1≠c) (hlf:ns=[]∧l=18∨∀ p∈v.roles,p.1≠l) (hcl:c≠l) :
  bH s.h (fj s t v.clsW (4*c)).2.1.h (fun k=>Reaches s.h s.roots k∧k≠19)∧(fj s t v.clsW (4*c)).2.2=t∧(∃ m,(fj s t v.clsW (4*c)).2.1.stack=s.stack++m∧m.length<=1) ∧
  ((fj s t v.clsW (4*c)).1.2≠0->KS (fj s t v.clsW (4*c)).2.1 v∧bH s.h (fj s t v.clsW (4*c)).2.1.h (Reaches s.h s.roots)) ∧
  ((fj s t v.clsW (4*c)).1.2=0->(fj s t v.clsW (4*c)).1.1=c∧∃ d,KS (fj s t v.clsW (4*c)).2.1 (v.addC ⟨c,n,(v.cls[j]).oop,ns,l,18,18,[],[],0⟩ d)):=by
 have hws:∀ w∈v.clsW++[4*c],dG w:=fun w hw=>by
  rcases List.mem_append.1 hw with hw | hw
  ·exact kr hk w hw
  ·simp only [List.mem_singleton] at hw;rw [hw];exact cq hc1 hc2
 obtain ⟨h1,h2,⟨m,h3,h3'⟩,h4⟩:=dg hk (by omega) hws
 unfold fj
 by_cases he:(s.array (v.clsW++[4*c])).1.2=0
 ·rw [if_neg (by simpa using he)]
  obtain ⟨d,e1,d1,d2,hda,hdr,hdn⟩:=h4 he
  have hdn:¬ Reaches s.h s.roots d:=by
   rcases hdn with h | h
   ·simp at h
   ·exact h
  rw [e1]
  generalize (s.array (v.clsW++[4*c])).2=s1 at *
  obtain ⟨g1,g2,g3,g4,g5,g6,g7⟩:=jT h1 (i:=0) (w:=4*d) (by decide) (by decide) (cq d1 d2)
  generalize (s1.setRoot 0 (4*d)).2=s2 at *
  have hdf:∀ p∈v.roles,p.1≠d:=hk.fresh hdn
  have r19:((19,v.rootW):jO)∈v.roles:=by simp [KV.roles]
  have r18:((18,[]):jO)∈v.roles:=by simp [KV.roles]
  have hc19:c≠19:=fun e=>hcf _ r19 e.symm
  have hd19:d≠19:=fun e=>hdf _ r19 e.symm
  have hl19:l≠19:=by
   rcases hlf with ⟨_,h⟩ | h
   ·omega
   ·exact fun e=>h _ r19 e.symm
  have hc18:c≠18:=fun e=>hcf _ r18 e.symm
  have hdc:d≠c:=fun e=>hdn (e ▸ hcr)
  have hdl:d≠l:=fun e=>hdn (e ▸ hlr)
  have h2k:bH s.h s2.h fun k=>Reaches s.h s.roots k∧k≠19:=(h2.mono fun k hk=>hk.1).trans (g2.mono fun k hk=>hk.2)
  have hne:=su hk.view hk.sep
  refine ⟨h2k,rfl,⟨m,by rw [g6,h3],h3'⟩,fun h=>absurd rfl h,fun _=>⟨by show 4*c / 4=c;omega,d,g3,g7,g5,g4,?_,?_,?_⟩⟩
  ·
   refine dN.of ?_ ?_ ?_ ?_ ?_ ?_
   ·simpa [KV.rootW,KV.addC] using g1
   ·have:=hda.keep g2 hd19
    simpa [KV.addC,KV.clsW] using this
   ·exact (h1.view.globs).keep g2 (hne (v.globA,bw v.glob) (by simp))
   ·exact (h1.view.nil).keep g2 (by decide)
   ·exact (h1.view.empty).keep g2 (by decide)
   ·intro p hp
    simp only [KV.addC,im,List.mem_append,Nat.zero_add,cD,List.append_nil] at hp
    rcases hp with hp | hp
    ·exact (h1.view p (by simp [KV.roles,hp])).keep g2 (hne p (by simp [hp]))
    ·simp only [crole,List.mem_cons,List.not_mem_nil,or_false] at hp
     rcases hp with rfl | rfl | rfl | rfl
     ·have:=hca.keep h2k ⟨hcr,hc19⟩
      simpa [CV.slots,bU] using this
     ·exact hla.keep h2k ⟨hlr,hl19⟩
     ·exact (h1.view.empty).keep g2 (by decide)
     ·exact (h1.view.empty).keep g2 (by decide)
  ·
   have hs:=hk.sep
   unfold D8 at hs ⊢
   simp only [KV.roles,KV.addC,im,cD,List.append_nil,Nat.zero_add] at hs ⊢
   rw [List.pairwise_cons,List.pairwise_cons] at hs
   obtain ⟨hs1,hs2,hs3⟩:=hs
   have new:∀ q∈crole ⟨c,n,(v.cls[j]).oop,ns,l,18,18,[],[],0⟩ v.cls.length,q.1=c∨q.1=l∨q.1=18:=by
    intro q hq
    simp only [crole,List.mem_cons,List.not_mem_nil,or_false] at hq
    rcases hq with rfl | rfl | rfl | rfl <;> simp
   refine List.pairwise_cons.2 ⟨fun q hq he=>?_,List.pairwise_cons.2 ⟨fun q hq he=>?_,?_⟩⟩
   ·
    exfalso
    simp only [List.mem_cons,List.mem_append] at hq
    rcases hq with rfl | rfl | rfl | rfl | hq | hq
    ·exact hd19 he.symm
    ·exact hne (v.globA,bw v.glob) (by simp) he.symm
    ·simp at he
    ·simp at he
    ·exact hne q (by simp [hq]) he.symm
    ·rcases new q hq with h | h | h
     ·exact hc19 (by rw [←h];exact he.symm)
     ·exact hl19 (by rw [←h];exact he.symm)
     ·rw [h] at he;simp at he
   ·exfalso
    simp only [List.mem_cons,List.mem_append] at hq
    rcases hq with rfl | rfl | rfl | hq | hq
    ·exact hdf (v.globA,bw v.glob) (by simp [KV.roles]) he.symm
    ·exact hdf (1,[]) (by simp [KV.roles]) he.symm
    ·exact hdf (18,[]) (by simp [KV.roles]) he.symm
    ·exact hdf q (by simp [KV.roles,hq]) he.symm
    ·rcases new q hq with h | h | h
     ·exact hdc (by rw [←h];exact he)
     ·exact hdl (by rw [←h];exact he)
     ·exact hdf (18,[]) r18 (by rw [←h];exact he.symm)
   ·show ((v.globA,bw v.glob) :: (1,[]) :: (18,[]) :: (cD v.cls 0++_)).Pairwise _
    rw [←List.cons_append,←List.cons_append,←List.cons_append]
    refine List.pairwise_append.2 ⟨hs3,?_,fun p hp q hq he=>?_⟩
    ·simp only [crole]
     refine List.pairwise_cons.2 ⟨fun q hq he=>?_,List.pairwise_cons.2 ⟨fun q hq he=>?_,List.pairwise_cons.2 ⟨fun q hq he=>rfl,List.pairwise_cons.2 ⟨fun q hq he=>rfl,List.Pairwise.nil⟩⟩⟩⟩
     ·exfalso
      simp only [List.mem_cons,List.not_mem_nil,or_false] at hq
      rcases hq with rfl | rfl | rfl
      ·exact hcl he
      ·exact hc18 he
      ·exact hc18 he
     ·rcases hlf with ⟨h,_⟩ | h
      ·simp [h]
      ·exfalso
       simp only [List.mem_cons,List.not_mem_nil,or_false] at hq
       rcases hq with rfl | rfl
       ·exact h _ r18 he.symm
       ·exact h _ r18 he.symm
    ·have hpr:p∈v.roles:=by
      simp only [KV.roles]
      exact List.mem_cons_of_mem _ (List.mem_cons_of_mem _ hp)
     have em:p.1=18->p.2=[]:=fun h=>by
      have:=hk.view p hpr
      rw [h] at this
      exact this.uniq hk.view.empty
     rcases new q hq with h | h | h
     ·exact absurd (he.trans h) (hcf p hpr)
     ·rcases hlf with ⟨_,h'⟩ | h'
      ·exact em (by rw [he,h,h'])
      ·exact absurd (he.trans h) (h' p hpr)
     ·exact em (he.trans h)
  ·
   have hsh:=hk.shape
   have hm0:=hsh.many0
   constructor
   ·exact hsh.rest
   ·simp only [KV.addC,List.length_append];omega
   ·simp only [KV.addC,List.length_append,List.length_cons,List.length_nil];omega
   ·exact hsh.globs
   ·intro h0
    have h0':0<v.cls.length:=by omega
    simp only [KV.addC,List.getElem_append_left h0']
    exact hsh.up0 h0'
   ·intro i hi hpos
    simp only [KV.addC,List.length_append,List.length_cons,List.length_nil] at hi
    by_cases hlt':i<v.cls.length
    ·obtain ⟨j',hj',h5,h6⟩:=hsh.ups i hlt' hpos
     refine ⟨j',by simp only [KV.addC,List.length_append];omega,h5,?_⟩
     simp only [KV.addC,List.getElem_append_left hlt',List.getElem_append_left hj']
     exact h6
    ·have hie:i=v.cls.length:=by omega
     subst hie
     refine ⟨j,by simp only [KV.addC,List.length_append];omega,hj,?_⟩
     simp only [KV.addC,List.getElem_append_left hj]
     rw [List.getElem_append_right (Nat.le_refl _)]
     simp
   ·intro i hi h14
    have hlt':i<v.cls.length:=by omega
    simp only [KV.addC,List.getElem_append_left hlt']
    exact hsh.kern i hlt' h14
   ·intro x hx
    simp only [KV.addC,List.mem_append,List.mem_singleton] at hx
    rcases hx with hx | rfl
    ·exact hsh.lay x hx
    ·simp
 ·rw [if_pos (by simpa using he)]
  exact ⟨h2.mono fun k hk=>hk.1,rfl,⟨m,h3,h3'⟩,fun _=>⟨h1,h2⟩,fun h=>absurd h he⟩
structure DefR (s:SP) (v:KV) (t:TB) (j:Nat) (name:ByteArray) (own:List ByteArray) (R:(Int × Int) × SP × TB):Prop where
 wft:WFT R.2.2
 most:R.2.2.most=t.most
 pre:∃ l,R.2.2.texts=t.texts++l
 stack:∃ m,R.2.1.stack=s.stack++m∧m.length<=3
 bad:R.1.2≠0->KS R.2.1 v∧bH s.h R.2.1.h (Reaches s.h s.roots)
 good:R.1.2=0->∃ c n ns l d,∃ hj:j<v.cls.length,R.1.1=c∧KS R.2.1 (v.addC ⟨c,n,(v.cls[j]).oop,ns,l,18,18,[],[],0⟩ d)∧R.2.2.texts[n]?=some name∧ns.map (fun n=>R.2.2.texts[n]?)=own.map some
 keep:bH s.h R.2.1.h (fun k=>Reaches s.h s.roots k∧k≠19)
theorem zo {s:SP}{v:KV}{t:TB} (hk:KS s v) (hst:s.stack.length<60000){n:Nat}{ns:List Nat}{j:Nat} (hj:j<v.cls.length) (hlt:v.cls.length<256) (hwt:WFT t) (hn:n<t.texts.length) (hns:∀ n∈ns,n<t.texts.length)
  {name:ByteArray}{own:List ByteArray} (e1:t.texts[n]?=some name) (e2:ns.map (fun n=>t.texts[n]?)=own.map some) :
  DefR s v t j name own (nZ s t v.clsW (bD n) (v.cls[j]).oop (ns.map bD)):=by
 have hws:∀ w∈ns.map bD,dG w:=fun w hw=>by
  obtain ⟨x,hx,rfl⟩:=List.mem_map.1 hw
  exact d6 hwt (hns x hx)
 obtain ⟨a1,a2,⟨m1,a3,a3'⟩,a4⟩:=dg hk (by omega) hws
 unfold nZ
 by_cases he:(s.array (ns.map bD)).1.2=0
 ·rw [if_neg (by simpa using he)]
  obtain ⟨l,el,l1,l2,hla,hlr,hlf⟩:=a4 he
  rw [el]
  generalize (s.array (ns.map bD)).2=s1 at *
  have hl1:s1.stack.length<64000:=by rw [a3,List.length_append];omega
  have hup:=iH hk hj
  have hcw:v.clsW.length=v.cls.length:=by simp [KV.clsW]
  obtain ⟨b1,b2,b3,b4⟩:=kJ a1 (by omega) (cls:=12) (by decide) (ws:=bU (bD n) (v.cls[j]).oop (4*l) v.clsW.length) (fu (d6 hwt hn) (cq hup.1 hup.2) (cq l1 l2) (by omega))
  have hrs:∀ k,Reaches s.h s.roots k->Reaches s1.h s1.roots k:=fun k hk'=>Reaches.mono hk.wf.h a2 (my hk a1 a3) hk'
  unfold ji
  by_cases hf:(s1.make 12 (bU (bD n) (v.cls[j]).oop (4*l) v.clsW.length)).1.2=0
  ·rw [if_neg (by simpa using hf)]
   obtain ⟨c,ec,est,c1,c2,hca,hcn⟩:=b4 hf
   rw [ec]
   generalize (s1.make 12 (bU (bD n) (v.cls[j]).oop (4*l) v.clsW.length)).2=s2 at *
   have hrs2:∀ k,Reaches s1.h s1.roots k->Reaches s2.h s2.roots k:=fun k hk'=>Reaches.mono a1.wf.h b2 (my a1 b1 est) hk'
   have hcr:Reaches s2.h s2.roots c:=Reaches.of_root c1 c2 hca.there (by rw [b1.roots,est];simp)
   have hlf':ns=[]∧l=18∨∀ p∈v.roles,p.1≠l:=by
    rcases hlf with h | h
    ·have hnil:ns=[]:=by simpa using h
     subst hnil
     left
     refine ⟨rfl,?_⟩
     have:(s.array (([]:List Nat).map bD)).1.1=72:=by simp [SP.array]
     omega
    ·exact .inr (hk.fresh h)
   obtain ⟨d1,d2,⟨m,d3,d3'⟩,d4,d5⟩:=yC (t:=t) b1 (by rw [est,List.length_append];simp;omega) (c:=c) (l:=l) (n:=n) (ns:=ns) hj hlt c1 c2 hcr (hrs2 l hlr) (by rw [hcw] at hca;exact hca) (hla.keep b2 hlr) (a1.fresh hcn) hlf' (fun e=>hcn (e ▸ hlr))
   generalize fj s2 t v.clsW (4*c)=R at *
   refine ⟨by rw [d2];exact hwt,by rw [d2],⟨[],by rw [d2];simp⟩,⟨m1++[4*c]++m,by rw [d3,est,a3];simp,by simp;omega⟩,fun h=>?_,fun h=>?_,((a2.trans (b2.mono hrs)).mono fun k hk'=>hk'.1).trans (d1.mono fun k hk'=>⟨hrs2 k (hrs k hk'.1),hk'.2⟩)⟩
   ·exact ⟨(d4 h).1,(a2.trans (b2.mono hrs)).trans ((d4 h).2.mono fun k hk'=>hrs2 k (hrs k hk'))⟩
   ·obtain ⟨e3,d,e4⟩:=d5 h
    rw [d2]
    exact ⟨c,n,ns,l,d,hj,e3,e4,e1,e2⟩
  ·rw [if_pos (by simpa using hf)]
   exact ⟨hwt,rfl,⟨[],by simp⟩,⟨m1,by rw [(b3 hf).1,a3],by omega⟩,fun _=>⟨b1,a2.trans (b2.mono hrs)⟩,fun h=>absurd h hf,(a2.trans (b2.mono hrs)).mono fun k hk'=>hk'.1⟩
 ·rw [if_pos (by simpa using he)]
  exact ⟨hwt,rfl,⟨[],by simp⟩,⟨m1,a3,by omega⟩,fun _=>⟨a1,a2⟩,fun h=>absurd h he,a2.mono fun k hk'=>hk'.1⟩
theorem Ab {s:SP}{v:KV}{t:TB} (hk:KS s v) (hst:s.stack.length<60000){j:Nat} (hj:j<v.cls.length) (hlt:v.cls.length<256) (hwt:WFT t) (name:ByteArray) (own:List ByteArray) :
  DefR s v t j name own (gN s t v.clsW name (v.cls[j]).oop own):=by
 unfold gN
 have p1:=np t name
 have w1:=ib hwt name
 by_cases h1:(t.add name).1.2=0
 ·rw [if_neg (by simpa using h1)]
  obtain ⟨n,e1,e2,_⟩:=gU name h1
  generalize (t.add name).2=t1 at *
  have p2:=iD t1 [] own
  have w2:=tL w1 [] own
  have pre:∃ l,(t1.addAll [] own).2.texts=t.texts++l:=by
   obtain ⟨l,e⟩:=p1.2
   obtain ⟨l',e'⟩:=p2.2
   exact ⟨l++l',by rw [e',e];simp⟩
  by_cases h2:(t1.addAll [] own).1.2=0
  ·rw [if_neg (by simpa using h2)]
   obtain ⟨ns,e3,e4⟩:=lM [] own h2
   rw [e3,e1]
   generalize (t1.addAll [] own).2=t2 at *
   have e5:t2.texts[n]?=some name:=by
    obtain ⟨l',e'⟩:=p2.2
    rw [e',List.getElem?_append_left (cA e2).2,e2]
   have hns:∀ n∈ns,n<t2.texts.length:=fun n hn=>by
    have:t2.texts[n]?∈own.map some:=by rw [←e4];exact List.mem_map.2 ⟨n,hn,rfl⟩
    obtain ⟨s,_,hs⟩:=List.mem_map.1 this
    exact (cA hs.symm).2
   have:=zo hk hst hj hlt w2 (cA e5).2 hns e5 e4
   have hpre:∃ l,(nZ s t2 v.clsW (bD n) (v.cls[j]).oop (ns.map bD)).2.2.texts=t.texts++l:=by
    obtain ⟨l,e⟩:=pre
    obtain ⟨l',e'⟩:=this.pre
    exact ⟨l++l',e'.trans (by rw [e];simp)⟩
   exact { this with most:=this.most.trans (p2.1.trans p1.1),pre:=hpre }
  ·rw [if_pos (by simpa using h2)]
   exact ⟨w2,p2.1.trans p1.1,pre,⟨[],by simp,by simp⟩,fun _=>⟨hk,bH.refl _ _⟩,fun h=>absurd h h2,bH.refl _ _⟩
 ·rw [if_pos (by simpa using h1)]
  exact ⟨w1,p1.1,p1.2,⟨[],by simp,by simp⟩,fun _=>⟨hk,bH.refl _ _⟩,fun h=>absurd h h1,bH.refl _ _⟩
end Kw
namespace Kw
open Go
structure GlobR (s:SP) (v:KV) (t:TB) (name:ByteArray) (R:Int × SP × TB):Prop where
 wft:WFT R.2.2
 most:R.2.2.most=t.most
 pre:∃ l,R.2.2.texts=t.texts++l
 stack:∃ m,R.2.1.stack=s.stack++m∧m.length<=3
 bad:R.1≠0->KS R.2.1 v∧bH s.h R.2.1.h (Reaches s.h s.roots)
 good:R.1=0->∃ n d,KS R.2.1 (v.addG n d)∧R.2.2.texts[n]?=some name
 keep:bH s.h R.2.1.h (fun k=>Reaches s.h s.roots k∧k≠19)
theorem wZ {s:SP}{v:KV}{t:TB} (hk:KS s v) (hst:s.stack.length<60000){n:Nat} (hlt:v.glob.length<256) (hwt:WFT t) (hn:n<t.texts.length){name:ByteArray} (e1:t.texts[n]?=some name) :
  GlobR s v t name (i0 s t (bw v.glob) (bD n)):=by
 have hws:∀ w∈bw v.glob++[bD n,4],dG w:=fun w hw=>by
  rcases List.mem_append.1 hw with hw | hw
  ·exact jk hk w hw
  ·simp only [List.mem_cons,List.not_mem_nil,or_false] at hw
   rcases hw with rfl | rfl
   ·exact d6 hwt hn
   ·decide
 obtain ⟨h1,h2,⟨m,h3,h3'⟩,h4⟩:=dg hk (by omega) hws
 unfold i0
 by_cases he:(s.array (bw v.glob++[bD n,4])).1.2=0
 ·rw [if_neg (by simpa using he)]
  obtain ⟨d,ed,d1,d2,hda,hdr,hdn⟩:=h4 he
  have hdn:¬ Reaches s.h s.roots d:=by
   rcases hdn with h | h
   ·simp at h
   ·exact h
  rw [ed]
  generalize (s.array (bw v.glob++[bD n,4])).2=s1 at *
  obtain ⟨g1,g2,g3,g4,g5,g6,g7⟩:=jT h1 (i:=1) (w:=4*d) (by decide) (by decide) (cq d1 d2)
  generalize (s1.setRoot 1 (4*d)).2=s2 at *
  have hdf:∀ p∈v.roles,p.1≠d:=hk.fresh hdn
  have hd19:d≠19:=fun e=>hdf (19,v.rootW) (by simp [KV.roles]) e.symm
  have hne:=su hk.view hk.sep
  refine ⟨hwt,rfl,⟨[],by simp⟩,⟨m,by rw [g6,h3],by omega⟩,fun h=>absurd rfl h,fun _=>⟨n,d,⟨g3,g7,g5,g4,?_,?_,?_⟩,e1⟩,(h2.mono fun k hk'=>hk'.1).trans (g2.mono fun k hk'=>hk'.2)⟩
  ·refine dN.of ?_ ?_ ?_ ?_ ?_ ?_
   ·simpa [KV.rootW,KV.addG] using g1
   ·exact (h1.view.all).keep g2 (hne (v.clsA,v.clsW) (by simp))
   ·have:=hda.keep g2 hd19
    simpa [KV.addG,qQ,bw] using this
   ·exact (h1.view.nil).keep g2 (by decide)
   ·exact (h1.view.empty).keep g2 (by decide)
   ·intro p hp
    exact (h1.view p (by simp only [KV.addG] at hp;simp [KV.roles,hp])).keep g2 (hne p (by simp only [KV.addG] at hp;simp [hp]))
  ·have hs:=hk.sep
   unfold D8 at hs ⊢
   simp only [KV.roles,KV.addG] at hs ⊢
   rw [List.pairwise_cons,List.pairwise_cons,List.pairwise_cons] at hs
   obtain ⟨hs1,hs2,hs3,hs4⟩:=hs
   refine List.pairwise_cons.2 ⟨fun q hq he=>?_,List.pairwise_cons.2 ⟨fun q hq he=>?_,List.pairwise_cons.2 ⟨fun q hq he=>?_,hs4⟩⟩⟩
   ·exfalso
    simp only [List.mem_cons] at hq
    rcases hq with rfl | rfl | hq
    ·exact hne (v.clsA,v.clsW) (by simp) he.symm
    ·exact hd19 he.symm
    ·exact hne q (by simp only [List.mem_cons];exact .inr (.inr hq)) he.symm
   ·rcases List.mem_cons.1 hq with rfl | hq
    ·exact absurd he (hdf (v.clsA,v.clsW) (by simp [KV.roles]))
    ·exact hs2 q (List.mem_cons_of_mem _ hq) he
   ·exact absurd he.symm (hdf q (by simp only [KV.roles];exact List.mem_cons_of_mem _ (List.mem_cons_of_mem _ (List.mem_cons_of_mem _ hq))))
  ·exact { hk.shape with globs:=by simp only [KV.addG,List.length_append,List.length_cons,List.length_nil];omega }
 ·rw [if_pos (by simpa using he)]
  exact ⟨hwt,rfl,⟨[],by simp⟩,⟨m,h3,by omega⟩,fun _=>⟨h1,h2⟩,fun h=>absurd h he,h2.mono fun k hk'=>hk'.1⟩
theorem zC {s:SP}{v:KV}{t:TB} (hk:KS s v) (hst:s.stack.length<60000) (hlt:v.glob.length<256) (hwt:WFT t) (name:ByteArray) :
  GlobR s v t name (fA s t (bw v.glob) name):=by
 unfold fA
 have p1:=np t name
 have w1:=ib hwt name
 by_cases h1:(t.add name).1.2=0
 ·rw [if_neg (by simpa using h1)]
  obtain ⟨n,e1,e2,_⟩:=gU name h1
  rw [e1]
  generalize (t.add name).2=t1 at *
  have:=wZ hk hst hlt w1 (cA e2).2 e2
  have hpre:∃ l,(i0 s t1 (bw v.glob) (bD n)).2.2.texts=t.texts++l:=by
   obtain ⟨l,e⟩:=p1.2
   obtain ⟨l',e'⟩:=this.pre
   exact ⟨l++l',e'.trans (by rw [e];simp)⟩
  exact { this with most:=this.most.trans p1.1,pre:=hpre }
 ·rw [if_pos (by simpa using h1)]
  exact ⟨w1,p1.1,p1.2,⟨[],by simp,by simp⟩,fun _=>⟨hk,bH.refl _ _⟩,fun h=>absurd h h1,bH.refl _ _⟩
structure KAll (s:SP) (t:TB) (v:KV):Prop where
 ks:KS s v
 names:KNames v t
 stack:s.stack=[]
theorem kM {s:SP}{m:List Int} (h:s.stack=m):(s.drop ((s.stack.length:Int)-0)).2={ s with stack:=[] }:=by
 unfold SP.drop
 rw [if_neg (by omega)]
 simp
theorem KS.nostack {s:SP}{v:KV} (h:KS s v):KS { s with stack:=[] } v:=⟨{ h.wf with many:=by simp,words:=by simp },h.gc,h.op,h.king,h.view,h.sep,h.shape⟩
theorem KS.marks {s:SP}{v:KV} (h:KS s v) (k:Int):KS { s with h:=(s.h.marks k).2 } v :=
 ⟨{ h.wf with h:=zh h.wf.h k },zz h.gc k,h.op,h.king,h.view.keep (gg k) fun _ _=>trivial,h.sep,h.shape⟩
theorem oF {s:SP}{v:KV}{t:TB} (h:KAll s t v){j:Nat} (hj:j<v.cls.length) (hlt:v.cls.length<256){name:ByteArray}{own:List ByteArray} (hf:∀ c∈v.cls,tx t c.name≠name) :
  ((cO s t v.clsW name (v.cls[j]).oop own).1.2≠0->(cO s t v.clsW name (v.cls[j]).oop own).1.1=0∧KAll (cO s t v.clsW name (v.cls[j]).oop own).2.1 (cO s t v.clsW name (v.cls[j]).oop own).2.2 v∧(cO s t v.clsW name (v.cls[j]).oop own).2.2=t ∧
   bH s.h (cO s t v.clsW name (v.cls[j]).oop own).2.1.h (Reaches s.h s.roots)) ∧
  ((cO s t v.clsW name (v.cls[j]).oop own).1.2=0->∃ n ns l d,KAll (cO s t v.clsW name (v.cls[j]).oop own).2.1 (cO s t v.clsW name (v.cls[j]).oop own).2.2 (v.addC ⟨(cO s t v.clsW name (v.cls[j]).oop own).1.1,n,(v.cls[j]).oop,ns,l,18,18,[],[],0⟩ d) ∧
   (∃ m,(cO s t v.clsW name (v.cls[j]).oop own).2.2.texts=t.texts++m)∧tx (cO s t v.clsW name (v.cls[j]).oop own).2.2 n=name∧ns.map (tx (cO s t v.clsW name (v.cls[j]).oop own).2.2)=own):=by
 obtain ⟨hk,hn,hst⟩:=h
 have D:=Ab hk (by rw [hst];simp) hj hlt hn.wf name own
 unfold cO
 generalize gN s t v.clsW name (v.cls[j]).oop own=R at D ⊢
 obtain ⟨m,hm,hm'⟩:=D.stack
 have hd:=kM (s:=R.2.1) (m:=R.2.1.stack) rfl
 simp only [hst,List.length_nil]
 by_cases he:R.1.2=0
 ·refine ⟨fun h=>absurd he h,fun _=>?_⟩
  obtain ⟨c,n,ns,l,d,_,e1,e2,e3,e4⟩:=D.good he
  unfold lA
  rw [if_pos he,if_pos he]
  simp only [Int.natCast_zero,hd]
  have hg:=hn.grow D.wft D.pre
  have t1:=cA e3
  have t2:ns.map (tx R.2.2)=own:=by
   have h2:∀ (ns:List Nat) (own:List ByteArray),ns.map (fun n=>R.2.2.texts[n]?)=own.map some->ns.map (tx R.2.2)=own:=by
    intro ns
    induction ns with
    | nil=>intro own h;simp only [List.map_nil] at h;simpa using h.symm
    | cons a ns ih =>
     intro own h
     cases own with
     | nil=>simp at h
     | cons b own =>
      simp only [List.map_cons,List.cons.injEq] at h
      rw [List.map_cons,(cA h.1).1,ih own h.2]
   exact h2 ns own e4
  have t3:∀ x∈ns,x<R.2.2.texts.length:=fun x hx=>by
   have:R.2.2.texts[x]?∈own.map some:=by rw [←e4];exact List.mem_map.2 ⟨x,hx,rfl⟩
   obtain ⟨_,_,hs⟩:=List.mem_map.1 this
   exact (cA hs.symm).2
  refine ⟨n,ns,l,d,⟨by rw [e1];exact e2.nostack,?_,rfl⟩,D.pre,t1.1,t2⟩
  refine ⟨D.wft,fun x hx=>?_,fun x hx=>?_,hg.glob,?_⟩
  ·simp only [KV.addC,List.mem_append,List.mem_singleton] at hx
   rcases hx with hx | rfl
   ·exact hg.name x hx
   ·exact t1.2
  ·simp only [KV.addC,List.mem_append,List.mem_singleton] at hx
   rcases hx with hx | rfl
   ·exact hg.own x hx
   ·exact t3
  ·simp only [KV.addC,List.map_append,List.map_cons,List.map_nil]
   rw [List.nodup_append]
   refine ⟨hg.nodup,by simp,fun a ha b hb hab=>?_⟩
   simp only [List.mem_singleton] at hb
   subst hb
   subst hab
   obtain ⟨x,hx,hxn⟩:=List.mem_map.1 ha
   have:=hf x hx
   rw [←rl D.pre (hn.name x hx),hxn] at this
   exact this t1.1
 ·refine ⟨fun _=>?_,fun h=>absurd h he⟩
  obtain ⟨b1,b2⟩:=D.bad he
  unfold lA
  rw [if_neg he,if_neg he]
  simp only [Int.natCast_zero,hd]
  have hb:=sF D.most D.pre
  rw [hb]
  by_cases h24:R.1.2=24
  ·rw [if_pos h24]
   exact ⟨trivial,⟨b1.nostack,hn,rfl⟩,rfl,b2⟩
  ·rw [if_neg h24]
   exact ⟨trivial,⟨b1.nostack.marks _,hn,rfl⟩,rfl,b2.trans ((gg _).mono fun _ _=>trivial)⟩
theorem uc {s:SP}{v:KV}{t:TB} (h:KAll s t v) (hlt:v.glob.length<256){name:ByteArray} :
  ((dB s t (bw v.glob) name).1≠0->KAll (dB s t (bw v.glob) name).2.1 (dB s t (bw v.glob) name).2.2 v∧(dB s t (bw v.glob) name).2.2=t∧bH s.h (dB s t (bw v.glob) name).2.1.h (Reaches s.h s.roots)) ∧
  ((dB s t (bw v.glob) name).1=0->∃ n d,KAll (dB s t (bw v.glob) name).2.1 (dB s t (bw v.glob) name).2.2 (v.addG n d)∧(∃ m,(dB s t (bw v.glob) name).2.2.texts=t.texts++m)∧tx (dB s t (bw v.glob) name).2.2 n=name):=by
 obtain ⟨hk,hn,hst⟩:=h
 have D:=zC hk (by rw [hst];simp) hlt hn.wf name
 unfold dB
 generalize fA s t (bw v.glob) name=R at D ⊢
 have hd:=kM (s:=R.2.1) (m:=R.2.1.stack) rfl
 simp only [hst,List.length_nil]
 by_cases he:R.1=0
 ·refine ⟨fun h=>absurd he h,fun _=>?_⟩
  obtain ⟨n,d,e1,e2⟩:=D.good he
  unfold lA
  rw [if_pos he]
  simp only [Int.natCast_zero,hd]
  have hg:=hn.grow D.wft D.pre
  have t1:=cA e2
  refine ⟨n,d,⟨e1.nostack,{ hg with glob:=fun p hp=>?_ },rfl⟩,D.pre,t1.1⟩
  simp only [KV.addG,List.mem_append,List.mem_singleton] at hp
  rcases hp with hp | rfl
  ·exact hg.glob p hp
  ·exact t1.2
 ·refine ⟨fun _=>?_,fun h=>absurd h he⟩
  obtain ⟨b1,b2⟩:=D.bad he
  unfold lA
  rw [if_neg he]
  simp only [Int.natCast_zero,hd]
  have hb:=sF D.most D.pre
  rw [hb]
  by_cases h24:R.1=24
  ·rw [if_pos h24]
   exact ⟨⟨b1.nostack,hn,rfl⟩,rfl,b2⟩
  ·rw [if_neg h24]
   exact ⟨⟨b1.nostack.marks _,hn,rfl⟩,rfl,b2.trans ((gg _).mono fun _ _=>trivial)⟩
theorem KAll.marks {s:SP}{t:TB}{v:KV} (h:KAll s t v) (k:Int):KAll { s with h:=(s.h.marks k).2 } t v:=⟨h.ks.marks k,h.names,h.stack⟩
theorem KAll.collect {s:SP}{t:TB}{v:KV} (h:KAll s t v):KAll s.collect.2 t v:=by
 have hr:=rQ s
 exact ⟨⟨uj h.ks.wf,uJ h.ks.gc,hr.2.2.trans h.ks.op,hr.1.trans h.ks.king,h.ks.view.keep (pu h.ks.wf.h) h.ks.reach,h.ks.sep,h.ks.shape⟩,h.names,hr.2.1.trans h.stack⟩
def KV.setG (v:KV) (i:Nat) (w:Int):KV:={ v with glob:=v.glob.set i ((v.glob.getD i (0,0)).1,w) }
theorem KAll.setG {s:SP}{t:TB}{v:KV} (h:KAll s t v){i:Nat} (hi:i<v.glob.length){w:Int} (hw:dG w) :
  (s.h.put v.globA (2*(i:Int)+1) w).1=0∧KAll { s with h:=(s.h.put v.globA (2*(i:Int)+1) w).2 } t (v.setG i w):=by
 obtain ⟨hk,hn,hst⟩:=h
 have hga:=hk.view.globs
 have hlen:=fY v.glob
 obtain ⟨p1,p2⟩:=jK hga (i:=2*(i:Int)+1) (w:=w) (by omega) (by omega) hw
 have pk:=gD (r:=s.h) v.globA (2*(i:Int)+1) w
 have e0:(2*(i:Int)+1).toNat=2*i+1:=by omega
 rw [e0,wy hi] at p1
 have eg:v.glob.set i (v.glob[i].1,w)=(v.setG i w).glob:=by simp [KV.setG,hi]
 rw [eg] at p1
 have hs:=hk.sep
 have hne:(bw v.glob)≠[]:=fun e=>by rw [e] at hlen;simp at hlen;omega
 unfold D8 at hs
 simp only [KV.roles] at hs
 rw [List.pairwise_cons,List.pairwise_cons,List.pairwise_cons] at hs
 obtain ⟨hs1,hs2,hs3,hs4⟩:=hs
 have o1:(19:Int)≠v.globA:=fun e=>by
  have:=hs1 (v.globA,bw v.glob) (by simp) e
  simp [KV.rootW] at this
 have o2:v.clsA≠v.globA:=fun e=>by
  have:=hs2 (v.globA,bw v.glob) (by simp) e
  have hm:=hk.shape.many0
  simp only [KV.clsW,List.map_eq_nil_iff] at this
  rw [this] at hm;simp at hm
 have o3:∀ q∈(1,[]) :: (18,[]) :: cD v.cls 0,q.1≠v.globA:=fun q hq e=>hne (hs3 q hq e.symm)
 refine ⟨p2,⟨{ hk.wf with h:=il hk.wf.h _ _ _ },mg hk.gc _ _ _,hk.op,hk.king,?_,?_,?_⟩,?_,hst⟩
 ·refine dN.of ?_ ?_ p1 ?_ ?_ ?_
  ·exact (hk.view.root).keep pk o1
  ·exact (hk.view.all).keep pk o2
  ·exact (hk.view.nil).keep pk (o3 (1,[]) (by simp))
  ·exact (hk.view.empty).keep pk (o3 (18,[]) (by simp))
  ·intro p hp
   exact (hk.view p (by simp only [KV.setG] at hp;simp [KV.roles,hp])).keep pk (o3 p (by simp only [KV.setG] at hp;simp [hp]))
 ·unfold D8
  simp only [KV.roles,KV.setG]
  refine List.pairwise_cons.2 ⟨fun q hq he=>?_,List.pairwise_cons.2 ⟨fun q hq he=>?_,List.pairwise_cons.2 ⟨fun q hq he=>?_,hs4⟩⟩⟩
  ·rcases List.mem_cons.1 hq with rfl | hq
   ·exact hs1 (v.clsA,v.clsW) (by simp) he
   ·rcases List.mem_cons.1 hq with rfl | hq
    ·exact absurd he o1
    ·exact hs1 q (by simp only [List.mem_cons];exact .inr (.inr (by simpa using hq))) he
  ·rcases List.mem_cons.1 hq with rfl | hq
   ·exact absurd he o2
   ·exact hs2 q (List.mem_cons_of_mem _ hq) he
  ·exact absurd he.symm (o3 q hq)
 ·exact { hk.shape with globs:=by simp only [KV.setG,List.length_set];exact hk.shape.globs }
 ·refine { hn with glob:=fun p hp=>?_ }
  simp only [KV.setG] at hp
  rcases List.mem_or_eq_of_mem_set hp with hp | rfl
  ·exact hn.glob p hp
  ·simp only [List.getD_eq_getElem?_getD,List.getElem?_eq_getElem hi,Option.getD_some]
   exact hn.glob _ (List.getElem_mem hi)
end Kw
namespace Kw
open Go
def gY (w:Int):Int:=if cz w=3 then w / 4 else 0
def Aa (w:Int):Int:=if cz w=1 then w / 2 else 0
def pP (t:TB) (w:Int):ByteArray:=if cz w=2 then tx t (w / 4).toNat else ⟨#[]⟩
def kslot (r:RH) (o i:Int):Int:=(r.at o i).1
def eY (r:RH) (o i:Int):Int:=gY (kslot r o i)
def qX (r:RH) (o i:Int):Int:=Aa (kslot r o i)
def jW (r:RH) (t:TB) (o i:Int):ByteArray:=pP t (kslot r o i)
def ksize (r:RH) (o:Int):Int:=(r.size o).1
theorem cK {o:Int} (h0:1<=o) (h1:o<=65536):gY (4*o)=o:=by
 unfold gY
 have:=bG (4*o)
 rw [if_pos (by omega)];omega
theorem zB {n:Int} (h0:-1073741824<=n) (h1:n<=1073741823):Aa (2*n+1)=n:=by
 unfold Aa
 have:=bG (2*n+1)
 rw [if_pos (by omega)];omega
theorem jN {t:TB} (hw:WFT t){n:Nat} (h:n<t.texts.length):pP t (bD n)=tx t n:=by
 unfold pP bD
 have h1:=hw.m1
 have h2:=hw.len
 have:=bG (4*(n:Int)+2)
 rw [if_pos (by omega)]
 congr 1;omega
theorem eQ.kslot {r:RH}{o:Int}{ws:List Int} (h:eQ r o ws){i:Nat} (hi:i<ws.length):kslot r o i=ws[i]:=by
 unfold Kw.kslot
 rw [h.at (by omega) (by omega)]
 simp
theorem eQ.ksize {r:RH}{o:Int}{ws:List Int} (h:eQ r o ws):ksize r o=ws.length:=by unfold Kw.ksize;rw [h.size]
theorem hZ {r:RH} (o:Int):0<=ksize r o:=by
 unfold ksize RH.size
 cases aH r.objs o with
 | none=>exact Int.le_refl 0
 | some x=>exact Int.natCast_nonneg _
theorem mY {r:RH} (hw:WFH r) (o:Int):ksize r o<=8192:=by
 unfold ksize RH.size
 cases ho:aH r.objs o with
 | none=>exact Int.le_of_lt (by decide)
 | some x=>have:=(hw.objs.good x (aM ho).1).many;simp only;omega
def kwords (r:RH) (o:Int):List Int:=(List.range (ksize r o).toNat).map fun i:Nat=>kslot r o i
theorem eQ.kwords {r:RH}{o:Int}{ws:List Int} (h:eQ r o ws):kwords r o=ws:=by
 unfold Kw.kwords
 rw [h.ksize,Int.toNat_natCast]
 apply List.ext_getElem (by simp)
 intro i h1 h2
 simp only [List.getElem_map,List.getElem_range]
 exact h.kslot h2
section
variable {s:SP}{v:KV}{t:TB}
theorem KS.root0 (h:KS s v):eY s.h 19 0=v.clsA:=by
 have hb:=h.view.all.bnd h.wf.h
 have hr:=h.view.root
 unfold eY
 rw [show (0:Int)=((0:Nat):Int) from rfl,hr.kslot (by simp [KV.rootW])]
 exact cK hb.1 hb.2.1
theorem KS.root1 (h:KS s v):eY s.h 19 1=v.globA:=by
 have hb:=h.view.globs.bnd h.wf.h
 have hr:=h.view.root
 unfold eY
 rw [show (1:Int)=((1:Nat):Int) from rfl,hr.kslot (by simp [KV.rootW])]
 exact cK hb.1 hb.2.1
theorem KS.size0 (h:KS s v):ksize s.h v.clsA=v.cls.length:=by rw [h.view.all.ksize];simp [KV.clsW]
theorem KS.size1 (h:KS s v):ksize s.h v.globA=2*v.glob.length:=by rw [h.view.globs.ksize,fY];simp
theorem KS.clsAt (h:KS s v){i:Nat} (hi:i<v.cls.length):kslot s.h v.clsA i=4*(v.cls[i]).oop∧eY s.h v.clsA i=(v.cls[i]).oop:=by
 have hb:=(h.view.cls hi).bnd h.wf.h
 have e:kslot s.h v.clsA i=4*(v.cls[i]).oop:=by rw [h.view.all.kslot (by simpa [KV.clsW] using hi)];simp [KV.clsW]
 exact ⟨e,by unfold eY;rw [e];exact cK hb.1 hb.2.1⟩
theorem KS.globAt (h:KS s v){i:Nat} (hi:i<v.glob.length):kslot s.h v.globA (2*i:Nat)=bD v.glob[i].1∧kslot s.h v.globA (2*i+1:Nat)=v.glob[i].2:=by
 have hg:=qe hi
 have hl:=fY v.glob
 refine ⟨?_,?_⟩
 ·rw [h.view.globs.kslot (by omega)]
  have:=hg.1
  rw [List.getElem?_eq_getElem (by omega)] at this
  simpa using this
 ·rw [h.view.globs.kslot (by omega)]
  have:=hg.2
  rw [List.getElem?_eq_getElem (by omega)] at this
  simpa using this
theorem KS.c0 (h:KS s v){i:Nat} (hi:i<v.cls.length):kslot s.h (v.cls[i]).oop 0=bD (v.cls[i]).name:=(h.view.cls hi).kslot (i:=0) (by simp [CV.slots])
theorem KS.c1 (h:KS s v){i:Nat} (hi:i<v.cls.length):kslot s.h (v.cls[i]).oop 1=4*(v.cls[i]).up:=(h.view.cls hi).kslot (i:=1) (by simp [CV.slots])
theorem KS.c2 (h:KS s v){i:Nat} (hi:i<v.cls.length):kslot s.h (v.cls[i]).oop 2=4*(v.cls[i]).ownA:=(h.view.cls hi).kslot (i:=2) (by simp [CV.slots])
theorem KS.c3 (h:KS s v){i:Nat} (hi:i<v.cls.length):kslot s.h (v.cls[i]).oop 3=4*(v.cls[i]).selA:=(h.view.cls hi).kslot (i:=3) (by simp [CV.slots])
theorem KS.c4 (h:KS s v){i:Nat} (hi:i<v.cls.length):kslot s.h (v.cls[i]).oop 4=4*(v.cls[i]).metA:=(h.view.cls hi).kslot (i:=4) (by simp [CV.slots])
theorem KS.c5 (h:KS s v){i:Nat} (hi:i<v.cls.length):kslot s.h (v.cls[i]).oop 5=2*(v.cls[i]).lay+1:=(h.view.cls hi).kslot (i:=5) (by simp [CV.slots])
theorem KS.c6 (h:KS s v){i:Nat} (hi:i<v.cls.length):kslot s.h (v.cls[i]).oop 6=2*((i:Int)+1)+1:=(h.view.cls hi).kslot (i:=6) (by simp [CV.slots])
theorem KS.upB (h:KS s v){i:Nat} (hi:i<v.cls.length):1<=(v.cls[i]).up∧(v.cls[i]).up<=65536:=by
 by_cases h0:i=0
 ·subst h0;rw [(h.shape.up0 hi).1];decide
 ·obtain ⟨j,hj,_,e⟩:=h.shape.ups i hi (by omega)
  rw [←e]
  have:=(h.view.cls hj).bnd h.wf.h
  exact ⟨this.1,this.2.1⟩
theorem KS.up (h:KS s v){i:Nat} (hi:i<v.cls.length):eY s.h (v.cls[i]).oop 1=(v.cls[i]).up:=by
 unfold eY;rw [h.c1 hi];exact cK (h.upB hi).1 (h.upB hi).2
theorem KS.up1 (h:KS s v){i:Nat} (hi:i<v.cls.length):(v.cls[i]).up=1↔i=0:=by
 constructor
 ·intro e
  by_cases h0:i=0
  ·exact h0
  ·obtain ⟨j,hj,_,e'⟩:=h.shape.ups i hi (by omega)
   exact absurd (e'.trans e) (h.view.ne1 hj)
 ·rintro rfl;exact (h.shape.up0 hi).1
theorem KS.ownO (h:KS s v){i:Nat} (hi:i<v.cls.length):eY s.h (v.cls[i]).oop 2=(v.cls[i]).ownA:=by
 have hb:=(h.view.own hi).bnd h.wf.h
 unfold eY;rw [h.c2 hi];exact cK hb.1 hb.2.1
theorem KS.num (h:KS s v){i:Nat} (hi:i<v.cls.length):qX s.h (v.cls[i]).oop 6=(i:Int)+1:=by
 have:=h.shape.many1
 unfold qX;rw [h.c6 hi];exact zB (by omega) (by omega)
theorem KAll.name (h:KAll s t v){i:Nat} (hi:i<v.cls.length):jW s.h t (v.cls[i]).oop 0=tx t (v.cls[i]).name:=by
 unfold jW;rw [h.ks.c0 hi];exact jN h.names.wf (h.names.name _ (List.getElem_mem hi))
theorem KAll.gname (h:KAll s t v){i:Nat} (hi:i<v.glob.length):jW s.h t v.globA (2*i:Nat)=tx t v.glob[i].1:=by
 unfold jW;rw [(h.ks.globAt hi).1];exact jN h.names.wf (h.names.glob _ (List.getElem_mem hi))
theorem KAll.ownT (h:KAll s t v){i:Nat} (hi:i<v.cls.length){j:Nat} (hj:j<(v.cls[i]).own.length):jW s.h t (v.cls[i]).ownA j=tx t (v.cls[i]).own[j]:=by
 unfold jW
 rw [(h.ks.view.own hi).kslot (i:=j) (by simpa using hj)]
 simp only [List.getElem_map]
 exact jN h.names.wf (h.names.own _ (List.getElem_mem hi) _ (List.getElem_mem hj))
theorem KS.ownL (h:KS s v){i:Nat} (hi:i<v.cls.length):ksize s.h (v.cls[i]).ownA=(v.cls[i]).own.length:=by rw [(h.view.own hi).ksize];simp
end
def dZ (v:KV) (o:Int):Option Nat:=v.cls.findIdx? fun c=>decide (c.oop=o)
theorem cd {v:KV}{o:Int}{i:Nat} (h:dZ v o=some i):∃ hi:i<v.cls.length,(v.cls[i]).oop=o:=by
 unfold dZ at h
 rw [List.findIdx?_eq_some_iff_getElem] at h
 obtain ⟨hi,h1,_⟩:=h
 exact ⟨hi,by simpa using h1⟩
theorem sJ {v:KV}{o:Int} (h:dZ v o=none):∀ i (hi:i<v.cls.length),(v.cls[i]).oop≠o:=by
 unfold dZ at h
 rw [List.findIdx?_eq_none_iff] at h
 intro i hi
 simpa using h _ (List.getElem_mem hi)
theorem KS.idx {s:SP}{v:KV} (h:KS s v){i:Nat} (hi:i<v.cls.length):dZ v (v.cls[i]).oop=some i:=by
 cases hx:dZ v (v.cls[i]).oop with
 | none=>exact absurd rfl (sJ hx i hi)
 | some j =>
  obtain ⟨hj,e⟩:=cd hx
  rw [h.view.inj hj hi e]
def dP (v:KV) (t:TB) (name:ByteArray):Int × Int:=match v.cls.findIdx? (fun c=>decide (tx t c.name=name)) with
 | some i=>((v.cls.getD i ⟨0,0,0,[],0,0,0,[],[],0⟩).oop,0)
 | none=>(0,130)
def eJ (v:KV) (i:Nat):Int:=match v.cls[i]? with
 | some c=>if c.up=1 then 0 else c.up
 | none=>0
def upIdx (v:KV) (i:Nat):Option Nat:=dZ v (eJ v i)
def bQ (v:KV) (i:Nat):List Nat:=match v.cls[i]? with
 | none=>[]
 | some c=>match upIdx v i with
  | some j=>if j<i then bQ v j++c.own else c.own
  | none=>c.own
termination_by i
theorem KS.upI {s:SP}{v:KV} (h:KS s v){i:Nat} (hi:i<v.cls.length):(i=0∧eJ v i=0∧upIdx v i=none)∨(∃ j,∃ hj:j<v.cls.length,j<i∧eJ v i=(v.cls[j]).oop∧(v.cls[i]).up=(v.cls[j]).oop∧upIdx v i=some j):=by
 have e:eJ v i=if (v.cls[i]).up=1 then 0 else (v.cls[i]).up:=by unfold eJ;rw [List.getElem?_eq_getElem hi]
 by_cases h0:i=0
 ·left
  have hu:(v.cls[i]).up=1:=(h.up1 hi).2 h0
  rw [if_pos hu] at e
  refine ⟨h0,e,?_⟩
  unfold Kw.upIdx
  rw [e]
  cases hx:dZ v 0 with
  | none=>rfl
  | some j =>
   obtain ⟨hj,e'⟩:=cd hx
   have:=((h.view.cls hj).bnd h.wf.h).1
   omega
 ·right
  obtain ⟨j,hj,hlt,e'⟩:=h.shape.ups i hi (by omega)
  have hu:(v.cls[i]).up≠1:=fun hx=>h0 ((h.up1 hi).1 hx)
  rw [if_neg hu] at e
  refine ⟨j,hj,hlt,by rw [e,e'],e'.symm,?_⟩
  unfold Kw.upIdx
  rw [e,←e']
  exact h.idx hj
theorem KS.fields0 {s:SP}{v:KV} (h:KS s v) (h0:0<v.cls.length):bQ v 0=(v.cls[0]).own:=by
 rw [bQ,List.getElem?_eq_getElem h0]
 rcases h.upI h0 with ⟨_,_,e⟩ | ⟨j,_,hlt,_⟩
 ·simp only [e]
 ·omega
theorem KS.fieldsS {s:SP}{v:KV} (h:KS s v){i j:Nat} (hi:i<v.cls.length) (hj:j<i) (e:Kw.upIdx v i=some j):bQ v i=bQ v j++(v.cls[i]).own:=by
 rw [bQ,List.getElem?_eq_getElem hi]
 simp only [e,if_pos hj]
structure CI where
 name:ByteArray
 sup:ByteArray
 own:List ByteArray
 lay:Int
def cj (v:KV) (t:TB) (i:Nat):CI:=match v.cls[i]? with
 | some c=>⟨tx t c.name,match upIdx v i with
  | some j=>match v.cls[j]? with
   | some d=>tx t d.name
   | none=>⟨#[]⟩
  | none=>⟨#[]⟩,c.own.map (tx t),c.lay⟩
 | none=>⟨⟨#[]⟩,⟨#[]⟩,[],0⟩
def cE (v:KV) (t:TB):List ByteArray:=v.glob.map fun p=>tx t p.1
def jy (v:KV) (i:Int):Int × Int:=if h:0<=i∧i<v.glob.length then ((v.glob[i.toNat]'(by omega)).2,0) else (0,1)
end Kw
namespace Kw
open Go
def eV (s:SP) (v:KV) (n w:Int):Int × SP:=if n<0∨(v.glob.length:Int)<=n then (1,s) else if ¬ dG w then (10,s) else ((s.h.put v.globA (2*n+1) w).1,{ s with h:=(s.h.put v.globA (2*n+1) w).2 })
theorem iW {s:SP}{v:KV} (h:KS s v):∀ i:Nat,i<v.cls.length->(bQ v i).length<=8192*(i+1):=by
 intro i
 induction i using Nat.strongRecOn with
 | ind i ih =>
  intro hi
  have hb:(v.cls[i]).own.length<=8192:=by have:=((h.view.own hi).bnd h.wf.h).2.2.1;simpa using this
  rcases h.upI hi with ⟨h0,_,_⟩ | ⟨j,hj,hlt,_,_,e⟩
  ·subst h0;rw [h.fields0 hi];omega
  ·rw [h.fieldsS hi hlt e,List.length_append]
   have:=ih j hlt hj
   omega
end Kw
namespace Go.Proofs.YtmkdkplipbocjaaGreatDoor
open Kw
theorem mO {H:aj}{x v:Value}{t:TypeId}{fr:Nat × Nat}:au (H.push (.cells #[x] t fr)) ⟨H.size,0,none⟩ v=H.push (.cells #[v] t fr):=by
 rw [az];rfl
theorem Fr.late {H H2:aj} (h:Fr [] H H2){b o:Nat}{v:Value} (hb:H.size<=b):Fr [] H (au H2 ⟨b,o,none⟩ v) :=
 ⟨Nat.le_trans h.1 (Fr.set (F:=[b]) (H:=H2) (a:=⟨b,o,none⟩) (v:=v) (by simp)).1,fun c hc _=>by rw [dI (by simp only;omega)];exact h.2 c hc (by simp)⟩
def PK (H:aj) (b:Nat) (F:ay) (s:SP) (t:TB):Prop:=∃ sb tb F1 F2,F=b :: (F1++F2)∧b∉F1∧b∉F2∧bi F1 F2∧b≠aE∧aE∉F2 ∧
 bA H b #[.pointer (some ⟨sb,0,none⟩),.pointer (some ⟨tb,0,none⟩)]∧gn H sb F1 s∧mS H tb F2 t
theorem PK.lt {H:aj}{b:Nat}{F:ay}{s:SP}{t:TB} (h:PK H b F s t):∀ x∈F,x<H.size:=by
 obtain ⟨sb,tb,F1,F2,rfl,h1,h2,h3,k1,k2,hB,hS,hT⟩:=h
 intro x hx
 rcases List.mem_cons.1 hx with rfl | hx
 ·exact hB.lt
 ·rcases List.mem_append.1 hx with hx | hx
  ·exact hS.lt x hx
  ·exact hT.lt x hx
theorem PK.bmem {H:aj}{b:Nat}{F:ay}{s:SP}{t:TB} (h:PK H b F s t):b∈F:=by obtain ⟨_,_,_,_,rfl,_⟩:=h;simp
theorem PK.kinds {H:aj}{b:Nat}{F:ay}{s:SP}{t:TB} (h:PK H b F s t):dw H:=by obtain ⟨_,_,_,_,_,_,_,_,_,_,_,hS,_⟩:=h;exact hS.kinds
theorem PK.gk {H:aj}{b:Nat}{F:ay}{s:SP}{t:TB} (h:PK H b F s t):aE∉F:=by
 obtain ⟨sb,tb,F1,F2,rfl,h1,h2,h3,k1,k2,hB,hS,hT⟩:=h
 simp only [List.mem_cons,List.mem_append,not_or]
 exact ⟨fun e=>k1 e.symm,hS.gk,k2⟩
theorem PK.fr {H H':aj}{b:Nat}{F G:ay}{s:SP}{t:TB} (h:PK H b F s t) (hf:Fr G H H') (hd:bi F G) (hg:aE∉G):PK H' b F s t:=by
 obtain ⟨sb,tb,F1,F2,rfl,h1,h2,h3,k1,k2,hB,hS,hT⟩:=h
 exact ⟨sb,tb,F1,F2,rfl,h1,h2,h3,k1,k2,hB.fr hf (hd b (by simp)),hS.fr hf (hd.mono (fun x hx=>by simp [hx]) fun _ h=>h) hg,hT.fr hf (hd.mono (fun x hx=>by simp [hx]) fun _ h=>h)⟩
theorem PK.nil {H H':aj}{b:Nat}{F:ay}{s:SP}{t:TB} (h:PK H b F s t) (hf:Fr [] H H'):PK H' b F s t:=h.fr hf (bi.nil_right _) (by simp)
theorem PK.wfs {H:aj}{b:Nat}{F:ay}{s:SP}{t:TB} (h:PK H b F s t):WFS s:=by obtain ⟨_,_,_,_,_,_,_,_,_,_,_,hS,_⟩:=h;exact hS.wf
theorem PK.wft {H:aj}{b:Nat}{F:ay}{s:SP}{t:TB} (h:PK H b F s t):WFT t:=by obtain ⟨_,_,_,_,_,_,_,_,_,_,_,_,hT⟩:=h;exact hT.wf
theorem PK.sp {H:aj}{b:Nat}{F:ay}{s:SP}{t:TB} (h:PK H b F s t):∃ sb F1,ac H ⟨b,0,none⟩=some (.pointer (some ⟨sb,0,none⟩))∧gn H sb F1 s∧(∀ x∈F1,x∈F)∧b∉F1 ∧
  (∀ H' F1' s',gn H' sb F1' s'->Up F1 H F1' H'->∃ F',PK H' b F' s' t∧Up F H F' H')∧(∀ H' s',gn H' sb F1 s'->Fr F1 H H'->PK H' b F s' t):=by
 have hlt:=h.lt
 have hgl:=h.kinds.lt
 obtain ⟨sb,tb,F1,F2,rfl,h1,h2,h3,k1,k2,hB,hS,hT⟩:=h
 refine ⟨sb,F1,hB.cell 0,hS,fun x hx=>by simp [hx],h1,fun H' F1' s' hS' hu=>⟨b :: (F1'++F2),⟨sb,tb,F1',F2,rfl,fun hx=>?_,h2,fun x hx hx2=>?_,k1,k2,hB.fr hu.1 h1,hS',hT.fr hu.1 h3.symm⟩,hu.1.mono fun x hx=>by simp [hx],fun x hx=>?_⟩,fun H' s' hS' hf=>⟨sb,tb,F1,F2,rfl,h1,h2,h3,k1,k2,hB.fr hf h1,hS',hT.fr hf h3.symm⟩⟩
 ·rcases hu.2 b hx with h4 | h4
  ·exact h1 h4
  ·have:=hlt b (by simp);omega
 ·rcases hu.2 x hx with h4 | h4
  ·exact h3 x h4 hx2
  ·have:=hlt x (by simp [hx2]);omega
 ·rcases List.mem_cons.1 hx with rfl | hx
  ·exact .inl (by simp)
  ·rcases List.mem_append.1 hx with hx | hx
   ·exact (hu.2 x hx).imp (fun h4=>by simp [h4]) id
   ·exact .inl (by simp [hx])
theorem PK.tb {H:aj}{b:Nat}{F:ay}{s:SP}{t:TB} (h:PK H b F s t):∃ tb F2,ac H ⟨b,1,none⟩=some (.pointer (some ⟨tb,0,none⟩))∧mS H tb F2 t∧(∀ x∈F2,x∈F)∧b∉F2 ∧
  (∀ H' F2' t',mS H' tb F2' t'->Up F2 H F2' H'->∃ F',PK H' b F' s t'∧Up F H F' H')∧(∀ H' t',mS H' tb F2 t'->Fr F2 H H'->PK H' b F s t'):=by
 have hlt:=h.lt
 have hgl:=h.kinds.lt
 obtain ⟨sb,tb,F1,F2,rfl,h1,h2,h3,k1,k2,hB,hS,hT⟩:=h
 have hgS:=hS.gk
 refine ⟨tb,F2,hB.cell 1,hT,fun x hx=>by simp [hx],h2,fun H' F2' t' hT' hu=>⟨b :: (F1++F2'),⟨sb,tb,F1,F2',rfl,h1,fun hx=>?_,fun x hx hx2=>?_,k1,fun hx=>?_,hB.fr hu.1 h2,hS.fr hu.1 h3 k2,hT'⟩,hu.1.mono fun x hx=>by simp [hx],fun x hx=>?_⟩,fun H' t' hT' hf=>⟨sb,tb,F1,F2,rfl,h1,h2,h3,k1,k2,hB.fr hf h2,hS.fr hf h3 k2,hT'⟩⟩
 ·rcases hu.2 b hx with h4 | h4
  ·exact h2 h4
  ·have:=hlt b (by simp);omega
 ·rcases hu.2 x hx2 with h4 | h4
  ·exact h3 x hx h4
  ·have:=hlt x (by simp [hx]);omega
 ·rcases hu.2 _ hx with h4 | h4
  ·exact k2 h4
  ·omega
 ·rcases List.mem_cons.1 hx with rfl | hx
  ·exact .inl (by simp)
  ·rcases List.mem_append.1 hx with hx | hx
   ·exact .inl (by simp [hx])
   ·exact (hu.2 x hx).imp (fun h4=>by simp [h4]) id
abbrev rd (b:Nat):Value:=.agg #[.pointer (some ⟨b,0,none⟩)]
section
variable {H:aj}{b:Nat}{F:ay}{s:SP}{t:TB}{Q:QT}
theorem iZ (hK:PK H b F s t) (h:Q (.bool true) H):ah PP NZ #[.pointer (some ⟨b,0,none⟩)] Q H:=by
 obtain ⟨sb,F1,hc,_⟩:=hK.sp
 apply ET
 unfold RQ pV
 exact ⟨_,rfl,_,hc,h⟩
theorem oZ (hK:PK H b F s t){o i:Int} (h:∀ H',Fr [] H H'->Q (.int .i64 (kslot s.h o i)) H'):ah PP Kp #[rd b,.int .i64 o,.int .i64 i] Q H:=by
 apply Bb
 unfold Lz A0 iV pV cS
 have hf:Fr [] H (H.push (.cells #[.pointer (some ⟨b,0,none⟩)] 131)):=Fr.push _ _ _
 obtain ⟨sb,F1,hc,hS,_⟩:=(hK.nil hf).sp
 refine ⟨_,(bA.new _ _ _).cell 0,_,rfl,_,hc,cU hS fun hb F2 hR _ _=>⟨_,rfl,si hR ⟨_,_,rfl,h _ hf⟩⟩⟩
theorem pJ (hK:PK H b F s t){o i:Int} (h:∀ H',Fr [] H H'->Q (.int .i64 (eY s.h o i)) H'):ah PP Ef #[rd b,.int .i64 o,.int .i64 i] Q H:=by
 apply Kv
 unfold Rs A0 iV pV cS
 have hf:Fr [] H (H.push (.cells #[.pointer (some ⟨b,0,none⟩)] 131)):=Fr.push _ _ _
 have hK1:=hK.nil hf
 refine ⟨_,(bA.new _ _ _).cell 0,oZ hK1 fun H' hf'=>⟨_,rfl,mu (hK1.nil hf').kinds ?_⟩⟩
 have:=h H' (hf.trans hf')
 unfold eY gY at this
 unfold qD
 split
 ·rename_i hk;rw [if_pos hk] at this;exact ⟨_,_,rfl,this⟩
 ·rename_i hk;rw [if_neg hk] at this;exact ⟨_,_,rfl,this⟩
theorem xO (hK:PK H b F s t){o i:Int} (h:∀ H',Fr [] H H'->Q (.int .i64 (qX s.h o i)) H'):ah PP GU #[rd b,.int .i64 o,.int .i64 i] Q H:=by
 apply Ca
 unfold MH A0 iV pV cS
 have hf:Fr [] H (H.push (.cells #[.pointer (some ⟨b,0,none⟩)] 131)):=Fr.push _ _ _
 have hK1:=hK.nil hf
 refine ⟨_,(bA.new _ _ _).cell 0,oZ hK1 fun H' hf'=>⟨_,rfl,LE (hK1.nil hf').kinds ?_⟩⟩
 have:=h H' (hf.trans hf')
 unfold qX Aa at this
 unfold qD
 split
 ·rename_i hk;rw [if_pos hk] at this;exact ⟨_,_,rfl,this⟩
 ·rename_i hk;rw [if_neg hk] at this;exact ⟨_,_,rfl,this⟩
theorem tU (hK:PK H b F s t){o i:Int} (h:∀ H',Fr [] H H'->Q (.string (jW s.h t o i)) H'):ah PP Ix #[rd b,.int .i64 o,.int .i64 i] Q H:=by
 apply Dl
 unfold NK A0 iV pV sV cS
 have hf:Fr [] H (H.push (.cells #[.pointer (some ⟨b,0,none⟩)] 131)):=Fr.push _ _ _
 have hK1:=hK.nil hf
 refine ⟨_,(bA.new _ _ _).cell 0,oZ hK1 fun H' hf'=>⟨_,rfl,vf (hK1.nil hf').kinds ?_⟩⟩
 have hB':=(bA.new H #[.pointer (some ⟨b,0,none⟩)] 131).fr hf' (by simp)
 have:=h H' (hf.trans hf')
 unfold jW pP at this
 unfold qD
 split
 ·rename_i hk
  rw [if_pos hk] at this
  refine ⟨_,_,rfl,?_⟩
  simp only [show ((0:Int) != 0)=false from rfl,cond_false]
  obtain ⟨tb,F2,hc,hT,_⟩:=(hK1.nil hf').tb
  refine ⟨_,hB'.cell 0,_,rfl,_,hc,sE hT ?_⟩
  unfold nP
  by_cases hlt:0<=kslot s.h o i / 4∧kslot s.h o i / 4<t.texts.length
  ·rw [dif_pos hlt]
   refine ⟨_,_,rfl,?_⟩
   have e:t.texts[(kslot s.h o i / 4).toNat]'(by omega)=tx t (kslot s.h o i / 4).toNat:=by
    unfold tx
    rw [List.getD_eq_getElem?_getD,List.getElem?_eq_getElem (by omega)];rfl
   rw [e];exact this
  ·rw [dif_neg hlt]
   refine ⟨_,_,rfl,?_⟩
   have hk':=bG (kslot s.h o i)
   have e:tx t (kslot s.h o i / 4).toNat=⟨#[]⟩:=by
    unfold tx
    rw [List.getD_eq_getElem?_getD,List.getElem?_eq_none (by omega)];rfl
   rw [e] at this;exact this
 ·rename_i hk
  rw [if_neg hk] at this
  exact ⟨_,_,rfl,this⟩
theorem jd (hK:PK H b F s t){o:Int} (h:∀ H',Fr [] H H'->Q (.int .i64 (ksize s.h o)) H'):ah PP MN #[rd b,.int .i64 o] Q H:=by
 apply Hq
 unfold QX A0 iV pV cS
 have hf:Fr [] H (H.push (.cells #[.pointer (some ⟨b,0,none⟩)] 131)):=Fr.push _ _ _
 obtain ⟨sb,F1,hc,hS,_⟩:=(hK.nil hf).sp
 refine ⟨_,(bA.new _ _ _).cell 0,_,rfl,_,hc,cU hS fun hb F2 hR _ _=>⟨_,rfl,ra hR ⟨_,_,_,rfl,h _ hf⟩⟩⟩
theorem iR (hK:PK H b F s t){i:Int} (h:∀ H',Fr [] H H'->Q (.int .i64 (eY s.h 19 i)) H'):ah PP Ll #[rd b,.int .i64 i] Q H:=by
 apply E1
 unfold QW A0 iV pV cS
 have hf:Fr [] H (H.push (.cells #[.pointer (some ⟨b,0,none⟩)] 131)):=Fr.push _ _ _
 exact ⟨_,(bA.new _ _ _).cell 0,pJ (hK.nil hf) fun H' hf'=>⟨_,rfl,h _ (hf.trans hf')⟩⟩
theorem vh (hK:PK H b F s t){o:Int} (h:∀ H',Fr [] H H'->Q (.int .i64 (if eY s.h o 1=1 then 0 else eY s.h o 1)) H'):ah PP Kf #[rd b,.int .i64 o] Q H:=by
 apply DP
 unfold Pd A0 iV pV cS
 have hf:Fr [] H (H.push (.cells #[.pointer (some ⟨b,0,none⟩)] 131)):=Fr.push _ _ _
 refine ⟨_,(bA.new _ _ _).cell 0,pJ (hK.nil hf) fun H' hf'=>⟨_,rfl,?_⟩⟩
 have:=h _ (hf.trans hf')
 rw [bf,ae]
 refine aA (fun h1=>?_) fun h1=>?_
 ·rw [if_neg h1] at this;exact this
 ·rw [if_pos (Classical.byContradiction h1)] at this;exact this
def iT (r:RH) (t:TB) (o:Int):List ByteArray:=(List.range (ksize r o).toNat).map fun i:Nat=>jW r t o i
theorem Df (hK:PK H b F s t){o:Int} (h:∀ a l c G H',bv 1 H' a l c (aO (iT s.h t o)) G->Fr [] H H'->(∀ x∈G,H.size<=x)->Q (.slice a l c) H'):ah PP xR #[rd b,.int .i64 o] Q H:=by
 have hs1:aF PP 37=some (1,16,some (.string (⟨#[]⟩:ByteArray))):=by kernel_rfl
 have hn0:=hZ (r:=s.h) o
 have hn1:=mY hK.wfs.h o
 apply AK
 unfold MA A0 iV wW pV sV lV cS
 have hf:Fr [] H (H.push (.cells #[.pointer (some ⟨b,0,none⟩)] 131)):=Fr.push _ _ _
 refine ⟨_,(bA.new _ _ _).cell 0,jd (hK.nil hf) fun H0 hf0=>⟨_,rfl,?_⟩⟩
 have hB0:=(bA.new H #[.pointer (some ⟨b,0,none⟩)] 131).fr hf0 (by simp)
 refine ⟨fun w H'=>∃(i:Nat) (a:Option Addr) (l' c:Nat) (G:ay),w=[.slice a l' c,.int .i64 i]∧(i:Int)<=ksize s.h o∧bv 1 H' a l' c (aO ((iT s.h t o).take i)) G∧Fr [] H0 H'∧(∀ x∈G,H0.size<=x),fun w _=>match w with
  | [_,.int _ i]=>(ksize s.h o-i).toNat
  | _=>0,⟨0,none,0,0,[],rfl,hn0,by simpa [aO] using bv.nil 1 H0,Fr.refl _ _,by simp⟩,?_⟩
 rintro w H1 ⟨i,a1,l1,c1,G,rfl,hi,ho,hf1,hG⟩ _
 have hlen:(iT s.h t o).length=(ksize s.h o).toNat:=by simp [iT]
 have hl1:l1=i:=by have:=ho.len;simp only [aO,List.length_map,List.length_take] at this;omega
 have hF1:Fr [] H H1:=(hf.trans hf0).trans hf1
 refine ⟨_,_,_,_,rfl,?_⟩
 rw [ae]
 refine aA (fun hlt=>?_) fun hlt=>?_
 ·have htk:(iT s.h t o).take (i+1)=(iT s.h t o).take i++[jW s.h t o i]:=by
   rw [List.take_add_one,List.getElem?_eq_getElem (by omega)];simp [iT]
  have e:IntKind.wrap .i64 ((i:Int)+1)=((i+1:Nat):Int):=by rw [am (by omega) (by omega)];omega
  refine ⟨_,(hB0.fr hf1 (by simp)).cell 0,tU (hK.nil hF1) fun H2 hf2=>⟨_,rfl,?_⟩⟩
  refine bg hs1 rfl (by kernel_rfl) (ho.fr hf2 (by simp)) rfl (by simp [cC]) (by omega) (by decide) (by decide) fun a' c' G2 H3 g1 g2 g3=>⟨_,_,_,rfl,?_⟩
  have hfr:=Up.fresh (hf1.trans hf2) g2 hG
  rw [e]
  refine ⟨⟨i+1,a',l1+1,c',G2,rfl,by omega,?_,hfr.1,hfr.2⟩,by simp;omega⟩
  rw [htk,ce];exact g1
 ·rw [List.take_of_length_le (by omega)] at ho
  exact h _ _ _ _ H1 ho hF1 fun x hx=>Nat.le_trans (hf.trans hf0).1 (hG x hx)
end
end Go.Proofs.YtmkdkplipbocjaaGreatDoor
