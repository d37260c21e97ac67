/- Lemmas for ROrder: functions of the program as predicate transformers, and their contracts. -/
import Derived.Test.YtmkdkplipbocjaaGreatDoorZO2
set_option linter.all false
set_option maxRecDepth 100000
set_option maxHeartbeats 4000000
namespace Kw
open Go
def mapInfo (P:Program) (t:TypeId):Option (TypeDesc × Option Value) :=
 match P.underlying t with
 | some (.map k e)=>match P.underlying k,P.info? e with
  | some d,some i=>some (d,i.zero)
  | _,_=>none
 | _=>none
inductive Key
 | str (s:ByteArray)
 | int (n:Int)
deriving DecidableEq
def Key.v:Key→Value
 | .str s=>.string s
 | .int n=>.int .i64 n
def Key.of:TypeDesc→Key→Prop
 | .string,.str _=>True
 | .int _,.int _=>True
 | _,_=>False
def Born (ents:Array MapEntry) (clock:Nat):Prop:=(ents.toList.map (·.born)).Nodup∧∀ e∈ents.toList,e.born<clock
def MapAt (H:Heap) (r:Nat) (es:List (Key × Value)):Prop:=∃(ents:Array MapEntry) (clock:Nat),H[r]?=some (.map ents clock)∧ents.toList.map (fun e=>(e.key,e.val))=es.map (fun p=>(p.1.v,p.2))∧Born ents clock
theorem MapAt.new (H:Heap):MapAt (H.push (.map #[] 0)) H.size []:=⟨#[],0,by simp,rfl,by simp [Born]⟩
theorem MapAt.lt {H:Heap}{r:Nat}{es:List (Key × Value)} (h:MapAt H r es):r<H.size:=by
 obtain ⟨ents,clock,hr,_⟩:=h;exact (Array.getElem?_eq_some_iff.1 hr).1
theorem MapAt.of_eq {H H':Heap}{r:Nat}{es:List (Key × Value)} (h:MapAt H r es) (he:H'[r]?=H[r]?):MapAt H' r es:=by
 obtain ⟨ents,clock,hr,h2⟩:=h;exact ⟨ents,clock,he.trans hr,h2⟩
theorem MapAt.fr {H H':Heap}{G:Foot}{r:Nat}{es:List (Key × Value)} (h:MapAt H r es) (hf:Fr G H H') (hn:r∉G):MapAt H' r es:=h.of_eq (hf.2 r h.lt hn)
def getK:List (Key × Value)→Key→Option Value
 | [],_=>none
 | p :: l,k=>if k=p.1 then some p.2 else getK l k
theorem bytes_beq (a b:ByteArray):(a == b)=true↔a=b:=by
 obtain ⟨x⟩:=a
 obtain ⟨y⟩:=b
 show (x == y)=true↔_
 simp
theorem sameNow_key {d:TypeDesc}{k k':Key} (h:k.of d) (h':k'.of d):Instr.sameNow d k.v k'.v=some (decide (k=k')):=by
 cases d <;> cases k <;> cases k' <;> simp_all [Key.of,Key.v,Instr.sameNow] <;> (rw [Bool.eq_iff_iff];simp [bytes_beq])
def idxK:List (Key × Value)→Key→Option Nat
 | [],_=>none
 | p :: l,k=>if k=p.1 then some 0 else (idxK l k).map (·+1)
theorem idxK_none {es:List (Key × Value)}{k:Key}:idxK es k=none↔getK es k=none:=by
 induction es with
 | nil=>simp [idxK,getK]
 | cons p l ih =>
  unfold idxK getK
  by_cases h:k=p.1
  ·simp [h]
  ·rw [if_neg h,if_neg h];simpa using ih
theorem findNow_key {d:TypeDesc}{k:Key} (hk:k.of d):∀ (ents:List MapEntry) (es:List (Key × Value)) (i:Nat),ents.map (fun e=>(e.key,e.val))=es.map (fun p=>(p.1.v,p.2))→(∀ p∈es,p.1.of d) →
  Instr.findNow d k.v ents i=some (match idxK es k,getK es k with
   | some j,some v=>some (i+j,v)
   | _,_=>none)
 | [],[],i,_,_=>rfl
 | [],_ :: _,_,h,_=>by simp at h
 | _ :: _,[],_,h,_=>by simp at h
 | e :: ents,p :: es,i,h,ho=>by
  simp only [List.map_cons,List.cons.injEq,Prod.mk.injEq] at h
  obtain ⟨⟨h1,h2⟩,h3⟩:=h
  unfold Instr.findNow
  rw [h1,sameNow_key hk (ho p (by simp))]
  unfold idxK getK
  by_cases hkp:k=p.1
  ·simp [hkp,h2]
  ·have ih:=findNow_key hk ents es (i+1) h3 fun q hq=>ho q (by simp [hq])
   simp only [hkp,decide_false,if_false]
   rw [ih]
   cases h4:idxK es k with
   | none=>simp
   | some j =>
    cases h5:getK es k with
    | none=>exact absurd (idxK_none.2 h5) (by rw [h4];simp)
    | some v=>simp;omega
section
variable {P:Program}{H:Heap}
theorem evS_checkKey {t:TypeId}{d:TypeDesc}{k:Key}{e:Bool}{Q:Unit→Heap→Prop} (hu:P.underlying t=some d) (hk:k.of d) (h:Q () H):evS P (Instr.checkKey e 10000 t k.v) Q H:=by
 unfold Instr.checkKey
 refine evS_bind' (evS_underlying hu ?_)
 cases d <;> cases k <;> simp_all [Key.of,Key.v] <;> exact h
theorem evS_findKey {t:TypeId}{d:TypeDesc}{k:Key}{ents:Array MapEntry}{es:List (Key × Value)}{Q:Option (Nat × Value)→Heap→Prop} (hu:P.underlying t=some d) (hk:k.of d) (he:ents.toList.map (fun e=>(e.key,e.val))=es.map fun p=>(p.1.v,p.2)) (ho:∀ p∈es,p.1.of d)
  (h:Q (match idxK es k,getK es k with
   | some j,some v=>some (j,v)
   | _,_=>none) H):evS P (Instr.findKey t k.v ents.toList) Q H:=by
 unfold Instr.findKey
 refine evS_bind' (evS_underlying hu ?_)
 rw [findNow_key hk _ _ 0 he ho]
 cases h4:idxK es k with
 | none=>rw [h4] at h;exact h
 | some j =>
  cases h5:getK es k with
  | none=>rw [h4,h5] at h;exact h
  | some v=>rw [h4,h5] at h;show Q (some (0+j,v)) H;rw [Nat.zero_add];exact h
theorem mapInfo_elim {T:TypeId}{d:TypeDesc}{z:Option Value} (h:mapInfo P T=some (d,z)):∃ k e i,P.underlying T=some (.map k e)∧P.underlying k=some d∧P.info? e=some i∧i.zero=z:=by
 unfold mapInfo at h
 split at h
 ·rename_i k e hu
  split at h
  ·rename_i d' i h1 h2
   cases h
   exact ⟨k,e,i,hu,h1,h2,rfl⟩
  ·cases h
 ·cases h
theorem evS_lookup {T:TypeId}{d:TypeDesc}{z:Value}{r:Nat}{k:Key}{es:List (Key × Value)}{ok:Bool}{Q:Value→Heap→Prop} (hi:mapInfo P T=some (d,some z)) (hk:k.of d) (ho:∀ p∈es,p.1.of d) (hm:MapAt H r es)
  (h:Q (if ok then .tuple #[(getK es k).getD z,.bool (getK es k).isSome] else (getK es k).getD z) H):evS P (Instr.lookup T (.map (some r)) k.v ok) Q H:=by
 obtain ⟨kt,et,i,hu,hkt,hie,hz⟩:=mapInfo_elim hi
 obtain ⟨ents,clock,hr,he,hbn⟩:=hm
 unfold Instr.lookup
 refine evS_bind' (evS_underlying hu ?_)
 refine evS_bind' ?_
 refine (⟨_,hr,rfl,?_⟩:∃ o,H[r]?=some o∧isCells o=false∧_)
 refine evS_bind' (evS_pure ?_)
 refine evS_bind' (evS_checkKey hkt hk ?_)
 refine evS_bind' (evS_findKey hkt hk he ho ?_)
 cases h5:getK es k with
 | none =>
  rw [idxK_none.2 h5]
  rw [h5] at h
  exact evS_bind' (evS_zeroValue hie hz h)
 | some v =>
  cases h4:idxK es k with
  | none=>rw [idxK_none.1 h4] at h5;cases h5
  | some j=>rw [h5] at h;exact h
theorem map_eraseIdx' {α β:Type} (f:α→β):∀ (l:List α) (j:Nat),(l.eraseIdx j).map f=(l.map f).eraseIdx j
 | [],_=>rfl
 | _ :: _,0=>rfl
 | x :: l,j+1=>by simp [map_eraseIdx' f l j]
def setK:List (Key × Value)→Key→Value→List (Key × Value)
 | [],k,v=>[(k,v)]
 | p :: l,k,v=>if k=p.1 then (k,v) :: l else p :: setK l k v
def delK:List (Key × Value)→Key→List (Key × Value)
 | [],_=>[]
 | p :: l,k=>if k=p.1 then l else p :: delK l k
theorem getK_setK (es:List (Key × Value)) (k k':Key) (v:Value):getK (setK es k v) k'=if k'=k then some v else getK es k':=by
 induction es with
 | nil=>simp [setK,getK]
 | cons p l ih =>
  unfold setK
  by_cases h:k=p.1
  ·rw [if_pos h]
   unfold getK
   by_cases h2:k'=k
   ·simp [h2]
   ·simp only [h2,if_false]
    rw [if_neg (fun e=>h2 (e.trans h.symm))]
  ·rw [if_neg h]
   unfold getK
   by_cases h2:k'=p.1
   ·rw [if_pos h2,if_pos h2,if_neg (fun e=>h (e.symm.trans h2))]
   ·rw [if_neg h2,if_neg h2];exact ih
theorem setK_none {es:List (Key × Value)}{k:Key}{v:Value} (h:idxK es k=none):setK es k v=es++[(k,v)]:=by
 induction es with
 | nil=>rfl
 | cons p l ih =>
  unfold idxK at h
  unfold setK
  by_cases hk:k=p.1
  ·rw [if_pos hk] at h;cases h
  ·rw [if_neg hk] at h ⊢
   rw [ih (by simpa using h)];rfl
theorem setK_some {es:List (Key × Value)}{k:Key}{v:Value}{j:Nat} (h:idxK es k=some j):setK es k v=es.set j (k,v)∧j<es.length:=by
 induction es generalizing j with
 | nil=>cases h
 | cons p l ih =>
  unfold idxK at h
  unfold setK
  by_cases hk:k=p.1
  ·rw [if_pos hk] at h ⊢
   cases h
   simp
  ·rw [if_neg hk] at h ⊢
   cases h4:idxK l k with
   | none=>rw [h4] at h;cases h
   | some i =>
    rw [h4] at h
    cases h
    have:=ih h4
    exact ⟨by rw [this.1];rfl,by simp;exact this.2⟩
theorem delK_some {es:List (Key × Value)}{k:Key}{j:Nat} (h:idxK es k=some j):delK es k=es.eraseIdx j:=by
 induction es generalizing j with
 | nil=>cases h
 | cons p l ih =>
  unfold idxK at h
  unfold delK
  by_cases hk:k=p.1
  ·rw [if_pos hk] at h ⊢
   cases h
   rfl
  ·rw [if_neg hk] at h ⊢
   cases h4:idxK l k with
   | none=>rw [h4] at h;cases h
   | some i =>
    rw [h4] at h
    cases h
    rw [ih h4];rfl
theorem delK_none {es:List (Key × Value)}{k:Key} (h:idxK es k=none):delK es k=es:=by
 induction es with
 | nil=>rfl
 | cons p l ih =>
  unfold idxK at h
  unfold delK
  by_cases hk:k=p.1
  ·rw [if_pos hk] at h;cases h
  ·rw [if_neg hk] at h ⊢
   rw [ih (by simpa using h)]
theorem evS_keyThatStays {k:Key}{Q:Value→Heap→Prop} (h:Q k.v H):evS P (Instr.keyThatStays k.v k.v) Q H:=by
 unfold Instr.keyThatStays
 have:Instr.sameBits 10000 k.v k.v=true:=by
  cases k with
  | str s=>show (s == s)=true;rw [bytes_beq]
  | int n=>simp [Key.v,Instr.sameBits]
 rw [if_pos this]
 exact h
theorem idx_key {es:List (Key × Value)}{k:Key}{j:Nat} (h:idxK es k=some j):∃ v,es[j]?=some (k,v):=by
 induction es generalizing j with
 | nil=>cases h
 | cons p l ih =>
  unfold idxK at h
  by_cases hk:k=p.1
  ·rw [if_pos hk] at h
   cases h
   exact ⟨p.2,by simp [hk]⟩
  ·rw [if_neg hk] at h
   cases h4:idxK l k with
   | none=>rw [h4] at h;cases h
   | some i =>
    rw [h4] at h
    cases h
    simpa using ih h4
theorem evS_mapUpdate {T:TypeId}{d:TypeDesc}{z:Option Value}{r:Nat}{k:Key}{v:Value}{es:List (Key × Value)}{Q:Unit→Heap→Prop} (hi:mapInfo P T=some (d,z)) (hk:k.of d) (ho:∀ p∈es,p.1.of d) (hm:MapAt H r es)
  (h:∀ H',MapAt H' r (setK es k v)→Fr [r] H H'→Q () H'):evS P (Instr.mapUpdate T (.map (some r)) k.v v) Q H:=by
 obtain ⟨kt,et,i,hu,hkt,hie,hz⟩:=mapInfo_elim hi
 obtain ⟨ents,clock,hr,he,hbn⟩:=hm
 have hrl:r<H.size:=(Array.getElem?_eq_some_iff.1 hr).1
 have hset:∀ o:Obj,Fr [r] H (H.setIfInBounds r o)∧(H.setIfInBounds r o)[r]?=some o:=fun o =>
  ⟨⟨by simp,fun b _ hn=>by rw [Array.getElem?_setIfInBounds,if_neg (by simp only [List.mem_singleton] at hn;exact fun e=>hn e.symm)]⟩,by simp [hrl]⟩
 unfold Instr.mapUpdate
 refine evS_bind' (evS_underlying hu ?_)
 refine evS_bind' ?_
 refine (⟨_,hr,rfl,?_⟩:∃ o,H[r]?=some o∧isCells o=false∧_)
 refine evS_bind' (evS_checkKey hkt hk ?_)
 refine evS_bind' (evS_findKey hkt hk he ho ?_)
 cases h4:idxK es k with
 | none =>
  refine (⟨⟨_,hr,rfl⟩,?_⟩:(∃ o',H[r]?=some o'∧isCells o'=false)∧_)
  refine h _ ⟨_,_,(hset _).2,?_,?_⟩ (hset _).1
  ·rw [setK_none h4]
   simp [he]
  ·refine ⟨?_,fun e hmem=>?_⟩
   ·rw [Array.toList_push,List.map_append,List.nodup_append]
    refine ⟨hbn.1,by simp,fun a ha b hb hab=>?_⟩
    obtain ⟨e,hmem,rfl⟩:=List.mem_map.1 ha
    have:=hbn.2 e hmem
    simp only [List.map_cons,List.map_nil,List.mem_singleton] at hb
    omega
   ·rw [Array.toList_push] at hmem
    rcases List.mem_append.1 hmem with hmem | hmem
    ·have:=hbn.2 e hmem;omega
    ·simp only [List.mem_singleton] at hmem;subst hmem;exact Nat.lt_succ_self _
 | some j =>
  cases h5:getK es k with
  | none=>rw [idxK_none.2 h5] at h4;cases h4
  | some w =>
   have hset4:=setK_some (v:=v) h4
   have hlen:ents.size=es.length:=by have:=congrArg List.length he;simpa using this
   have hjl:j<ents.size:=by omega
   obtain ⟨u,hu2⟩:=idx_key h4
   have hkey:ents[j].key=k.v:=by
    have h6:(ents.toList.map fun e=>(e.key,e.val))[j]?=(es.map fun p=>(p.1.v,p.2))[j]?:=by rw [he]
    rw [List.getElem?_map,List.getElem?_map,hu2] at h6
    simp [hjl] at h6
    exact h6.1
   refine evS_bind' ?_
   have hg:((ents[j]?).map (·.key)).getD k.v=k.v:=by simp [hjl,hkey]
   rw [hg]
   refine evS_keyThatStays ?_
   refine (⟨⟨_,hr,rfl⟩,?_⟩:(∃ o',H[r]?=some o'∧isCells o'=false)∧_)
   have hbm:Born (ents.modify j fun e=>{ e with key:=k.v,val:=v }) clock:=by
    have hbl:(ents.modify j fun e=>{ e with key:=k.v,val:=v }).toList.map (·.born)=ents.toList.map (·.born):=by
     apply List.ext_getElem?
     intro q
     rw [List.getElem?_map,List.getElem?_map,Array.getElem?_toList,Array.getElem?_toList,Array.getElem?_modify]
     split
     ·rename_i e;subst e;cases ents[j]? <;> rfl
     ·rfl
    refine ⟨by rw [hbl];exact hbn.1,fun e hmem=>?_⟩
    have:e.born∈ents.toList.map (·.born):=by rw [←hbl];exact List.mem_map.2 ⟨e,hmem,rfl⟩
    obtain ⟨e',h1,h2⟩:=List.mem_map.1 this
    rw [←h2];exact hbn.2 e' h1
   refine h _ ⟨_,clock,(hset _).2,?_,hbm⟩ (hset _).1
   rw [hset4.1]
   apply List.ext_getElem?
   intro q
   rw [List.getElem?_map,List.getElem?_map,Array.getElem?_toList,Array.getElem?_modify,List.getElem?_set]
   have h6:(ents.toList.map fun e=>(e.key,e.val))[q]?=(es.map fun p=>(p.1.v,p.2))[q]?:=by rw [he]
   rw [List.getElem?_map,List.getElem?_map,Array.getElem?_toList] at h6
   by_cases hjq:j=q
   ·subst hjq
    simp [hjl,hset4.2]
   ·rw [if_neg hjq,if_neg hjq];exact h6
theorem evS_delete {T:TypeId}{d:TypeDesc}{z:Option Value}{a1 T0:TypeId}{r:Nat}{k:Key}{es:List (Key × Value)}{Q:Value→Heap→Prop} (hi:mapInfo P T=some (d,z)) (hk:k.of d) (ho:∀ p∈es,p.1.of d) (hm:MapAt H r es)
  (h:∀ H',MapAt H' r (delK es k)→Fr [r] H H'→Q (.tuple #[]) H'):evS P (Builtin.delete_ #[T,a1] T0 #[.map (some r),k.v]) Q H:=by
 obtain ⟨kt,et,i,hu,hkt,hie,hz⟩:=mapInfo_elim hi
 obtain ⟨ents,clock,hr,he,hbn⟩:=hm
 have hrl:r<H.size:=(Array.getElem?_eq_some_iff.1 hr).1
 have hset:∀ o:Obj,Fr [r] H (H.setIfInBounds r o)∧(H.setIfInBounds r o)[r]?=some o:=fun o =>
  ⟨⟨by simp,fun b _ hn=>by rw [Array.getElem?_setIfInBounds,if_neg (by simp only [List.mem_singleton] at hn;exact fun e=>hn e.symm)]⟩,by simp [hrl]⟩
 unfold Builtin.delete_
 refine evS_bind' (evS_underlying hu ?_)
 refine evS_bind' ?_
 refine (⟨_,hr,rfl,?_⟩:∃ o,H[r]?=some o∧isCells o=false∧_)
 refine evS_bind' (evS_checkKey hkt hk ?_)
 refine evS_bind' (evS_findKey hkt hk he ho ?_)
 cases h4:idxK es k with
 | none =>
  refine evS_bind' ?_
  refine (⟨⟨_,hr,rfl⟩,?_⟩:(∃ o',H[r]?=some o'∧isCells o'=false)∧_)
  refine h _ ⟨ents,clock,(hset _).2,?_,hbn⟩ (hset _).1
  rw [delK_none h4];exact he
 | some j =>
  cases h5:getK es k with
  | none=>rw [idxK_none.2 h5] at h4;cases h4
  | some v =>
   refine evS_bind' ?_
   refine (⟨⟨_,hr,rfl⟩,?_⟩:(∃ o',H[r]?=some o'∧isCells o'=false)∧_)
   have hsub:(ents.eraseIdxIfInBounds j).toList.Sublist ents.toList:=by
    rw [Array.eraseIdxIfInBounds]
    split
    ·rw [Array.toList_eraseIdx];exact List.eraseIdx_sublist _ _
    ·exact List.Sublist.refl _
   refine h _ ⟨_,clock,(hset _).2,?_,hbn.1.sublist (hsub.map _),fun e hmem=>hbn.2 e (hsub.subset hmem)⟩ (hset _).1
   rw [delK_some h4]
   have hlen:ents.size=es.length:=by have:=congrArg List.length he;simpa using this
   have hjl:=(setK_some (v:=v) h4).2
   rw [Array.eraseIdxIfInBounds,dif_pos (by omega),Array.toList_eraseIdx,map_eraseIdx',map_eraseIdx',he]
theorem evS_lenMap {T T0:TypeId}{d:TypeDesc}{z:Option Value}{r:Nat}{es:List (Key × Value)}{Q:Value→Heap→Prop} (hi:mapInfo P T=some (d,z)) (hm:MapAt H r es) (h:Q (.int .i64 (es.length:Int)) H):evS P (Builtin.len_ #[T] T0 #[.map (some r)]) Q H:=by
 obtain ⟨kt,et,i,hu,hkt,hie,hz⟩:=mapInfo_elim hi
 obtain ⟨ents,clock,hr,he,hbn⟩:=hm
 unfold Builtin.len_
 refine evS_bind' (evS_underlying hu ?_)
 refine evS_bind' ?_
 refine (⟨_,hr,rfl,?_⟩:∃ o,H[r]?=some o∧isCells o=false∧_)
 have hlen:ents.size=es.length:=by have:=congrArg List.length he;simpa using this
 show Q (goInt ents.size) H
 rw [hlen]
 exact h
def IterAt (H:Heap) (b r:Nat) (es done:List (Key × Value)):Prop:=∃(ents:Array MapEntry) (clock:Nat) (seen:Array Nat) (ds rest:List MapEntry),H[r]?=some (.map ents clock)∧ents.toList.map (fun e=>(e.key,e.val))=es.map (fun p=>(p.1.v,p.2))∧Born ents clock ∧
 H[b]?=some (.mapIter (some r) clock seen clock)∧seen.toList=ds.map (·.born)∧(ds++rest).Perm ents.toList∧ds.map (fun e=>(e.key,e.val))=done.map (fun p=>(p.1.v,p.2))
theorem Key.v_inj {k k':Key} (h:k.v=k'.v):k=k':=by
 cases k <;> cases k' <;> simp_all [Key.v]
theorem perm_of_kv {l l':List (Key × Value)} (h:(l.map fun p=>(p.1.v,p.2)).Perm (l'.map fun p=>(p.1.v,p.2))):l.Perm l':=by
 induction l generalizing l' with
 | nil=>have:=h.length_eq;simp at this;have:l'=[]:=List.eq_nil_of_length_eq_zero this.symm;rw [this]
 | cons p l ih =>
  have hmem:(p.1.v,p.2)∈l'.map (fun p=>(p.1.v,p.2)):=h.subset (by simp)
  obtain ⟨q,hq,he⟩:=List.mem_map.1 hmem
  simp only [Prod.mk.injEq] at he
  have hqp:q=p:=Prod.ext (Key.v_inj he.1) he.2
  subst hqp
  obtain ⟨s,t,rfl⟩:=List.append_of_mem hq
  refine (List.Perm.cons q (ih ?_)).trans (List.perm_middle.symm)
  have h2:(q :: l).map (fun p=>(p.1.v,p.2)) |>.Perm ((q :: (s++t)).map fun p=>(p.1.v,p.2)):=h.trans (List.Perm.map _ List.perm_middle)
  simpa using List.Perm.cons_inv h2
theorem IterAt.len {b r:Nat}{es done:List (Key × Value)} (h:IterAt H b r es done):done.length≤es.length:=by
 obtain ⟨ents,clock,seen,ds,rest,_,he,_,_,_,hp,hd⟩:=h
 have h1:=hp.length_eq
 have h2:=congrArg List.length he
 have h3:=congrArg List.length hd
 simp only [List.length_map,List.length_append] at h1 h2 h3
 omega
theorem IterAt.fr {H':Heap}{G:Foot}{b r:Nat}{es done:List (Key × Value)} (h:IterAt H b r es done) (hf:Fr G H H') (hb:b∉G) (hr:r∉G):IterAt H' b r es done:=by
 obtain ⟨ents,clock,seen,ds,rest,h1,h2,h3,h4,h5⟩:=h
 exact ⟨ents,clock,seen,ds,rest,(hf.2 r (Array.getElem?_eq_some_iff.1 h1).1 hr).trans h1,h2,h3,(hf.2 b (Array.getElem?_eq_some_iff.1 h4).1 hb).trans h4,h5⟩
theorem IterAt.map {b r:Nat}{es done:List (Key × Value)} (h:IterAt H b r es done):MapAt H r es:=by
 obtain ⟨ents,clock,seen,ds,rest,h1,h2,h3,_⟩:=h
 exact ⟨ents,clock,h1,h2,h3⟩
theorem evS_rangeMap {T:TypeId}{d:TypeDesc}{z:Option Value}{r:Nat}{es:List (Key × Value)}{Q:Value→Heap→Prop} (hi:mapInfo P T=some (d,z)) (hm:MapAt H r es)
  (h:∀ H',IterAt H' H.size r es []→Fr [] H H'→Q (.pointer (some ⟨H.size,0,none⟩)) H'):evS P (Instr.range T (.map (some r))) Q H:=by
 obtain ⟨kt,et,i,hu,hkt,hie,hz⟩:=mapInfo_elim hi
 obtain ⟨ents,clock,hr,he,hbn⟩:=hm
 have hlt:r<H.size:=(Array.getElem?_eq_some_iff.1 hr).1
 unfold Instr.range
 refine evS_bind' ?_
 refine evS_bind' (evS_underlying hu ?_)
 refine evS_bind' ?_
 refine (⟨_,hr,rfl,?_⟩:∃ o,H[r]?=some o∧isCells o=false∧_)
 show Q (.pointer (some ⟨H.size,0,none⟩)) (H.push (.mapIter (some r) clock #[] clock))
 refine h _ ⟨ents,clock,#[],[],ents.toList,?_,he,hbn,by simp,rfl,by simp,rfl⟩ (Fr.push [] H _)
 rw [Array.getElem?_push,if_neg (by omega)];exact hr
theorem evS_nextMap {T0:TypeId}{b r:Nat}{es done:List (Key × Value)}{Q:Value→Heap→Prop} (hm:IterAt H b r es done) (h0:done.Perm es→Q (.tuple #[.bool false]) H)
  (h1:∀ p H',p∈es→IterAt H' b r es (done++[p])→Fr [b] H H'→Q (.tuple #[.bool true,p.1.v,p.2]) H'):evS P (Instr.next (.pointer (some ⟨b,0,none⟩)) false T0) Q H:=by
 obtain ⟨ents,clock,seen,ds,rest,hr,he,hbn,hb,hs,hp,hd⟩:=hm
 have hbl:b<H.size:=(Array.getElem?_eq_some_iff.1 hb).1
 have hbr:b≠r:=fun e=>by subst e;rw [hr] at hb;cases hb
 unfold Instr.next
 refine evS_bind' ?_
 refine (⟨_,hb,rfl,?_⟩:∃ o,H[b]?=some o∧isCells o=false∧_)
 refine evS_bind' ?_
 refine (⟨_,hr,rfl,?_⟩:∃ o,H[r]?=some o∧isCells o=false∧_)
 refine evS_pure ?_
 have hany:(!seen.isEmpty && !ents.isEmpty && ents.all fun x=>decide (x.born ≥ clock))=false:=by
  by_cases hemp:ents.isEmpty=true
  ·simp [hemp]
  ·have hpos:0<ents.size:=by
    rcases Nat.eq_zero_or_pos ents.size with h | h
    ·exact absurd (by simp [Array.isEmpty,h]) hemp
    ·exact h
   have:ents.all (fun x=>decide (x.born ≥ clock))=false:=by
    rw [Bool.eq_false_iff]
    intro hall
    have h2:=(Array.all_eq_true.1 hall) 0 hpos
    have h3:=hbn.2 ents[0] (by simp)
    have h4:ents[0].born ≥ clock:=by simpa using h2
    omega
   rw [this,Bool.and_false]
 simp only [hany,Bool.false_eq_true,if_false,ge_iff_le]
 obtain ⟨left,hleft⟩:∃ left:Array MapEntry,left=ents.filter fun e=>!seen.contains e.born:=⟨_,rfl⟩
 rw [←hleft]
 have hlm:∀ e,e∈left.toList↔e∈rest:=by
  intro e
  rw [hleft,Array.toList_filter,List.mem_filter]
  have hnd:((ds++rest).map (·.born)).Nodup:=(List.Perm.map _ hp).nodup_iff.2 hbn.1
  rw [List.map_append,List.nodup_append] at hnd
  constructor
  ·rintro ⟨h2,h3⟩
   rcases List.mem_append.1 (hp.symm.subset h2) with h4 | h4
   ·exfalso
    have:e.born∈seen:=by rw [←Array.mem_toList_iff,hs];exact List.mem_map.2 ⟨e,h4,rfl⟩
    simp [this] at h3
   ·exact h4
  ·intro h2
   refine ⟨hp.subset (by simp [h2]),?_⟩
   have:e.born∉seen:=fun hin=>by
    rw [←Array.mem_toList_iff,hs] at hin
    obtain ⟨e',h4,h5⟩:=List.mem_map.1 hin
    exact hnd.2.2 _ (List.mem_map.2 ⟨e',h4,rfl⟩) _ (List.mem_map.2 ⟨e,h2,rfl⟩) h5
   simp [this]
 have hold:left.filter (fun e=>decide (e.born<clock))=left:=by
  rw [Array.filter_eq_self]
  intro e hmem
  have h2:=(hlm e).1 (by simpa using hmem)
  exact decide_eq_true (hbn.2 e (hp.subset (by simp [h2])))
 have hnew:left.filter (fun e=>decide (clock≤e.born))=#[]:=by
  rw [Array.filter_eq_empty_iff]
  intro e hmem
  have h2:=(hlm e).1 (by simpa using hmem)
  have:=hbn.2 e (hp.subset (by simp [h2]))
  simp;omega
 rw [hold,hnew]
 have key:∀ (cands:Array (Option MapEntry)) (i:Nat),(i<cands.size)→(cands=if left.isEmpty then #[none] else left.map some)→evS P (match cands[i]? with
   | some (some e)=>do
    setObj b (.mapIter (some r) clock (seen.push e.born) clock)
    pure (.tuple #[.bool true,e.key,e.val])
   | some none=>pure (.tuple #[.bool false])
   | none => stuck "Next: no such candidate") Q H := by
  intro cands i hi hc
  by_cases hemp:left.isEmpty=true
  ·rw [if_pos hemp] at hc
   subst hc
   simp only [List.size_toArray,List.length_cons,List.length_nil,Nat.zero_add,Nat.lt_one_iff] at hi
   subst hi
   refine h0 ?_
   have hrest:rest=[]:=by
    cases rest with
    | nil=>rfl
    | cons e rest =>
     have:=(hlm e).2 (by simp)
     simp [Array.isEmpty_iff.1 hemp] at this
   subst hrest
   rw [List.append_nil] at hp
   have h2:=List.Perm.map (fun e:MapEntry=>(e.key,e.val)) hp
   rw [hd,he] at h2
   exact perm_of_kv h2
  ·rw [if_neg hemp] at hc
   subst hc
   have hil:i<left.size:=by simpa using hi
   have hmem:left[i]∈rest:=(hlm _).1 (by simp)
   obtain ⟨s,t,hst⟩:=List.append_of_mem hmem
   have hget:(left.map some)[i]?=some (some left[i]):=by simp [hil]
   rw [hget]
   have hin:left[i]∈ents.toList:=hp.subset (by simp [hmem])
   have hpk:(left[i].key,left[i].val)∈es.map (fun p=>(p.1.v,p.2)):=by rw [←he];exact List.mem_map.2 ⟨_,hin,rfl⟩
   obtain ⟨p,hpm,hpe⟩:=List.mem_map.1 hpk
   simp only [Prod.mk.injEq] at hpe
   refine evS_bind' ?_
   refine (⟨⟨_,hb,rfl⟩,?_⟩:(∃ o',H[b]?=some o'∧isCells o'=false)∧_)
   show Q (.tuple #[.bool true,left[i].key,left[i].val]) (H.setIfInBounds b (.mapIter (some r) clock (seen.push left[i].born) clock))
   rw [←hpe.1,←hpe.2]
   refine h1 p _ hpm ⟨ents,clock,seen.push left[i].born,ds++[left[i]],s++t,?_,he,hbn,by simp [hbl],?_,?_,?_⟩ ⟨by simp,fun b' _ hn=>?_⟩
   ·rw [Array.getElem?_setIfInBounds_ne hbr];exact hr
   ·rw [Array.toList_push,hs,List.map_append];rfl
   ·refine List.Perm.trans ?_ hp
    rw [hst,List.append_assoc]
    exact List.Perm.append_left ds (by simpa using (List.perm_middle (l₁:=s) (l₂:=t) (a:=left[i])).symm)
   ·rw [List.map_append,List.map_append,hd]
    simp [hpe.1,hpe.2]
   ·rw [Array.getElem?_setIfInBounds_ne (fun e=>hn (by simp [e]))]
 have hcands:(if left.isEmpty=true then #[none] else #[])++Array.map some (left++#[])=if left.isEmpty then #[none] else left.map some:=by
  by_cases hemp:left.isEmpty=true
  ·rw [if_pos hemp,if_pos hemp,Array.isEmpty_iff.1 hemp];simp
  ·rw [if_neg hemp,if_neg hemp];simp
 have hpos:0<(if left.isEmpty=true then #[none] else left.map some).size:=by
  split
  ·simp
  ·rename_i hemp
   rcases Nat.eq_zero_or_pos left.size with h | h
   ·exact absurd (by simp [Array.isEmpty,h]) hemp
   ·simpa using h
 obtain ⟨cands,hc⟩:∃ c:Array (Option MapEntry),c=if left.isEmpty then #[none] else left.map some:=⟨_,rfl⟩
 rw [←hc] at hcands hpos
 simp only [hcands]
 refine evS_bind' ?_
 show if (Question.mapNext cands.size).forced then _ else ∀ t,_
 split
 ·exact key _ 0 hpos hc
 ·intro t
  exact key _ _ (Nat.mod_lt _ hpos) hc
theorem evS_entryMap {b r:Nat}{es done:List (Key × Value)}{p:Key × Value}{Q:Value→Heap→Prop} (hm:IterAt H b r es (done++[p])) (h:Q (.tuple #[p.1.v,p.2]) H):evS P (Instr.entry (.pointer (some ⟨b,0,none⟩))) Q H:=by
 obtain ⟨ents,clock,seen,ds,rest,hr,he,hbn,hb,hs,hp,hd⟩:=hm
 unfold Instr.entry
 refine evS_bind' ?_
 refine (⟨_,hb,rfl,?_⟩:∃ o,H[b]?=some o∧isCells o=false∧_)
 refine evS_pure ?_
 obtain ⟨ds',e,hde⟩:∃ ds' e,ds=ds'++[e]:=by
  rcases List.eq_nil_or_concat ds with h0 | ⟨m,x,h0⟩
  ·subst h0;simp at hd
  ·exact ⟨m,x,by simpa using h0⟩
 subst hde
 have hback:seen.back?=some e.born:=by
  have:seen=(ds'.map (·.born)++[e.born]).toArray:=by
   apply Array.ext';rw [hs];simp
  rw [this];simp
 simp only [hback]
 refine evS_bind' ?_
 refine (⟨_,hr,rfl,?_⟩:∃ o,H[r]?=some o∧isCells o=false∧_)
 refine evS_pure ?_
 simp only [bne_self_eq_false,Bool.false_eq_true,if_false]
 have hin:e∈ents.toList:=hp.subset (by simp)
 have hfind:ents.find? (fun x=>x.born == e.born)=some e:=by
  rw [←Array.find?_toList]
  have:∀ (l:List MapEntry),(l.map (·.born)).Nodup→e∈l→l.find? (fun x=>x.born == e.born)=some e:=by
   intro l
   induction l with
   | nil=>intro _ h;cases h
   | cons x l ih =>
    intro hnd hmem
    rw [List.find?_cons]
    by_cases hx:x.born=e.born
    ·rcases List.mem_cons.1 hmem with rfl | hmem
     ·simp
     ·exfalso
      rw [List.map_cons] at hnd
      have:=(List.nodup_cons.1 hnd).1
      exact this (by rw [hx];exact List.mem_map.2 ⟨e,hmem,rfl⟩)
    ·have:(x.born == e.born)=false:=by simpa using hx
     rw [this]
     rcases List.mem_cons.1 hmem with rfl | hmem
     ·exact absurd rfl hx
     ·rw [List.map_cons] at hnd;exact ih (List.nodup_cons.1 hnd).2 hmem
  exact this _ hbn.1 hin
 rw [hfind]
 rw [List.map_append,List.map_append] at hd
 have h2:=(List.append_inj_right' hd rfl)
 simp only [List.map_cons,List.map_nil,List.cons.injEq,Prod.mk.injEq,and_true] at h2
 show Q (.tuple #[e.key,e.val]) H
 rw [h2.1,h2.2]
 exact h
end
end Kw
namespace Go.Proofs.YtmkdkplipbocjaaGreatDoor
open Kw
theorem yieldS_mono {l:Nat}{args:Array Value}{Q Q':Value→Heap→Prop}{H:Heap} (h:yieldS PP l args Q H) (hq:∀ v H',Q v H'→Q' v H'):yieldS PP l args Q' H:=fun w hw=>by
 obtain ⟨fn,tmps,assign,body,h1,h2⟩:=h w hw
 exact ⟨fn,tmps,assign,body,h1,h2.mono fun e w' ⟨v,he,hv,hs⟩=>⟨v,he,hq _ _ hv,hs⟩⟩
theorem Fr.setObj (H:Heap) (l:Nat) (o:Obj):Fr [l] H (H.setIfInBounds l o):=⟨by simp,fun b _ hn=>Array.getElem?_setIfInBounds_ne (fun e=>hn (by simp [e]))⟩
theorem Shut.fr {n:Nat}{H0 H H':Heap} (h:Shut n H H') (hf:Fr [] H0 H) (hn:n=H0.size):Fr [] H0 H' :=
 ⟨by rw [h.1];exact hf.1,fun b hb _=>by
  rcases h.2 b with h1 | ⟨h1,_⟩
  ·rw [h1];exact hf.2 b hb (by simp)
  ·omega⟩
theorem Shut.own {n k:Nat}{H H':Heap}{a:Option Addr}{l c:Nat}{xs:List Value}{F:Foot} (h:Shut n H H') (ho:Own k H a l c xs F):Own k H' a l c xs F:=by
 refine ho.keep fun b hb=>?_
 rcases ho.2.2 with ⟨_,_,rfl⟩ | ⟨b',cs,_,rfl,⟨t,hB⟩,_⟩
 ·simp at hb
 ·simp only [List.mem_singleton] at hb
  subst hb
  rcases h.2 b with h1 | ⟨_,h1,_⟩
  ·exact h1
  ·rw [hB] at h1;cases h1
section
variable {H:Heap}{hb:Nat}{F:Foot}{r:RH}{Q:QT}
theorem hclass_c (hR:HRep H hb F r){k:Int} (h:Q (two (r.clsAt k)) H):callS PP n_k137 #[.pointer (some ⟨hb,0,none⟩),.int .i64 k] Q H:=by
 obtain ⟨_,_,_,_,_,_,_,_,hR⟩:=hR;exact class_c hR h
theorem hat_c (hR:HRep H hb F r){k i:Int} (h:Q (two (r.at k i)) H):callS PP n_k233 #[.pointer (some ⟨hb,0,none⟩),.int .i64 k,.int .i64 i] Q H:=by
 obtain ⟨_,_,_,_,_,_,_,_,hR⟩:=hR;exact at_c hR h
theorem hsize_c (hR:HRep H hb F r){k:Int} (h:Q (three (r.size k)) H):callS PP n_k182 #[.pointer (some ⟨hb,0,none⟩),.int .i64 k] Q H:=by
 obtain ⟨_,_,_,_,_,_,_,_,hR⟩:=hR;exact size_c hR h
theorem hmarked_c (hR:HRep H hb F r) (h:Q (.int .i64 r.mark) H):callS PP n_k81 #[.pointer (some ⟨hb,0,none⟩)] Q H:=by
 obtain ⟨_,_,_,_,_,_,_,_,hR⟩:=hR;exact marked_c hR h
theorem named_c (hR:HRep H hb F r){w:Int} (h1:namedO r w≠0→Q (.tuple #[.int .i64 (namedO r w),.bool true]) H) (h2:namedO r w=0→∀ x:Int,Q (.tuple #[.int .i64 x,.bool false]) H):callS PP n_k249 #[.pointer (some ⟨hb,0,none⟩),.int .i64 w] Q H:=by
 apply k249_ok
 unfold k249 iV pV cS
 refine oop_c hR.kinds ?_
 unfold ofW
 unfold namedO at h1 h2
 by_cases hk:kindW w=3
 ·rw [if_pos hk]
  refine ⟨_,_,rfl,?_⟩
  rw [show ((0:Int) != 0)=false from rfl]
  simp only [cond_false]
  refine hclass_c hR ?_
  have hw:=kind_cases w
  cases ho:objAt r.objs (w / 4) with
  | none =>
   refine ⟨_,_,rfl,?_⟩
   simp only [RH.clsAt,ho]
   exact h2 (by rw [ho];simp) _
  | some o =>
   refine ⟨_,_,rfl,?_⟩
   simp only [RH.clsAt,ho]
   simp only [hk,ho,Option.isSome_some,and_self,if_true] at h1
   exact h1 (by omega)
 ·rw [if_neg hk]
  refine ⟨_,_,rfl,?_⟩
  rw [show ((10:Int) != 0)=true from rfl]
  simp only [cond_true]
  exact h2 (by rw [if_neg (fun h=>hk h.1)]) _
def nextsL (r:RH) (ws:List Int):List Int:=(ws.map (namedO r)).filter fun x=>decide (x≠0)
def nexts (r:RH) (o:RO):List Int:=nextsL r (o.cls :: if o.fmt=0 then o.slots else [])
theorem nextsL_append (r:RH) (l m:List Int):nextsL r (l++m)=nextsL r l++nextsL r m:=by simp [nextsL]
theorem nextsL_one (r:RH) (w:Int):nextsL r [w]=if namedO r w=0 then [] else [namedO r w]:=by
 by_cases h:namedO r w=0 <;> simp [nextsL,h]
theorem mem_nextsL {r:RH}{ws:List Int}{k:Int}:k∈nextsL r ws↔∃ w∈ws,namedO r w=k∧k≠0:=by
 simp only [nextsL,List.mem_filter,List.mem_map,decide_eq_true_eq]
 constructor
 ·rintro ⟨⟨w,h1,h2⟩,h3⟩;exact ⟨w,h1,h2,h3⟩
 ·rintro ⟨w,h1,h2,h3⟩;exact ⟨⟨w,h1,h2⟩,h3⟩
theorem from1_c {l:Nat}{q0 q1:Addr}{k:Int}{o:RO}{J:List Int→Heap→Prop} (ho:objAt r.objs k=some o)
  (hJ:∀ pre H',J pre H'→HRep H' hb F r∧cellH H' q0=some (.pointer (some ⟨hb,0,none⟩))∧cellH H' q1=some (.int .i64 k))
  (hy:∀ pre x H',(∃ suf,nexts r o=pre++x :: suf)→J pre H'→yieldS PP l #[.int .i64 x] (fun v H''=>v=.bool true∧J (pre++[x]) H'') H')
  (h0:J [] H) (h:∀ H',J (nexts r o) H'→Q (.tuple #[]) H'):callS PP n_k269 #[.func (.yield l) #[] #[],.pointer (some q0),.pointer (some q1)] Q H:=by
 apply k269_ok
 unfold k269 iV wW pV cS
 obtain ⟨hR,c0,c1⟩:=hJ _ _ h0
 have hg:=hR.wf.objs.good o (objAt_some ho).1
 have hmany:=hg.many
 refine ⟨_,c0,_,c1,hclass_c hR ⟨_,_,rfl,?_⟩⟩
 have hcls:r.clsAt k=(o.cls,0):=by simp [RH.clsAt,ho]
 have hsz:r.size k=((o.slots.length:Int),o.fmt,0):=by simp [RH.size,ho]
 rw [hcls]
 simp only [show ((0:Int) != 0)=false from rfl,cond_false]
 refine ⟨fun w H4=>w=[]∧J (nextsL r [o.cls]) H4,⟨_,c0,?_⟩,?_⟩
 ·refine named_c hR (fun hne=>⟨_,_,rfl,?_⟩) fun he x=>⟨_,_,rfl,?_⟩
  ·simp only [cond_true]
   refine yieldS_mono (hy [] _ H ?_ h0) ?_
   ·refine ⟨nextsL r (if o.fmt=0 then o.slots else []),?_⟩
    have e:nexts r o=nextsL r [o.cls]++nextsL r (if o.fmt=0 then o.slots else []):=by rw [←nextsL_append];rfl
    rw [e,nextsL_one,if_neg hne];rfl
   ·rintro v H3 ⟨rfl,h3⟩
    refine ⟨_,rfl,?_⟩
    simp only [Bool.not_true,cond_false]
    refine ⟨trivial,?_⟩
    rw [nextsL_one,if_neg hne];exact h3
  ·simp only [cond_false]
   refine ⟨trivial,?_⟩
   rw [nextsL_one,if_pos he];exact h0
 ·rintro w H4 ⟨rfl,h4⟩ _
  obtain ⟨hR4,c04,c14⟩:=hJ _ _ h4
  refine ⟨rfl,_,c04,_,c14,hsize_c hR4 ⟨_,_,_,rfl,?_⟩⟩
  rw [hsz]
  simp only [show ((0:Int) != 0)=false from rfl,cond_false]
  have e:nexts r o=nextsL r [o.cls]++nextsL r (if o.fmt=0 then o.slots else []):=by rw [←nextsL_append];rfl
  by_cases hf:o.fmt=0
  ·have hfb:(o.fmt != 0)=false:=by simp [hf]
   rw [hfb]
   simp only [cond_false]
   rw [if_pos hf] at e
   refine ⟨fun w H6=>∃ i:Nat,w=[.int .i64 i]∧i≤o.slots.length∧J (nextsL r [o.cls]++nextsL r (o.slots.take i)) H6,fun w _=>match w with
    | [.int _ i]=>(o.slots.length-i).toNat
    | _=>0,⟨0,rfl,Nat.zero_le _,by simpa [nextsL] using h4⟩,?_⟩
   rintro w H6 ⟨i,rfl,hi,h6⟩ _
   refine ⟨_,rfl,?_⟩
   rw [cond_dec]
   have e1:IntKind.wrap .i64 ((i:Int)+1)=((i+1:Nat):Int):=by rw [wrap64_id (by omega) (by omega)];omega
   refine ite_i (fun hlt=>?_) fun hlt=>?_
   ·have hlt':i<o.slots.length:=by omega
    obtain ⟨hR6,c06,c16⟩:=hJ _ _ h6
    have hat:r.at k (i:Int)=(o.slots[i],0):=by
     simp only [RH.at,ho]
     rw [if_neg (by omega)]
     simp [hlt']
    refine ⟨_,c06,_,c16,hat_c hR6 ⟨_,_,rfl,?_⟩⟩
    rw [hat]
    simp only [show ((0:Int) != 0)=false from rfl,cond_false]
    have htk:o.slots.take (i+1)=o.slots.take i++[o.slots[i]]:=by rw [List.take_add_one];simp [hlt']
    have hmu:(((o.slots.length:Int)-((i+1:Nat):Int)).toNat)<((o.slots.length:Int)-(i:Int)).toNat:=by omega
    refine ⟨_,c06,named_c hR6 (fun hne=>⟨_,_,rfl,?_⟩) fun he x=>⟨_,_,rfl,?_⟩⟩
    ·simp only [cond_true]
     refine yieldS_mono (hy _ _ H6 ?_ h6) ?_
     ·refine ⟨nextsL r (o.slots.drop (i+1)),?_⟩
      have hd:o.slots=o.slots.take i++o.slots[i] :: o.slots.drop (i+1):=by simp
      have:nextsL r o.slots=nextsL r (o.slots.take i)++namedO r o.slots[i] :: nextsL r (o.slots.drop (i+1)):=by
       conv=>lhs;rw [hd]
       rw [nextsL_append]
       congr 1
       rw [show o.slots[i] :: o.slots.drop (i+1)=[o.slots[i]]++o.slots.drop (i+1) from rfl,nextsL_append,nextsL_one,if_neg hne];rfl
      rw [e,this];simp
     ·rintro v H9 ⟨rfl,h9⟩
      refine ⟨_,rfl,?_⟩
      simp only [Bool.not_true,cond_false]
      rw [e1]
      refine ⟨⟨i+1,rfl,hlt',?_⟩,hmu⟩
      rw [htk,nextsL_append,nextsL_one r o.slots[i],if_neg hne,←List.append_assoc];exact h9
    ·simp only [cond_false]
     rw [e1]
     refine ⟨⟨i+1,rfl,hlt',?_⟩,hmu⟩
     rw [htk,nextsL_append,nextsL_one r o.slots[i],if_pos he,List.append_nil];exact h6
   ·have:i=o.slots.length:=by omega
    rw [this,List.take_length] at h6
    exact h H6 (by rw [e];exact h6)
  ·have hfb:(o.fmt != 0)=true:=by simp [hf]
   rw [hfb]
   simp only [cond_true]
   rw [if_neg hf] at e
   exact h H4 (by rw [e];simpa [nextsL] using h4)
theorem from_c {k:Int} (h:Q (.func (.func n_k269) #[] #[.pointer (some ⟨H.size,0,none⟩),.pointer (some ⟨H.size+1,0,none⟩)]) ((H.push (.cells #[.pointer (some ⟨hb,0,none⟩)] 46)).push (.cells #[.int .i64 k] 3))):callS PP n_k250 #[.pointer (some ⟨hb,0,none⟩),.int .i64 k] Q H:=by
 apply k250_ok
 unfold k250 A0 iV pV
 simp only [Array.size_push]
 exact h
end
def seenE (S:List Int):List (Key × Value):=S.map fun k=>(Key.int k,Value.int .i64 1)
theorem getK_seen (S:List Int) (n:Int):getK (seenE S) (.int n)=if n∈S then some (.int .i64 1) else none:=by
 induction S with
 | nil=>rfl
 | cons x S ih =>
  unfold seenE at *
  simp only [List.map_cons,getK]
  by_cases h:n=x
  ·subst h;simp
  ·rw [if_neg (by simpa using h),ih]
   simp [h]
theorem setK_seen {S:List Int}{n:Int} (h:n∉S):setK (seenE S) (.int n) (.int .i64 1)=seenE (S++[n]):=by
 have:idxK (seenE S) (.int n)=none:=by rw [idxK_none,getK_seen,if_neg h]
 rw [setK_none this];simp [seenE]
theorem seen_of {S:List Int}:∀ p∈seenE S,p.1.of (.int .i64):=by
 intro p hp
 simp only [seenE,List.mem_map] at hp
 obtain ⟨k,_,rfl⟩:=hp
 trivial
structure Vis (H:Heap) (mb tb m:Nat) (S T:List Int) (G:Foot):Prop where
 b1:Blk H mb #[.map (some m)]
 b2:∃ a l c,Blk H tb #[.slice a l c]∧Own 1 H a l c (intsV T) G
 mp:MapAt H m (seenE S)
 n1:mb≠tb
 n2:mb≠m
 n3:tb≠m
 n4:∀ x∈G,x≠mb∧x≠tb∧x≠m
theorem Vis.fr {H H':Heap}{mb tb m:Nat}{S T:List Int}{G F:Foot} (h:Vis H mb tb m S T G) (hf:Fr F H H') (h1:mb∉F) (h2:tb∉F) (h3:m∉F) (h4:Disj G F):Vis H' mb tb m S T G:=by
 obtain ⟨a,l,c,hB,hO⟩:=h.b2
 exact { h with b1:=h.b1.fr hf h1,b2:=⟨a,l,c,hB.fr hf h2,hO.fr hf h4⟩,mp:=h.mp.fr hf h3 }
theorem Vis.lt {H:Heap}{mb tb m:Nat}{S T:List Int}{G:Foot} (h:Vis H mb tb m S T G):∀ x∈mb :: tb :: m :: G,x<H.size:=by
 obtain ⟨a,l,c,hB,hO⟩:=h.b2
 intro x hx
 simp only [List.mem_cons] at hx
 rcases hx with rfl | rfl | rfl | hx
 ·exact h.b1.lt
 ·exact hB.lt
 ·exact h.mp.lt
 ·exact hO.lt x hx
def addS (p:List Int × List Int) (n:Int):List Int × List Int:=if n∈p.1 then p else (p.1++[n],p.2++[n])
section
variable {H:Heap}{hb:Nat}{F:Foot}{r:RH}{Q:QT}
theorem visit_c {mb tb m:Nat}{S T:List Int}{G:Foot}{n:Int} (hV:Vis H mb tb m S T G) (hT:T.length<1000000000)
  (h:∀ H' G',Vis H' mb tb m (addS (S,T) n).1 (addS (S,T) n).2 G'→Up (mb :: tb :: m :: G) H (mb :: tb :: m :: G') H'→Q (.tuple #[]) H') :
  callS PP n_k248 #[.int .i64 n,.pointer (some ⟨mb,0,none⟩),.pointer (some ⟨tb,0,none⟩)] Q H:=by
 have hmi:mapInfo PP 285=some (.int .i64,some (.int .i64 0)):=by kernel_rfl
 have hs1:sliceInfo PP 66=some (1,8,some (.int .i64 0)):=by kernel_rfl
 obtain ⟨a,l,c,hB,hO⟩:=hV.b2
 have c1:cellH H ⟨mb,0,none⟩=some (.map (some m)):=hV.b1.cell 0
 apply k248_ok
 unfold k248 A0 iV lV
 refine ⟨_,c1,evS_lookup (k:=.int n) hmi trivial seen_of hV.mp ?_⟩
 rw [getK_seen]
 unfold addS at h
 by_cases hn:n∈S
 ·simp only [hn,if_true,Option.getD_some] at h ⊢
  refine ⟨_,rfl,?_⟩
  rw [show ((1:Int) == 0)=false from rfl]
  simp only [cond_false]
  exact h H G hV (Up.refl _ _)
 ·simp only [hn,if_false,Option.getD_none] at h ⊢
  refine ⟨_,rfl,?_⟩
  rw [show ((0:Int) == 0)=true from rfl]
  simp only [cond_true]
  refine ⟨_,c1,evS_mapUpdate (k:=.int n) hmi trivial seen_of hV.mp fun H2 hM2 hf2=>?_⟩
  rw [setK_seen hn] at hM2
  have hB2:Blk H2 tb #[.slice a l c]:=hB.fr hf2 (by simpa using hV.n3)
  have hb2:Blk H2 mb #[.map (some m)]:=hV.b1.fr hf2 (by simpa using hV.n2)
  have hO2:Own 1 H2 a l c (intsV T) G:=hO.fr hf2 (fun x hx hm=>(hV.n4 x hx).2.2 (by simpa using hm))
  have hl:l=T.length:=by have:=hO.len;simpa [intsV] using this.symm
  refine ⟨_,_,_,hB2.cell 0,?_⟩
  refine evS_append1 hs1 rfl (by kernel_rfl) hO2 rfl (by simp [oneC]) (by omega) (by decide) (by decide) fun a' c' G2 H3 g1 g2 g3=>⟨_,_,_,rfl,?_⟩
  have hnG:∀ x∈G,x≠mb∧x≠tb∧x≠m:=hV.n4
  have hlt2:mb<H2.size∧tb<H2.size∧m<H2.size:=⟨hb2.lt,hB2.lt,hM2.lt⟩
  have hG2:∀ x∈G2,x≠mb∧x≠tb∧x≠m:=fun x hx=>by
   rcases g2.2 x hx with h4 | h4
   ·exact hnG x h4
   ·omega
  have hmbG:mb∉G:=fun hx=>(hnG _ hx).1 rfl
  have htbG:tb∉G:=fun hx=>(hnG _ hx).2.1 rfl
  have hmG:m∉G:=fun hx=>(hnG _ hx).2.2 rfl
  have hB3:Blk H3 tb #[.slice a l c]:=hB2.fr g2.1 htbG
  have hb3:Blk H3 mb #[.map (some m)]:=hb2.fr g2.1 hmbG
  have hM3:=hM2.fr g2.1 hmG
  have hft:Fr [tb] H3 (setH H3 ⟨tb,0,none⟩ (.slice a' (l+1) c')):=Fr.set (by simp)
  refine ⟨hB3.wr (by simp),h _ G2 { b1:=hb3.fr hft (by simpa using hV.n1),b2:=⟨a',l+1,c',hB3.set 0 (.slice a' (l+1) c'),?_⟩,mp:=hM3.fr hft (by simpa using (Ne.symm hV.n3)),n1:=hV.n1,n2:=hV.n2,n3:=hV.n3,n4:=hG2 } ⟨?_,?_⟩⟩
  ·rw [intsV_append]
   exact g1.fr hft (fun x hx hm=>(hG2 x hx).2.1 (by simpa using hm))
  ·exact ((hf2.mono (F':=mb :: tb :: m :: G) fun x hx=>by simp only [List.mem_singleton] at hx;simp [hx]).trans (g2.1.mono fun x hx=>by simp [hx])).trans (hft.mono fun x hx=>by simp only [List.mem_singleton] at hx;simp [hx])
  ·intro x hx
   simp only [List.mem_cons] at hx ⊢
   rcases hx with rfl | rfl | rfl | hx
   ·exact .inl (.inl rfl)
   ·exact .inl (.inr (.inl rfl))
   ·exact .inl (.inr (.inr (.inl rfl)))
   ·rcases g2.2 x hx with h4 | h4
    ·exact .inl (.inr (.inr (.inr h4)))
    ·exact .inr (Nat.le_trans hf2.1 h4)
structure Walk (r:RH) (ws:List Int) (S T:List Int):Prop where
 nd:S.Nodup
 ndT:T.Nodup
 sub:∀ k∈T,k∈S
 sound:∀ k∈S,Reaches r ws k
theorem addS_spec (p:List Int × List Int) (n:Int):∃ nw,(addS p n).1=p.1++nw∧(addS p n).2=p.2++nw∧(n∈(addS p n).1)∧(∀ x∈nw,x=n)∧(p.1.Nodup→(addS p n).1.Nodup):=by
 unfold addS
 by_cases h:n∈p.1
 ·exact ⟨[],by simp [h],by simp [h],by simp [h],by simp,fun hn=>by simp [h,hn]⟩
 ·refine ⟨[n],by simp [h],by simp [h],by simp [h],by simp,fun hn=>?_⟩
  simp only [h,if_false]
  rw [List.nodup_append]
  exact ⟨hn,by simp,fun a ha b hb e=>h (by simp only [List.mem_singleton] at hb;rw [←hb,←e];exact ha)⟩
theorem fold_spec (p:List Int × List Int) (xs:List Int):∃ nw,(xs.foldl addS p).1=p.1++nw∧(xs.foldl addS p).2=p.2++nw∧(∀ x∈xs,x∈(xs.foldl addS p).1)∧(∀ x∈nw,x∈xs)∧(p.1.Nodup→(xs.foldl addS p).1.Nodup):=by
 induction xs generalizing p with
 | nil=>exact ⟨[],by simp,by simp,by simp,by simp,fun h=>h⟩
 | cons x xs ih =>
  obtain ⟨n1,a1,a2,a3,a4,a5⟩:=addS_spec p x
  obtain ⟨n2,b1,b2,b3,b4,b5⟩:=ih (addS p x)
  refine ⟨n1++n2,?_,?_,?_,?_,fun h=>b5 (a5 h)⟩
  ·rw [List.foldl_cons,b1,a1,List.append_assoc]
  ·rw [List.foldl_cons,b2,a2,List.append_assoc]
  ·intro y hy
   rw [List.foldl_cons]
   rcases List.mem_cons.1 hy with rfl | hy
   ·rw [b1];exact List.mem_append_left _ a3
   ·exact b3 y hy
  ·intro y hy
   rcases List.mem_append.1 hy with hy | hy
   ·rw [a4 y hy];simp
   ·exact List.mem_cons_of_mem _ (b4 y hy)
theorem Walk.fold {ws S T:List Int} (h:Walk r ws S T){xs:List Int} (hx:∀ x∈xs,Reaches r ws x):Walk r ws (xs.foldl addS (S,T)).1 (xs.foldl addS (S,T)).2:=by
 obtain ⟨nw,b1,b2,b3,b4,b5⟩:=fold_spec (S,T) xs
 have hnd:=b5 h.nd
 simp only at b1 b2
 refine { nd:=hnd,ndT:=?_,sub:=fun k hk=>?_,sound:=fun k hk=>?_ }
 ·rw [b2,List.nodup_append]
  rw [b1,List.nodup_append] at hnd
  exact ⟨h.ndT,hnd.2.1,fun a ha b hb=>hnd.2.2 a (h.sub a ha) b hb⟩
 ·rw [b2] at hk
  rw [b1]
  rcases List.mem_append.1 hk with hk | hk
  ·exact List.mem_append_left _ (h.sub k hk)
  ·exact List.mem_append_right _ hk
 ·rw [b1] at hk
  rcases List.mem_append.1 hk with hk | hk
  ·exact h.sound k hk
  ·exact hx k (b4 k hk)
theorem Walk.le {ws S T:List Int} (h:Walk r ws S T) (hw:WFH r):S.length≤r.all.length∧T.length≤r.all.length:=by
 have h1:S.length≤r.all.length:=nodup_le h.nd fun k hk=>(RH.mem_all hw).2 (h.sound k hk).there
 exact ⟨h1,Nat.le_trans (nodup_le h.ndT h.sub) h1⟩
theorem reach_nexts {ws:List Int}{o:RO}{k:Int} (ho:objAt r.objs k=some o) (hk:Reaches r ws k):∀ x∈nexts r o,Reaches r ws x:=by
 intro x hx
 obtain ⟨h1,h2⟩:=objAt_some ho
 obtain ⟨w,hw,rfl,hne⟩:=mem_nextsL.1 hx
 rw [←h2] at hk
 rcases List.mem_cons.1 hw with rfl | hw
 ·exact .cls hk h1 hne
 ·by_cases hf:o.fmt=0
  ·rw [if_pos hf] at hw
   exact .slot hk h1 hf hw hne
  ·rw [if_neg hf] at hw;cases hw
def Done (r:RH) (S T:List Int):Prop:=∀ k∈S,k∉T→∀ o,objAt r.objs k=some o→∀ x∈nexts r o,x∈S
theorem Walk.closed {ws S:List Int} (h:Walk r ws S []) (hw:WFH r) (hd:Done r S []) (hr:∀ w∈ws,namedO r w≠0→namedO r w∈S):Closed3 r ws S:=by
 refine { sound:=h.sound,roots:=hr,cls:=fun o ho hk hne=>?_,slot:=fun o ho hk hf w hwm hne=>?_ }
 ·exact hd o.oop hk (by simp) o (objAt_mem hw.objs ho) _ (mem_nextsL.2 ⟨o.cls,by simp,rfl,hne⟩)
 ·exact hd o.oop hk (by simp) o (objAt_mem hw.objs ho) _ (mem_nextsL.2 ⟨w,by simp [hf,hwm],rfl,hne⟩)
end
abbrev visitV (m:Nat):Value:=.func (.func n_k248) #[] #[.pointer (some ⟨m+1,0,none⟩),.pointer (some ⟨m+2,0,none⟩)]
def St (H H2:Heap) (S T:List Int):Prop:=∃ G,Vis H2 (H.size+1) (H.size+2) H.size S T G∧Fr [] H H2∧(∀ x∈G,H.size+4≤x)∧Blk H2 (H.size+3) #[visitV H.size]
def mapLen (H:Heap) (m:Nat):Nat:=match H[m]? with
 | some (.map es _)=>es.size
 | _=>0
def sliceLen (H:Heap) (b:Nat):Nat:=match cellH H ⟨b,0,none⟩ with
 | some (.slice _ l _)=>l
 | _=>0
section
variable {H:Heap}{hb:Nat}{F:Foot}{r:RH}{Q:QT}
theorem St.lens {H2:Heap}{S T:List Int} (h:St H H2 S T):mapLen H2 H.size=S.length∧sliceLen H2 (H.size+2)=T.length:=by
 obtain ⟨G,hV,_⟩:=h
 obtain ⟨ents,clock,hm,he,_⟩:=hV.mp
 obtain ⟨a,l,c,hB,hO⟩:=hV.b2
 constructor
 ·unfold mapLen;rw [hm]
  have:=congrArg List.length he
  simpa [seenE] using this
 ·unfold sliceLen
  rw [show cellH H2 ⟨H.size+2,0,none⟩=some (.slice a l c) from hB.cell 0]
  have:=hO.len
  simpa [intsV] using this.symm
theorem St.other {H2 H3:Heap}{S T:List Int}{F:Foot} (h:St H H2 S T) (hf:Fr F H2 H3) (hF:∀ b∈F,H.size+4≤b∧∀ c e f,H2[b]?≠some (Obj.cells c e f)):St H H3 S T:=by
 obtain ⟨G,hV,hf0,hG,hB⟩:=h
 have hn:∀ b,b<H.size+4→b∉F:=fun b hb hm=>by have:=(hF b hm).1;omega
 refine ⟨G,hV.fr hf (hn _ (by omega)) (hn _ (by omega)) (hn _ (by omega)) (fun x hx hm=>?_),?_,hG,hB.fr hf (hn _ (by omega))⟩
 ·obtain ⟨a,l,c,_,hO⟩:=hV.b2
  rcases hO.2.2 with ⟨_,_,rfl⟩ | ⟨b',cs,_,rfl,⟨t,hB'⟩,_⟩
  ·cases hx
  ·simp only [List.mem_singleton] at hx
   subst hx
   exact (hF x hm).2 _ _ _ hB'
 ·refine ⟨Nat.le_trans hf0.1 hf.1,fun b hb _=>?_⟩
  rw [hf.2 b (Nat.lt_of_lt_of_le hb hf0.1) (hn b (by omega)),hf0.2 b hb (by simp)]
theorem St.visitG {H2:Heap}{S T:List Int}{G:Foot} (hV:Vis H2 (H.size+1) (H.size+2) H.size S T G) (hf0:Fr [] H H2) (hG:∀ x∈G,H.size+4≤x) (hB:Blk H2 (H.size+3) #[visitV H.size]){n:Int} (hT:T.length<1000000000)
  (hq:∀ H' G',Vis H' (H.size+1) (H.size+2) H.size (addS (S,T) n).1 (addS (S,T) n).2 G'→Fr [] H H'→(∀ x∈G',H.size+4≤x)→Blk H' (H.size+3) #[visitV H.size]→(∀ x∈G',x∈G∨H2.size≤x) →
   Fr ((H.size+1) :: (H.size+2) :: H.size :: G) H2 H'→Q (.tuple #[]) H') :
  callS PP n_k248 #[.int .i64 n,.pointer (some ⟨H.size+1,0,none⟩),.pointer (some ⟨H.size+2,0,none⟩)] Q H2:=by
 refine visit_c hV hT fun H' G' hV' hu=>hq H' G' hV' ?_ (fun x hx=>?_) ?_ (fun x hx=>?_) hu.1
 ·refine ⟨Nat.le_trans hf0.1 hu.1.1,fun b hb _=>?_⟩
  rw [hu.1.2 b (Nat.lt_of_lt_of_le hb hf0.1) (fun hm=>?_),hf0.2 b hb (by simp)]
  simp only [List.mem_cons] at hm
  rcases hm with rfl | rfl | rfl | hm
  ·omega
  ·omega
  ·omega
  ·have:=hG b hm;omega
 ·rcases hu.2 x (by simp [hx]) with h1 | h1
  ·simp only [List.mem_cons] at h1
   have:=hV'.n4 x hx
   rcases h1 with rfl | rfl | rfl | h1
   ·omega
   ·omega
   ·omega
   ·exact hG x h1
  ·have:=hB.lt;omega
 ·refine hB.fr hu.1 (fun hm=>?_)
  simp only [List.mem_cons] at hm
  rcases hm with h1 | h1 | h1 | h1
  ·omega
  ·omega
  ·omega
  ·have:=hG _ h1;omega
 ·rcases hu.2 x (by simp [hx]) with h1 | h1
  ·simp only [List.mem_cons] at h1
   have:=hV'.n4 x hx
   rcases h1 with rfl | rfl | rfl | h1
   ·omega
   ·omega
   ·omega
   ·exact .inl h1
  ·exact .inr h1
theorem St.visit {H2:Heap}{S T:List Int} (h:St H H2 S T){n:Int} (hT:T.length<1000000000) (hq:∀ H',St H H' (addS (S,T) n).1 (addS (S,T) n).2→Q (.tuple #[]) H') :
  callS PP n_k248 #[.int .i64 n,.pointer (some ⟨H.size+1,0,none⟩),.pointer (some ⟨H.size+2,0,none⟩)] Q H2:=by
 obtain ⟨G,hV,hf0,hG,hB⟩:=h
 exact St.visitG hV hf0 hG hB hT fun H' G' h1 h2 h3 h4 _ _=>hq H' ⟨G',h1,h2,h3,h4⟩
theorem St.fr {H2:Heap}{S T:List Int} (h:St H H2 S T):Fr [] H H2:=by obtain ⟨_,_,h,_⟩:=h;exact h
theorem St.cell {H2:Heap}{S T:List Int} (h:St H H2 S T):cellH H2 ⟨H.size+3,0,none⟩=some (visitV H.size):=by obtain ⟨_,_,_,_,h⟩:=h;exact h.cell 0
def keysOf (l:List (Key × Value)):List Int:=l.map fun p=>match p.1 with
 | .int k=>k
 | .str _=>0
theorem keysOf_seen (S:List Int):keysOf (seenE S)=S:=by
 unfold keysOf seenE;rw [List.map_map];exact List.map_id' S
theorem RH.all_sorted (r:RH):r.all.Pairwise (· < ·):=by
 unfold RH.all RH.upto
 refine List.Pairwise.filter _ ?_
 rw [List.pairwise_map]
 exact List.pairwise_lt_range.imp fun h=>by omega
theorem sorted_reach {ws S:List Int} (hw:WFH r) (hnd:S.Nodup) (hiff:∀ k,k∈S↔Reaches r ws k){out:List Int} (hp:out.Perm S):(out.mergeSort fun x y=>decide (x≤y))=r.reach ws:=by
 have hs:=List.pairwise_mergeSort (le:=fun x y:Int=>decide (x≤y)) (fun a b c h1 h2=>by simp at *;omega) (fun a b=>by simp;omega) out
 have h1:(r.reach ws).Pairwise (· < ·):=(RH.all_sorted r).filter _
 have h2:(r.reach ws).Nodup:=h1.imp fun h e=>by omega
 have hperm:(out.mergeSort fun x y=>decide (x≤y)).Perm (r.reach ws):=by
  refine ((List.mergeSort_perm out _).trans hp).trans ?_
  rw [List.perm_ext_iff_of_nodup hnd h2]
  intro k
  rw [hiff,RH.mem_reach hw]
 exact List.Perm.eq_of_pairwise (fun a b _ _ h3 h4=>by simp at h3 h4;omega) hs (h1.imp fun h=>by simp;omega) hperm
end
section
variable {H:Heap}{hb:Nat}{F:Foot}{r:RH}{Q:QT}
theorem rng {H6:Heap}{S T:List Int}{k:Int}{o:RO}{X:Loop}{Kn Kr:Heap→Prop}{Ke:List (Nat × (Heap→Prop))} (hR:HRep H hb F r) (hst:St H H6 S T){ws:List Int} (hwk:Walk r ws S T) (hoo:objAt r.objs k=some o) (hkR:Reaches r ws k) (hall:r.all.length≤65537)
  (hX:∀ {n1:Int}{Q':Value→Heap→Prop}{H':Heap},H'[H6.size+3]?=some (.loop X)→collect_Reach_round0 (H6.size+3) ⟨H.size+3,0,none⟩ n1 Q' H'→yieldS PP (H6.size+3) #[.int .i64 n1] Q' H') (hXs:X.state=.ready) (hXp:X.pending=none)
  (hK:∀ H8,St H H8 ((nexts r o).foldl addS (S,T)).1 ((nexts r o).foldl addS (S,T)).2→Kn H8) :
  callS PP n_k269 ((#[]++#[.func (.yield (H6.size+3)) #[] #[]])++#[.pointer (some ⟨H6.size,0,none⟩),.pointer (some ⟨H6.size+1,0,none⟩)]) (fun _ H7=>rangeEnd (H6.size+3) Kn Kr Ke H7)
   ((((H6.push (.cells #[.pointer (some ⟨hb,0,none⟩)] 46)).push (.cells #[.int .i64 k] 3)).push (.deferred (some []))).push (.loop X)):=by
 have hw:=hR.wf
 have h4:H.size+4≤H6.size:=by obtain ⟨_,_,_,_,h⟩:=hst;have:=h.lt;omega
 show callS PP n_k269 #[.func (.yield (H6.size+3)) #[] #[],.pointer (some ⟨H6.size,0,none⟩),.pointer (some ⟨H6.size+1,0,none⟩)] _ _
 have b0:Blk ((((H6.push (.cells #[.pointer (some ⟨hb,0,none⟩)] 46)).push (.cells #[.int .i64 k] 3)).push (.deferred (some []))).push (.loop X)) H6.size #[.pointer (some ⟨hb,0,none⟩)]:=(((Blk.new H6 _ _).push _).push _).push _
 have b1:Blk ((((H6.push (.cells #[.pointer (some ⟨hb,0,none⟩)] 46)).push (.cells #[.int .i64 k] 3)).push (.deferred (some []))).push (.loop X)) (H6.size+1) #[.int .i64 k]:=by
  have:=((Blk.new (H6.push (.cells #[.pointer (some ⟨hb,0,none⟩)] 46)) #[.int .i64 k] 3).push (.deferred (some []))).push (.loop X)
  simpa using this
 have hl:((((H6.push (.cells #[.pointer (some ⟨hb,0,none⟩)] 46)).push (.cells #[.int .i64 k] 3)).push (.deferred (some []))).push (.loop X))[H6.size+3]?=some (.loop X):=by
  have:H6.size+3=(((H6.push (.cells #[.pointer (some ⟨hb,0,none⟩)] 46)).push (.cells #[.int .i64 k] 3)).push (.deferred (some []))).size:=by simp
  rw [this];exact Array.getElem?_push_size
 obtain ⟨G0,gV0,gf0,gG,gB0⟩:=hst
 have hfp:Fr [] H6 ((((H6.push (.cells #[.pointer (some ⟨hb,0,none⟩)] 46)).push (.cells #[.int .i64 k] 3)).push (.deferred (some []))).push (.loop X)):=(((Fr.push [] H6 _).more).more).more
 have gV:=gV0.fr hfp (by simp) (by simp) (by simp) (Disj.nil_right _)
 have gf:=gf0.trans hfp
 have gB:=gB0.fr hfp (by simp)
 have hG0:∀ x∈G0,x<H6.size∨H6.size+4≤x:=fun x hx=>.inl (gV0.lt x (by simp [hx]))
 refine from1_c (hb:=hb) (F:=F) (r:=r) (k:=k) hoo (J:=fun pre H'=>(∃ G,Vis H' (H.size+1) (H.size+2) H.size (pre.foldl addS (S,T)).1 (pre.foldl addS (S,T)).2 G∧Fr [] H H'∧(∀ x∈G,H.size+4≤x)∧Blk H' (H.size+3) #[visitV H.size]∧∀ x∈G,x<H6.size∨H6.size+4≤x)∧Blk H' H6.size #[.pointer (some ⟨hb,0,none⟩)]∧Blk H' (H6.size+1) #[.int .i64 k]∧H'[H6.size+3]?=some (.loop X))
  (fun pre H' hJ=>⟨hR.fr hJ.1.choose_spec.2.1 (Disj.nil_right F) (by simp),hJ.2.1.cell 0,hJ.2.2.1.cell 0⟩) ?_ ⟨⟨G0,gV,gf,gG,gB,hG0⟩,b0,b1,hl⟩ ?_
 ·rintro pre x H' ⟨suf,he⟩ ⟨⟨G,pV,pf,pG,pB,pb⟩,k0,k1,hl'⟩
  refine hX hl' ?_
  unfold collect_Reach_round0 iV
  have hwk':Walk r ws (pre.foldl addS (S,T)).1 (pre.foldl addS (S,T)).2:=hwk.fold fun y hy=>reach_nexts hoo hkR y (by rw [he];simp [hy])
  have hfb:∀ (Y:Heap) (o:Obj),Fr [H6.size+3] Y (Y.setIfInBounds (H6.size+3) o):=fun Y o=>Fr.setObj _ _ _
  have keepV:∀ {Y:Heap}{o:Obj}{S' T':List Int}{G':Foot},Vis Y (H.size+1) (H.size+2) H.size S' T' G'→Fr [] H Y→Blk Y (H.size+3) #[visitV H.size]→(∀ x∈G',x<H6.size∨H6.size+4≤x) →
    Vis (Y.setIfInBounds (H6.size+3) o) (H.size+1) (H.size+2) H.size S' T' G'∧Fr [] H (Y.setIfInBounds (H6.size+3) o)∧Blk (Y.setIfInBounds (H6.size+3) o) (H.size+3) #[visitV H.size]:=by
   intro Y o S' T' G' hv hf hB hbn
   refine ⟨hv.fr (hfb Y o) (by simp;omega) (by simp;omega) (by simp;omega) (fun x hx hm=>?_),⟨by simpa using hf.1,fun b hb' _=>?_⟩,hB.fr (hfb Y o) (by simp;omega)⟩
   ·have h1:=List.mem_singleton.1 hm
    rcases hbn x hx with h2 | h2 <;> omega
   ·rw [(hfb Y o).2 b (Nat.lt_of_lt_of_le hb' hf.1) (fun hm=>by have:=List.mem_singleton.1 hm;omega),hf.2 b hb' (by simp)]
  have hllt:=(Array.getElem?_eq_some_iff.1 hl').1
  have hl2:(H'.setIfInBounds (H6.size+3) (Obj.loop { X with state:=.busy }))[H6.size+3]?=some (.loop { X with state:=.busy }):=by simp [hllt]
  have k02:=k0.fr (hfb H' (Obj.loop { X with state:=.busy })) (by simp)
  have k12:=k1.fr (hfb H' (Obj.loop { X with state:=.busy })) (by simp)
  obtain ⟨qV,qf,qB⟩:=keepV (o:=Obj.loop { X with state:=.busy }) pV pf pB pb
  refine ⟨X,hl',hXs,_,_,_,qB.cell 0,?_⟩
  show callS PP n_k248 #[.int .i64 x,.pointer (some ⟨H.size+1,0,none⟩),.pointer (some ⟨H.size+2,0,none⟩)] _ _
  have hle:=hwk'.le hw
  refine St.visitG qV qf pG qB (by omega) fun H3 G' v1 v2 v3 v4 v5 v6=>⟨rfl,?_⟩
  have hGn:∀ b,(b=H6.size∨b=H6.size+1∨b=H6.size+3)→b∉(H.size+1) :: (H.size+2) :: H.size :: G:=by
   intro b hb' hm
   simp only [List.mem_cons] at hm
   rcases hm with h1 | h1 | h1 | h1
   ·omega
   ·omega
   ·omega
   ·rcases pb b h1 with h2 | h2 <;> omega
  have l3:H3[H6.size+3]?=some (.loop { X with state:=.busy }):=(v6.2 _ (by simpa using hllt) (hGn _ (.inr (.inr rfl)))).trans hl2
  have hb3:∀ x∈G',x<H6.size∨H6.size+4≤x:=fun x hx=>by
   rcases v5 x hx with h1 | h1
   ·exact pb x h1
   ·have:H6.size+3<(H'.setIfInBounds (H6.size+3) (Obj.loop { X with state:=.busy })).size:=by simpa using hllt
    omega
  have hX2:({ ({ X with state:=.busy }:Loop) with state:=.ready,pending:=none }:Loop)=X:=by
   cases X;simp only at hXs hXp;subst hXs;subst hXp;rfl
  refine ⟨_,l3,rfl,?_⟩
  rw [hX2]
  obtain ⟨u1,u2,u3⟩:=keepV (o:=Obj.loop X) v1 v2 v4 hb3
  have hl3lt:=(Array.getElem?_eq_some_iff.1 l3).1
  refine ⟨⟨G',?_,u2,v3,u3,hb3⟩,(k02.fr v6 (hGn _ (.inl rfl))).fr (hfb H3 _) (by simp),(k12.fr v6 (hGn _ (.inr (.inl rfl)))).fr (hfb H3 _) (by simp),by simp [hl3lt]⟩
  rw [List.foldl_append];exact u1
 ·rintro H' ⟨⟨G,pV,pf,pG,pB,pb⟩,k0,k1,hl'⟩
  refine ⟨X,hl',by rw [hXs];simp,?_⟩
  rw [hXp]
  exact hK _ (St.other ⟨G,pV,pf,pG,pB⟩ (Fr.setObj _ _ _) (by
   intro b hb'
   have hb':=List.mem_singleton.1 hb'
   subst hb'
   exact ⟨by omega,fun c e f hc=>by rw [hl'] at hc;cases hc⟩))
theorem reach_c (hR:HRep H hb F r){a2:Option Addr}{l2 c2:Nat}{ws:List Int} (hk:Rd 1 H a2 l2 (intsV ws)) (hlk:l2≤1000000)
  (h:∀ a l c G H',Own 1 H' a l c (intsV (r.reach ws)) G→Fr [] H H'→(∀ x∈G,H.size≤x)→Q (.tuple #[.slice a l c,.int .i64 0]) H'):callS PP n_k194 #[.pointer (some ⟨hb,0,none⟩),.slice a2 l2 c2] Q H:=by
 have hw:=hR.wf
 have hmi:mapInfo PP 285=some (.int .i64,some (.int .i64 0)):=by kernel_rfl
 have hs1:sliceInfo PP 66=some (1,8,some (.int .i64 0)):=by kernel_rfl
 have hl2:l2=ws.length:=by have:=hk.1;simpa [intsV] using this.symm
 have hall:r.all.length≤65537:=by
  have:=r.upto_len (r.oops+1).toNat
  have h1:=hw.o1
  exact Nat.le_trans this (by omega)
 apply k194_ok
 unfold k194 A0 iV wW pV lV cS;dsimp only [shH]
 simp only [setH_push,setH_size,Array.size_push,Option.isNone_some,cond_false,Wr_push,List.setIfInBounds_toArray,List.set_cons_zero,List.set_cons_succ,List.size_toArray,List.length_cons,List.length_nil,List.getElem?_toArray,List.getElem?_cons_succ,List.getElem?_cons_zero,Nat.add_assoc,Nat.reduceAdd]
 have e1:H.size+1=(H.push (.map #[] 0)).size:=by simp
 have e3:H.size+3=(((H.push (.map #[] 0)).push (.cells #[.map (some H.size)] 285)).push (.cells #[.slice none 0 0] 66)).size:=by simp
 have w1:Wr ((H.push (.map #[] 0)).push (.cells #[.map none] 285)) ⟨H.size+1,0,none⟩:=by rw [e1];exact Wr_push.2 (by simp)
 have x1:setH ((H.push (.map #[] 0)).push (.cells #[.map none] 285)) ⟨H.size+1,0,none⟩ (.map (some H.size))=(H.push (.map #[] 0)).push (.cells #[.map (some H.size)] 285):=by rw [e1,setH_push];rfl
 rw [x1]
 refine ⟨w1,?_⟩
 have w2:Wr ((((H.push (.map #[] 0)).push (.cells #[.map (some H.size)] 285)).push (.cells #[.slice none 0 0] 66)).push (.cells #[.nilFunc] 286)) ⟨H.size+3,0,none⟩:=by rw [e3];exact Wr_push.2 (by simp)
 have x2:setH ((((H.push (.map #[] 0)).push (.cells #[.map (some H.size)] 285)).push (.cells #[.slice none 0 0] 66)).push (.cells #[.nilFunc] 286)) ⟨H.size+3,0,none⟩ (visitV H.size)=(((H.push (.map #[] 0)).push (.cells #[.map (some H.size)] 285)).push (.cells #[.slice none 0 0] 66)).push (.cells #[visitV H.size] 286):=by rw [e3,setH_push];rfl
 refine ⟨w2,?_⟩
 rw [x2]
 have hst0:St H ((((H.push (.map #[] 0)).push (.cells #[.map (some H.size)] 285)).push (.cells #[.slice none 0 0] 66)).push (.cells #[visitV H.size] 286)) [] []:=by
  have f0:Fr [] H (H.push (.map #[] 0)):=Fr.push _ _ _
  refine ⟨[],{ b1:=?_,b2:=⟨none,0,0,?_,Own.nil 1 _⟩,mp:=?_,n1:=by omega,n2:=by omega,n3:=by omega,n4:=by simp },f0.more.more.more,by simp,?_⟩
  ·have:=((Blk.new (H.push (.map #[] 0)) #[.map (some H.size)] 285).push (.cells #[.slice none 0 0] 66)).push (.cells #[visitV H.size] 286)
   simpa using this
  ·have:=(Blk.new ((H.push (.map #[] 0)).push (.cells #[.map (some H.size)] 285)) #[.slice none 0 0] 66).push (.cells #[visitV H.size] 286)
   simpa using this
  ·exact (MapAt.new H).fr (G:=[]) ((Fr.push [] _ _).more.more) (by simp)
  ·have:=Blk.new (((H.push (.map #[] 0)).push (.cells #[.map (some H.size)] 285)).push (.cells #[.slice none 0 0] 66)) #[visitV H.size] 286
   simpa using this
 generalize ((((H.push (.map #[] 0)).push (.cells #[.map (some H.size)] 285)).push (.cells #[.slice none 0 0] 66)).push (.cells #[visitV H.size] 286))=H0 at hst0 ⊢
 have hdn:Disj F []:=Disj.nil_right F
 have hRof:∀ {H2:Heap}{S T:List Int},St H H2 S T→HRep H2 hb F r:=fun hs=>hR.fr hs.fr hdn (by simp)
 refine ⟨fun w H2=>∃(i:Nat) (S:List Int),w=[.int .i64 i]∧i≤l2∧St H H2 S S∧Walk r ws S S∧∀ w∈ws.take i,namedO r w≠0→namedO r w∈S,fun w _=>match w with
  | [.int _ i]=>(l2-i).toNat
  | _=>0,⟨0,[],rfl,Nat.zero_le _,hst0,⟨by simp,by simp,by simp,by simp⟩,by simp⟩,?_⟩
 rintro w4 H2 ⟨i,S,rfl,hi,hst,hwk,hrt⟩ g5
 refine ⟨_,rfl,?_⟩
 rw [cond_dec]
 refine ite_i (fun hlt=>?_) fun hlt=>?_
 ·
  have hlt':i<ws.length:=by omega
  obtain ⟨p,rfl,hcell,hlt2⟩:=(hk.fr' hst.fr (by simp)).int (i:=(i:Int)) (by omega) hlt
  rw [Int.toNat_natCast] at hcell hlt2
  have hx:ws.getD i 0=ws[i]:=by simp [hlt2]
  rw [hx] at hcell
  have htk:ws.take (i+1)=ws.take i++[ws[i]]:=by rw [List.take_add_one];simp [hlt2]
  have e:IntKind.wrap .i64 ((i:Int)+1)=((i+1:Nat):Int):=by rw [wrap64_id (by omega) (by omega)];omega
  have hmu:((l2:Int)-((i+1:Nat):Int)).toNat<((l2:Int)-(i:Int)).toNat:=by omega
  refine ⟨⟨by omega,hlt⟩,_,rfl,_,by rw [Int.toNat_natCast,Nat.mul_one];exact hcell,?_⟩
  rw [e]
  refine named_c (hRof hst) (fun hne=>⟨_,_,rfl,?_⟩) fun he x=>⟨_,_,rfl,?_⟩
  ·simp only [cond_true]
   refine ⟨_,_,_,hst.cell,?_⟩
   have hle:=hwk.le hw
   refine hst.visit (by omega) fun H' hst'=>⟨rfl,⟨i+1,(addS (S,S) (namedO r ws[i])).1,rfl,by omega,?_,?_,?_⟩,hmu⟩
   ·have:(addS (S,S) (namedO r ws[i])).2=(addS (S,S) (namedO r ws[i])).1:=by unfold addS;split <;> rfl
    rw [this] at hst';exact hst'
   ·have:=hwk.fold (xs:=[namedO r ws[i]]) (by intro x hx;simp only [List.mem_singleton] at hx;subst hx;exact .root (by simp) hne)
    simp only [List.foldl_cons,List.foldl_nil] at this
    have e2:(addS (S,S) (namedO r ws[i])).2=(addS (S,S) (namedO r ws[i])).1:=by unfold addS;split <;> rfl
    rw [e2] at this;exact this
   ·intro w hw' hne'
    obtain ⟨nw,a1,_,a3,_⟩:=addS_spec (S,S) (namedO r ws[i])
    rw [htk] at hw'
    rcases List.mem_append.1 hw' with hw' | hw'
    ·rw [a1];exact List.mem_append_left _ (hrt w hw' hne')
    ·simp only [List.mem_singleton] at hw';subst hw';exact a3
  ·simp only [cond_false]
   refine ⟨⟨i+1,S,rfl,by omega,hst,hwk,fun w hw' hne'=>?_⟩,hmu⟩
   rw [htk] at hw'
   rcases List.mem_append.1 hw' with hw' | hw'
   ·exact hrt w hw' hne'
   ·simp only [List.mem_singleton] at hw';subst hw';exact absurd he hne'
 ·
  have hil:i=ws.length:=by omega
  rw [hil,List.take_length] at hrt
  refine ⟨fun w H5=>w=[]∧∃ S T,St H H5 S T∧Walk r ws S T∧Done r S T∧∀ w∈ws,namedO r w≠0→namedO r w∈S,fun _ H5=>(r.all.length-mapLen H5 H.size)+sliceLen H5 (H.size+2),⟨rfl,S,S,hst,hwk,fun k h1 h2=>absurd h1 h2,hrt⟩,?_⟩
  clear hst hwk hrt
  rintro w15 H5 ⟨rfl,S,T,hst,hwk,hdo,hrt⟩ g16
  obtain ⟨hml,hsl⟩:=hst.lens
  have hlens:=hwk.le hw
  have hst1:=hst
  obtain ⟨G,hV,hf0,hG,hvb⟩:=hst1
  obtain ⟨a,l,c,hBt,hO⟩:=hV.b2
  have hl:l=T.length:=by have:=hO.len;simpa [intsV] using this.symm
  have ct:cellH H5 ⟨H.size+2,0,none⟩=some (.slice a l c):=hBt.cell 0
  refine ⟨rfl,_,_,_,ct,?_⟩
  rw [cond_dec]
  refine ite_i (fun hpos=>?_) fun hpos=>?_
  ·
   have hlp:0<T.length:=by omega
   obtain ⟨T0,k,rfl⟩:∃ T0 k,T=T0++[k]:=by
    rcases List.eq_nil_or_concat T with h1 | ⟨m,x,h1⟩
    ·rw [h1] at hlp;simp at hlp
    ·exact ⟨m,x,by simpa using h1⟩
   have hlT:l=T0.length+1:=by simpa using hl
   have e2:IntKind.wrap .i64 ((l:Int)-1)=(T0.length:Int):=by rw [wrap64_id (by omega) (by omega)];omega
   have hTb:T0.length+1≤r.all.length:=by have:=hlens.2;simpa using this
   have hlec:=hO.2.1
   refine ⟨_,_,_,ct,_,_,_,ct,?_⟩
   rw [e2]
   obtain ⟨p,rfl,hcell,hlt2⟩:=hO.rd.int (i:=(T0.length:Int)) (by omega) (by omega)
   rw [Int.toNat_natCast] at hcell
   have hx:(T0++[k]).getD T0.length 0=k:=by simp
   rw [hx] at hcell
   refine ⟨⟨by omega,by omega⟩,_,rfl,k,by rw [Int.toNat_natCast,Nat.mul_one];exact hcell,_,_,_,ct,_,_,_,ct,?_⟩
   rw [e2]
   rw [Int.toNat_natCast]
   refine ⟨⟨by omega,by omega⟩,hBt.wr (by simp),?_⟩
   have hst6:St H (setH H5 ⟨H.size+2,0,none⟩ (.slice (some p) T0.length c)) S T0:=by
    have hft:Fr [H.size+2] H5 (setH H5 ⟨H.size+2,0,none⟩ (.slice (some p) T0.length c)):=Fr.set (by simp)
    have hn4:=hV.n4
    refine ⟨G,{ b1:=hV.b1.fr hft (by simp),b2:=⟨some p,T0.length,c,hBt.set 0 _,?_⟩,mp:=hV.mp.fr hft (by simp),n1:=hV.n1,n2:=hV.n2,n3:=hV.n3,n4:=hV.n4 },?_,hG,hvb.fr hft (by simp)⟩
    ·have h1:=hO.fr hft (fun x hx hm=>(hn4 x hx).2.1 (by simpa using hm))
     refine ⟨by simp [intsV],by omega,?_⟩
     rcases h1.2.2 with ⟨h2,_,_⟩ | ⟨b',cs,h2,h3,h4,h5,h6⟩
     ·cases h2
     ·refine .inr ⟨b',cs,h2,h3,h4,h5,?_⟩
      have h7:(cs.toList.take (l*1)).take T0.length=(intsV (T0++[k])).take T0.length:=by rw [h6]
      have h8:(intsV T0).take T0.length=intsV T0:=List.take_of_length_le (by simp [intsV])
      have h9:min T0.length (l*1)=T0.length:=by omega
      rw [List.take_take,intsV_append,List.take_append_of_le_length (by simp [intsV]),h8,h9] at h7
      rw [←h7,Nat.mul_one]
    ·refine ⟨Nat.le_trans hf0.1 hft.1,fun b hb _=>?_⟩
     rw [hft.2 b (Nat.lt_of_lt_of_le hb hf0.1) (by simp;omega),hf0.2 b hb (by simp)]
   have hdd:∀ H6,H6=setH H5 ⟨H.size+2,0,none⟩ (.slice (some p) T0.length c)→H6=setH H5 ⟨H.size+2,0,none⟩ (.slice (some p) T0.length c):=fun _ h=>h
   generalize hH6:setH H5 ⟨H.size+2,0,none⟩ (.slice (some p) T0.length c)=H6 at hst6 ⊢
   clear hdd
   have hkS:k∈S:=hwk.sub k (by simp)
   have hkR:Reaches r ws k:=hwk.sound k hkS
   obtain ⟨o,hoo⟩:∃ o,objAt r.objs k=some o:=by
    cases ho:objAt r.objs k with
    | none=>exact absurd ho hkR.there
    | some o=>exact ⟨o,rfl⟩
   refine from_c (H:=H6) (hb:=hb) ⟨_,_,_,rfl,fun fn26=>?_⟩
   have hwk6:Walk r ws S T0:={ hwk with ndT:=hwk.ndT.sublist (by simp),sub:=fun x hx=>hwk.sub x (by simp [hx]) }
   simp only [Array.size_push,Nat.add_assoc,Nat.reduceAdd]
   refine rng (H:=H) (ws:=ws) hR hst6 hwk6 hoo hkR hall (fun hl hq=>collect_Reach_round0_ok hl hq) rfl rfl fun H8 hst8=>?_
   have hnx:∀ x∈nexts r o,Reaches r ws x:=reach_nexts hoo hkR
   obtain ⟨nw,b1,b2,b3,b4,b5⟩:=fold_spec (S,T0) (nexts r o)
   simp only at b1 b2
   have hwk8:=hwk6.fold hnx
   obtain ⟨hm8,hs8⟩:=hst8.lens
   have hle8:=hwk8.le hw
   refine ⟨⟨trivial,_,_,hst8,hwk8,fun j hj1 hj2 o' ho' x hx=>?_,fun w hw' hne=>?_⟩,?_⟩
   ·by_cases hjk:j=k
    ·subst hjk
     rw [hoo] at ho';cases ho'
     exact b3 x hx
    ·rw [b2] at hj2
     rw [b1] at hj1 ⊢
     have hjS:j∈S:=by
      rcases List.mem_append.1 hj1 with h1 | h1
      ·exact h1
      ·exact absurd (List.mem_append_right T0 h1) hj2
     refine List.mem_append_left _ (hdo j hjS (fun hm=>?_) o' ho' x hx)
     rcases List.mem_append.1 hm with h1 | h1
     ·exact hj2 (List.mem_append_left _ h1)
     ·simp only [List.mem_singleton] at h1;exact hjk h1
   ·rw [b1];exact List.mem_append_left _ (hrt w hw' hne)
   ·rw [hm8,hs8,hml,hsl]
    have l1:=congrArg List.length b1
    have l2:=congrArg List.length b2
    simp only [List.length_append,List.length_cons,List.length_nil] at l1 l2 ⊢
    omega
  ·
   have hT0:T=[]:=List.eq_nil_of_length_eq_zero (by omega)
   subst hT0
   have hcl:=hwk.closed hw hdo hrt
   have cm:cellH H5 ⟨H.size+1,0,none⟩=some (.map (some H.size)):=hV.b1.cell 0
   refine ⟨_,cm,evS_lenMap hmi hV.mp ⟨_,rfl,?_⟩⟩
   have hSl:(seenE S).length=S.length:=by simp [seenE]
   have hSle:=hlens.1
   refine evS_makeSlice hs1 rfl (Int.le_refl _) (by omega) (by omega) (by decide) fun e=>⟨_,_,_,rfl,?_⟩
   have hfp:Fr [] H5 (H5.push (.cells (Array.replicate ((seenE S).length:Int).toNat (.int .i64 0)) e)):=Fr.push _ _ _
   refine ⟨_,(show _=some (Value.map (some H.size)) from (hV.b1.fr hfp (by simp)).cell 0),?_⟩
   refine evS_rangeMap hmi (hV.mp.fr hfp (by simp)) fun H11 hit hf11=>?_
   have hlt5:H.size+3<H5.size:=hvb.lt
   refine ⟨fun w HH=>∃(a:Option Addr) (l c:Nat) (G':Foot) (done:List (Key × Value)),w=[.slice a l c]∧IterAt HH (H5.size+1) H.size (seenE S) done∧Own 1 HH a l c (intsV (keysOf done)) G'∧Fr [] H HH∧(∀ x∈G',H5.size≤x∧x≠H5.size+1)∧G'≠[]∧H5.size+2≤HH.size,fun w _=>match w with
    | [.slice _ l _]=>S.length-l
    | _=>0,⟨_,_,_,[H5.size],[],rfl,?_,?_,?_,?_,by simp,?_⟩,?_⟩
   ·simpa using hit
   ·exact (Own.newMem H5 ((seenE S).length:Int).toNat e).fr hf11 (by simp)
   ·exact (hf0.trans hfp).trans hf11
   ·simp
   ·have:=hf11.1;simp only [Array.size_push] at this
    have h2:=hit
    obtain ⟨_,_,_,_,_,_,_,_,h3,_⟩:=h2
    have:=(Array.getElem?_eq_some_iff.1 h3).1
    simp only [Array.size_push] at this
    omega
   ·rintro w HH ⟨a1,l1,c1,G1,done,rfl,hit1,ho1,hf1,hG1,hne1,hsz1⟩ g
    refine ⟨_,_,_,rfl,?_⟩
    have hl1:l1=done.length:=by have:=ho1.len;simpa [intsV,keysOf] using this.symm
    have hle1:=hit1.len
    rw [hSl] at hle1
    simp only [Array.size_push]
    refine evS_nextMap hit1 (fun hperm=>.inl ⟨rfl,?_⟩) fun p H12 hp hit2 hf2=>.inr ⟨_,_,rfl,?_⟩
    ·
     have hpk:(keysOf done).Perm S:=by
      have:=List.Perm.map (fun p:Key × Value=>(keysOf [p]).headD 0) hperm
      have e:∀ l:List (Key × Value),l.map (fun p=>(keysOf [p]).headD 0)=keysOf l:=fun l=>by unfold keysOf;apply List.map_congr_left;intro p _;simp
      rw [e,e,keysOf_seen] at this;exact this
     rcases ho1.2.2 with ⟨_,_,h0⟩ | ⟨b,cs,h1,h2,_⟩
     ·exact absurd h0 hne1
     ·subst h1;subst h2
      refine callS_sortInts Tryz.sortI ⟨_,Tryz.func251,rfl⟩ ho1 (by omega) fun H13 ho13 hf13=>⟨rfl,fun H14 hsh=>?_⟩
      rw [sorted_reach hw hwk.nd (fun k=>hcl.iff) hpk] at ho13
      have hb:=hG1 b (by simp)
      have hf14:Fr [] H H13:=⟨Nat.le_trans hf1.1 hf13.1,fun x hx _=>by
       rw [hf13.2 x (Nat.lt_of_lt_of_le hx hf1.1) (fun hm=>by have:=List.mem_singleton.1 hm;have:=hf0.1;omega),hf1.2 x hx (by simp)]⟩
      exact h _ _ _ [b] H14 (Shut.own hsh ho13) (Shut.fr hsh hf14 rfl) (fun x hx=>by have:=List.mem_singleton.1 hx;have:=hf0.1;omega)
    ·obtain ⟨n,hn⟩:∃ n,p.1=.int n:=by
      simp only [seenE,List.mem_map] at hp
      obtain ⟨k,_,rfl⟩:=hp
      exact ⟨k,rfl⟩
     refine evS_entryMap hit2 ⟨n,p.2,by rw [hn];rfl,?_⟩
     have hbG:(H5.size+1)∉G1:=fun hm=>(hG1 _ hm).2 rfl
     have ho2:Own 1 H12 a1 l1 c1 (intsV (keysOf done)) G1:=ho1.fr hf2 (fun x hx hm=>(hG1 x hx).2 (by simpa using hm))
     have hf12:Fr [] H H12:=⟨Nat.le_trans hf1.1 hf2.1,fun x hx _=>by
      rw [hf2.2 x (Nat.lt_of_lt_of_le hx hf1.1) (fun hm=>by have:=List.mem_singleton.1 hm;have:=hf0.1;omega),hf1.2 x hx (by simp)]⟩
     have hle2:=hit2.len
     rw [hSl,List.length_append] at hle2
     simp only [List.length_cons,List.length_nil] at hle2
     refine evS_append1 hs1 rfl (by kernel_rfl) ho2 rfl (by simp [oneC]) (by omega) (by decide) (by decide) fun a' c' G2 H3 g1 g2 g3=>⟨_,_,_,rfl,⟨a',l1+1,c',G2,done++[p],rfl,?_,?_,?_,?_,?_,?_⟩,?_⟩
     ·exact hit2.fr g2.1 hbG (fun hm=>by have:=(hG1 _ hm).1;have:=hf0.1;omega)
     ·have:keysOf (done++[p])=keysOf done++[n]:=by simp [keysOf,hn]
      rw [this,intsV_append];exact g1
     ·refine ⟨Nat.le_trans hf12.1 g2.1.1,fun x hx _=>?_⟩
      rw [g2.1.2 x (Nat.lt_of_lt_of_le hx hf12.1) (fun hm=>by have:=(hG1 _ hm).1;have:=hf0.1;omega),hf12.2 x hx (by simp)]
     ·intro x hx
      rcases g2.2 x hx with h4 | h4
      ·exact hG1 x h4
      ·have:=hf2.1;omega
     ·intro h0
      subst h0
      rcases g1.2.2 with ⟨_,h1,_⟩ | ⟨_,_,_,h1,_⟩
      ·have:=g1.2.1;omega
      ·cases h1
     ·have:=hf2.1;have:=g2.1.1;omega
     ·omega
end
section
variable {H:Heap}{Q:QT}
theorem indexFunc_c {a:Option Addr}{l c:Nat}{ws:List Int}{f:Nat}{p:Int→Bool} (hk:Rd 1 H a l (intsV ws)) (hlk:l≤1000000000)
  (hf:∀ x Q',Q' (.bool (p x)) H→callS PP f ((#[]++#[.int .i64 x])++#[]) Q' H) (h1:(∃ w∈ws,p w=true)→∀ n:Int,0≤n→Q (.int .i64 n) H) (h2:(∀ w∈ws,p w=false)→Q (.int .i64 (-1)) H):callS PP n_k242 #[.slice a l c,.func (.func f) #[] #[]] Q H:=by
 have hl:l=ws.length:=by have:=hk.1;simpa [intsV] using this.symm
 apply k242_ok
 unfold k242 iV wW
 refine ⟨fun w H'=>H'=H∧∃ i:Nat,w=[.int .i64 i]∧i≤l∧∀ w∈ws.take i,p w=false,fun w _=>match w with
  | [.int _ i]=>(l-i).toNat
  | _=>0,⟨rfl,0,rfl,Nat.zero_le _,by simp⟩,?_⟩
 rintro w H1 ⟨rfl,i,rfl,hi,hall⟩ _
 refine ⟨_,rfl,?_⟩
 rw [cond_dec]
 refine ite_i (fun hlt=>?_) fun hlt=>?_
 ·obtain ⟨q,rfl,hcell,hlt2⟩:=hk.int (i:=(i:Int)) (by omega) hlt
  rw [Int.toNat_natCast] at hcell hlt2
  have hx:ws.getD i 0=ws[i]:=by simp [hlt2]
  rw [hx] at hcell
  have htk:ws.take (i+1)=ws.take i++[ws[i]]:=by rw [List.take_add_one];simp [hlt2]
  have e:IntKind.wrap .i64 ((i:Int)+1)=((i+1:Nat):Int):=by rw [wrap64_id (by omega) (by omega)];omega
  refine ⟨⟨by omega,hlt⟩,_,rfl,_,by rw [Int.toNat_natCast,Nat.mul_one];exact hcell,hf _ _ ⟨_,rfl,?_⟩⟩
  cases hp:p ws[i] with
  | true=>exact h1 ⟨_,List.getElem_mem hlt2,hp⟩ _ (by omega)
  | false =>
   simp only [cond_false]
   rw [e]
   refine ⟨⟨trivial,i+1,rfl,by omega,fun w hw=>?_⟩,by simp;omega⟩
   rw [htk] at hw
   rcases List.mem_append.1 hw with hw | hw
   ·exact hall w hw
   ·simp only [List.mem_singleton] at hw;rw [hw];exact hp
 ·have:i=ws.length:=by omega
  rw [this,List.take_length] at hall
  exact h2 hall
theorem keep1_c {w:Int} (hk:Kinds H) (h:Q (.bool (!decide (isW w))) H):callS PP n_k164 #[.int .i64 w] Q H:=by
 apply k164_ok
 unfold k164 iV
 refine kind_c hk ⟨_,rfl,?_⟩
 have:(kindW w == 0)=!decide (isW w):=by rw [beqI];unfold isW;by_cases h:kindW w=0 <;> simp [h]
 rw [this];exact h
theorem containsBad_c {a:Option Addr}{l c:Nat}{ws:List Int} (hK:Kinds H) (hk:Rd 1 H a l (intsV ws)) (hlk:l≤1000000000) (h:Q (.bool (decide (∃ w∈ws,¬ isW w))) H):callS PP n_k163 #[.slice a l c,.func (.func n_k164) #[] #[]] Q H:=by
 apply k163_ok
 unfold k163 iV lV
 refine indexFunc_c (p:=fun w=>!decide (isW w)) hk hlk (fun x Q' hq=>?_) (fun he n hn=>⟨_,rfl,?_⟩) fun hall=>⟨_,rfl,?_⟩
 ·show callS PP n_k164 #[.int .i64 x] Q' H
  exact keep1_c hK hq
 ·have:(∃ w∈ws,¬ isW w):=by obtain ⟨w,h1,h2⟩:=he;exact ⟨w,h1,by simpa using h2⟩
  rw [decide_eq_true this] at h
  rw [decide_eq_true (show n ≥ 0 from hn)];exact h
 ·have:¬ (∃ w∈ws,¬ isW w):=fun ⟨w,h1,h2⟩=>by have:=hall w h1;simp at this;exact h2 this
  rw [decide_eq_false this] at h
  exact h
theorem cloneW_c {a:Option Addr}{l c:Nat}{ws:List Int} (hk:Rd 1 H a l (intsV ws)) (hlk:l≤1000000000) (h:∀ a' c' F H',Own 1 H' a' l c' (intsV ws) F→Fr [] H H'→(∀ x∈F,H.size≤x)→Q (.slice a' l c') H'):callS PP n_k187 #[.slice a l c] Q H:=by
 have hs1:sliceInfo PP 108=some (1,8,some (.int .i64 0)):=by kernel_rfl
 apply k187_ok
 unfold k187 A0 lV
 cases a with
 | none =>
  have h0:=hk.2.1 rfl
  subst h0
  have:ws=[]:=List.eq_nil_of_length_eq_zero (by have:=hk.1;simpa [intsV] using this)
  subst this
  exact h none 0 [] H (Own.nil 1 H) (Fr.refl _ _) (by simp)
 | some p =>
  simp only [Option.isNone_some,cond_false]
  have hown:Own 1 (H.push (.cells #[] 36)) (some ⟨H.size,0,none⟩) 0 0 (intsV []) [H.size]:=⟨by simp [intsV],Nat.le_refl _,.inr ⟨H.size,_,rfl,rfl,Blk.new _ _ _,by simp,by simp [intsV]⟩⟩
  refine evS_append hs1 rfl (by kernel_rfl) hown (hk.fr' (Fr.push [] _ _) (by simp)) intsV_one (by omega) (by decide) (by decide) fun a' c' F' H' g1 g2 g3=>⟨_,_,_,rfl,?_⟩
  have hfr:=Up.fresh (H:=H) (Fr.push [] H _) g2 (by simp)
  have:=h a' c' F' H' (by simpa [intsV] using g1) hfr.1 hfr.2
  simpa using this
end
def PSp (H:Heap) (b:Nat) (F:Foot) (s:SP):Prop:=∃ hb a l c F1 F2 po b5 b6 b7,F=b :: (F1++F2)∧b∉F1∧b∉F2∧Disj F1 F2∧b≠g_word_kinds∧g_word_kinds∉F2 ∧
 Blk H b #[.pointer (some ⟨hb,0,none⟩),.int .i64 s.king,.slice a l c,.bool s.op,.pointer po,.int .i64 b5,.int .i64 b6,.int .i64 b7]∧HRep H hb F1 s.h∧Own 1 H a l c (intsV s.stack) F2∧WFS s ∧
 (s.op=true→po=some ⟨hb,0,none⟩∧b5=s.born∧b6=s.turn∧b7=s.mark)
theorem PSp.wf {H:Heap}{b:Nat}{F:Foot}{s:SP} (h:PSp H b F s):WFS s:=by
 obtain ⟨_,_,_,_,_,_,_,_,_,_,_,_,_,_,_,_,_,_,_,h,_⟩:=h;exact h
theorem PSp.lt {H:Heap}{b:Nat}{F:Foot}{s:SP} (h:PSp H b F s):∀ x∈F,x<H.size:=by
 obtain ⟨hb,a,l,c,F1,F2,po,b5,b6,b7,rfl,h1,h2,h3,k1,k2,hB,hR,hO,_⟩:=h
 intro x hx
 rcases List.mem_cons.1 hx with rfl | hx
 ·exact hB.lt
 ·rcases List.mem_append.1 hx with hx | hx
  ·exact hR.lt x hx
  ·exact hO.lt x hx
theorem PSp.kinds {H:Heap}{b:Nat}{F:Foot}{s:SP} (h:PSp H b F s):Kinds H:=by
 obtain ⟨_,_,_,_,_,_,_,_,_,_,_,_,_,_,_,_,_,hR,_⟩:=h;exact hR.kinds
theorem PSp.gk {H:Heap}{b:Nat}{F:Foot}{s:SP} (h:PSp H b F s):g_word_kinds∉F:=by
 obtain ⟨hb,a,l,c,F1,F2,po,b5,b6,b7,rfl,h1,h2,h3,k1,k2,hB,hR,hO,_⟩:=h
 simp only [List.mem_cons,List.mem_append,not_or]
 exact ⟨fun e=>k1 e.symm,hR.gk,k2⟩
theorem PSp.bmem {H:Heap}{b:Nat}{F:Foot}{s:SP} (h:PSp H b F s):b∈F:=by obtain ⟨_,_,_,_,_,_,_,_,_,_,rfl,_⟩:=h;simp
theorem PSp.fr {H H':Heap}{b:Nat}{F G:Foot}{s:SP} (h:PSp H b F s) (hf:Fr G H H') (hd:Disj F G) (hg:g_word_kinds∉G):PSp H' b F s:=by
 obtain ⟨hb,a,l,c,F1,F2,po,b5,b6,b7,rfl,h1,h2,h3,k1,k2,hB,hR,hO,hw,ho⟩:=h
 exact ⟨hb,a,l,c,F1,F2,po,b5,b6,b7,rfl,h1,h2,h3,k1,k2,hB.fr hf (hd b (by simp)),hR.fr hf (hd.mono (fun x hx=>by simp [hx]) fun _ h=>h) hg,hO.fr hf (hd.mono (fun x hx=>by simp [hx]) fun _ h=>h),hw,ho⟩
theorem Kinds.lt {H:Heap} (h:Kinds H):g_word_kinds<H.size:=by
 have h0:=h.1
 unfold cellH at h0
 rcases Nat.lt_or_ge g_word_kinds H.size with h1 | h1
 ·exact h1
 ·simp only [Array.getElem?_eq_none h1] at h0;cases h0
section
variable {H:Heap}{b:Nat}{F F':Foot}{s:SP}{Q:QT}
theorem sgone_c (hS:PSp H b F s) (h:Q (.bool false) H):callS PP n_k97 #[.pointer (some ⟨b,0,none⟩)] Q H:=by
 obtain ⟨hb,a,l,c,F1,F2,po,b5,b6,b7,rfl,h1,h2,h3,k1,k2,hB,hR,hO,hw,ho⟩:=hS
 have hc0:cellH H ⟨b,0,none⟩=some (.pointer (some ⟨hb,0,none⟩)):=hB.cell 0
 apply k97_ok
 unfold k97 pV
 simp only [Option.isNone_some,cond_false]
 exact ⟨_,rfl,_,hc0,h⟩
theorem psNew_c {words oops:Int} (hk:Kinds H) (hbad:¬ (0≤words∧words≤1048576∧0≤oops∧oops≤65536)→Q (.tuple #[.pointer none,.int .i64 1]) H)
  (h:(0≤words∧words≤1048576∧0≤oops∧oops≤65536)→∀ b F H',PSp H' b F ⟨⟨words,oops,0,0,0,[]⟩,0,[],false,0,0,0⟩→Fr [] H H'→(∀ x∈F,H.size≤x)→Q (.tuple #[.pointer (some ⟨b,0,none⟩),.int .i64 0]) H'):callS PP n_k46 #[.int .i64 words,.int .i64 oops] Q H:=by
 have hgl:=hk.lt
 apply k46_ok
 unfold k46 A0 iV pV lV
 refine newHeap_c hk (fun hb=>⟨_,_,rfl,hbad hb⟩) fun hg hb F H1 hR hf hF=>⟨_,_,rfl,?_⟩
 simp only [show ((0:Int) != 0)=false from rfl,cond_false]
 have hlt:=hR.lt
 have hle:=hf.1
 refine h hg H1.size (H1.size :: (F++[])) _ ⟨hb,none,0,0,F,[],none,0,0,0,rfl,fun hx=>?_,by simp,Disj.nil_right _,by omega,by simp,Blk.new _ _ _,hR.fr (Fr.push [] _ _) (Disj.nil_right _) (by simp),Own.nil 1 _,?_,by simp⟩ hf.more ?_
 ·have:=hlt _ hx;omega
 ·exact ⟨hR.wf,by simp,by simp,by simp,by simp⟩
 ·intro x hx
  simp only [List.append_nil,List.mem_cons] at hx
  rcases hx with rfl | hx
  ·exact hle
  ·exact hF x hx
theorem PSp.upd (hS:PSp H b F s):∃ hb F1,HRep H hb F1 s.h∧cellH H ⟨b,0,none⟩=some (.pointer (some ⟨hb,0,none⟩))∧cellH H ⟨b,3,none⟩=some (.bool s.op)∧cellH H ⟨b,1,none⟩=some (.int .i64 s.king)∧(∀ x∈F1,x∈F)∧b∉F1 ∧
  ∀ H' r',HRep H' hb F1 r'→Fr F1 H H'→PSp H' b F { s with h:=r' }:=by
 obtain ⟨hb,a,l,c,F1,F2,po,b5,b6,b7,rfl,h1,h2,h3,k1,k2,hB,hR,hO,hw,ho⟩:=hS
 refine ⟨hb,F1,hR,hB.cell 0,hB.cell 3,hB.cell 1,fun x hx=>by simp [hx],h1,fun H' r' hR' hf=>?_⟩
 exact ⟨hb,a,l,c,F1,F2,po,b5,b6,b7,rfl,h1,h2,h3,k1,k2,hB.fr hf h1,hR',hO.fr hf h3.symm,{ hw with h:=hR'.wf },ho⟩
theorem psHeap_c (hS:PSp H b F s) (h:∀ hb F1,HRep H hb F1 s.h→(∀ x∈F1,x∈F)→(∀ H' r',HRep H' hb F1 r'→Fr F1 H H'→PSp H' b F { s with h:=r' })→Q (.pointer (some ⟨hb,0,none⟩)) H):callS PP n_k20 #[.pointer (some ⟨b,0,none⟩)] Q H:=by
 obtain ⟨hb,F1,hR,c0,c3,c1,hsub,hnb,hup⟩:=hS.upd
 apply k20_ok
 unfold k20 pV
 refine sgone_c hS ⟨_,rfl,?_⟩
 simp only [cond_false]
 exact ⟨_,rfl,_,c0,h hb F1 hR hsub hup⟩
theorem psCrown_c (hS:PSp H b F s){k:Int} (h:∀ H',PSp H' b F (s.crown k).2→Fr F H H'→Q (.int .i64 (s.crown k).1) H'):callS PP n_k53 #[.pointer (some ⟨b,0,none⟩),.int .i64 k] Q H:=by
 have hS0:=hS
 apply k53_ok
 unfold k53 iV pV cS
 refine sgone_c hS ⟨_,rfl,?_⟩
 simp only [cond_false]
 obtain ⟨hb,a,l,c,F1,F2,po,b5,b6,b7,rfl,h1,h2,h3,k1,k2,hB,hR,hO,hw,ho⟩:=hS
 have hc0:cellH H ⟨b,0,none⟩=some (.pointer (some ⟨hb,0,none⟩)):=hB.cell 0
 refine ⟨_,rfl,_,hc0,hclass_c hR ⟨_,_,rfl,?_⟩⟩
 unfold SP.crown at h
 rw [bneI,cond_dec]
 refine ite_i (fun he=>?_) fun he=>?_
 ·rw [if_pos he] at h
  exact h H hS0 (Fr.refl _ _)
 ·rw [if_neg he] at h
  refine ⟨_,rfl,hB.wr (by simp),h _ ⟨hb,a,l,c,F1,F2,po,b5,b6,b7,rfl,h1,h2,h3,k1,k2,hB.set 1 (.int .i64 k),hR.fr (Fr.set (F:=[b]) (by simp)) (fun x hx hn=>h1 (by simp only [List.mem_singleton] at hn;rw [←hn];exact hx)) (by simpa using Ne.symm k1),hO.fr (Fr.set (F:=[b]) (by simp)) (fun x hx hn=>h2 (by simp only [List.mem_singleton] at hn;rw [←hn];exact hx)),?_,ho⟩ (Fr.set (by simp))⟩
  have:∃ o,objAt s.h.objs k=some o:=by
   unfold RH.clsAt at he
   cases ho:objAt s.h.objs k with
   | none=>rw [ho] at he;simp at he
   | some o=>exact ⟨o,rfl⟩
  obtain ⟨o,hoo⟩:=this
  have hg:=hw.h.objs.good o (objAt_some hoo).1
  have g1:=hg.oop1
  have g2:=hg.oop2
  have g3:=hw.h.o1
  rw [(objAt_some hoo).2] at g1 g2
  exact { hw with king0:=by simp;omega,king1:=by simp;omega }
theorem psSetRoot_c (hS:PSp H b F s){i w:Int} (hf:∀ o,objAt s.h.objs s.king=some o→o.fmt=0) (h:∀ H',PSp H' b F (s.setRoot i w).2→Fr F H H'→Q (.int .i64 (s.setRoot i w).1) H'):callS PP n_k96 #[.pointer (some ⟨b,0,none⟩),.int .i64 i,.int .i64 w] Q H:=by
 obtain ⟨hb,F1,hR,c0,c3,c1,hsub,hnb,hup⟩:=hS.upd
 apply k96_ok
 unfold k96 iV pV cS
 refine sgone_c hS ⟨_,rfl,?_⟩
 simp only [cond_false]
 refine ⟨_,rfl,_,c0,_,rfl,_,by rw [add_none];exact c1,?_⟩
 refine put_c hR hf fun H' hR' hf'=>⟨_,rfl,trivial,?_⟩
 exact h H' (hup H' _ hR' hf') (hf'.mono hsub)
theorem psRoots_c (hS:PSp H b F s) (h:∀ a l c H' ws,Rd 1 H' a l (intsV ws)→l≤65537→s.h.reach ws=s.reach→Fr [] H H'→Q (.slice a l c) H'):callS PP n_k195 #[.pointer (some ⟨b,0,none⟩)] Q H:=by
 obtain ⟨hb,a,l,c,F1,F2,po,b5,b6,b7,rfl,h1,h2,h3,k1,k2,hB,hR,hO,hw,ho⟩:=hS
 have hc1:cellH H ⟨b,1,none⟩=some (.int .i64 s.king):=hB.cell 1
 have hc2:cellH H ⟨b,2,none⟩=some (.slice a l c):=hB.cell 2
 have hk0:=hw.king0
 have hk1:=hw.king1
 have hm:=hw.many
 have hl:l=s.stack.length:=by have:=hO.len;simpa [intsV] using this.symm
 have hs1:sliceInfo PP 108=some (1,8,some (.int .i64 0)):=by kernel_rfl
 apply k195_ok
 unfold k195 A0 iV lV cS
 refine ⟨_,rfl,_,by rw [add_none];exact hc1,?_⟩
 by_cases hz:s.king=0
 ·refine obj_no (by omega) ⟨_,_,rfl,?_⟩
  simp only [show ((1:Int) != 0)=true from rfl,cond_true]
  refine ⟨_,rfl,_,_,_,by rw [add_none];exact hc2,h _ _ _ H _ hO.rd (by omega) ?_ (Fr.refl _ _)⟩
  unfold SP.reach SP.roots RH.reach
  rw [hz]
  congr 1
  funext k
  have hn0:namedO s.h (4*0)=0:=by
   unfold namedO
   rw [if_neg]
   rintro ⟨h1,_⟩
   exact absurd h1 (by decide)
  have:Reaches s.h s.stack k↔Reaches s.h (4*0 :: s.stack) k:=by
   constructor
   ·intro hr
    induction hr with
    | root hw' hne=>exact .root (by simp [hw']) hne
    | cls _ h2 h3 ih=>exact .cls ih h2 h3
    | slot _ h2 h3 h4 h5 ih=>exact .slot ih h2 h3 h4 h5
   ·intro hr
    induction hr with
    | @root w hw' hne =>
     rcases List.mem_cons.1 hw' with rfl | hw'
     ·exact absurd hn0 hne
     ·exact .root hw' hne
    | cls _ h2 h3 ih=>exact .cls ih h2 h3
    | slot _ h2 h3 h4 h5 ih=>exact .slot ih h2 h3 h4 h5
  rw [Bool.eq_iff_iff,decide_eq_true_iff,decide_eq_true_iff]
  exact this
 ·refine obj_c (by omega) ⟨_,_,rfl,?_⟩
  simp only [show ((0:Int) != 0)=false from rfl,cond_false]
  refine ⟨_,rfl,_,_,_,by rw [add_none];exact (cellH_push_lt hB.lt).trans hc2,?_⟩
  have hown:Own 1 (H.push (.cells #[.int .i64 (4*s.king)] 36)) (some ⟨H.size,0,none⟩) 1 1 (intsV [4*s.king]) [H.size]:=⟨by simp [intsV],Nat.le_refl _,.inr ⟨H.size,_,rfl,rfl,Blk.new _ _ _,by simp,by simp [intsV]⟩⟩
  refine evS_append hs1 rfl (by kernel_rfl) hown (hO.fr (Fr.push [] _ _) (by simp)).rd intsV_one (by omega) (by decide) (by decide) fun a' c' F' H' g1 g2 g3=>⟨_,_,_,rfl,?_⟩
  have hfr:=Up.fresh (H:=H) (Fr.push [] H _) g2 (by simp)
  refine h _ _ _ H' s.roots ?_ (by omega) rfl hfr.1
  have e2:intsV s.roots=intsV [4*s.king]++intsV s.stack:=by simp [intsV,SP.roots]
  rw [e2]
  exact g1.rd
end
section
variable {H:Heap}{b:Nat}{F F':Foot}{s:SP}{Q:QT}
theorem run_c {hb:Nat}{F1:Foot}{r:RH} (hR:HRep H hb F1 r){a2:Option Addr}{l2 c2:Nat}{ws:List Int} (hk:Rd 1 H a2 l2 (intsV ws)) (hlk:l2≤1000000)
  (h:∀ H',HRep H' hb F1 (r.keep (r.reach ws)).2→Fr F1 H H'→Q (three (r.keep (r.reach ws)).1) H'):callS PP n_k211 #[.pointer (some ⟨hb,0,none⟩),.slice a2 l2 c2] Q H:=by
 apply k211_ok
 unfold k211 iV pV lV cS
 refine reach_c hR hk hlk fun a l c G H1 ho hf hG=>⟨_,_,_,_,rfl,?_⟩
 simp only [show ((0:Int) != 0)=false from rfl,cond_false]
 have hR1:=hR.fr hf (Disj.nil_right _) (by simp)
 have hlt:=hR.lt
 have hll:l≤1099511627776:=by
  have h1:=ho.len
  have h2:(r.reach ws).length≤r.all.length:=List.length_filter_le _ _
  have h3:=r.upto_len (r.oops+1).toNat
  have h4:=hR.wf.o1
  have h5:r.all.length≤(r.oops+1).toNat:=h3
  simp only [intsV,List.length_map] at h1
  omega
 refine keep_all (byPlace_c hb r) hR1 ho.rd (fun p hp hin=>?_) hll fun H2 hR2 hf2=>⟨_,_,_,rfl,h H2 hR2 ((hf.of_nil).trans hf2)⟩
 have hpG:p.block∈G:=by
  rcases ho.2.2 with ⟨h1,_⟩ | ⟨b',_,h1,rfl,_⟩
  ·rw [h1] at hp;cases hp
  ·rw [h1] at hp;cases hp;simp
 have h1:=hG _ hpG
 have h2:=hlt _ hin
 omega
theorem PSp.nilfr {H':Heap} (hS:PSp H b F s) (hf:Fr [] H H'):PSp H' b F s:=hS.fr hf (Disj.nil_right _) (by simp)
theorem psCollect_c (hS:PSp H b F s) (h:∀ H',PSp H' b F s.collect.2→Fr F H H'→cellH H' ⟨b,0,none⟩=cellH H ⟨b,0,none⟩→Q (three s.collect.1) H'):callS PP n_k108 #[.pointer (some ⟨b,0,none⟩)] Q H:=by
 obtain ⟨hb,F1,hR,c0,c3,c1,hsub,hnb,hup⟩:=hS.upd
 apply k108_ok
 unfold k108 iV pV lV cS
 unfold SP.collect at h
 refine sgone_c hS ⟨_,rfl,?_⟩
 simp only [cond_false]
 refine ⟨_,rfl,_,by rw [add_none];exact c3,?_⟩
 cases hop:s.op with
 | true =>
  rw [hop] at h
  simp only [cond_true]
  exact h H hS (Fr.refl _ _) rfl
 | false =>
  rw [if_neg (by rw [hop];simp)] at h
  simp only [cond_false]
  refine ⟨_,rfl,_,c0,psRoots_c hS fun a l c H1 ws hk hl he hf=>?_⟩
  have hS1:=hS.nilfr hf
  obtain ⟨hb',F1',hR1,c01,c31,c11,hsub1,hnb1,hup1⟩:=hS1.upd
  have hlt:=hS.lt
  have hbl:b<H.size:=hlt b hS.bmem
  have hsame:cellH H1 ⟨b,0,none⟩=cellH H ⟨b,0,none⟩:=by unfold cellH;rw [hf.2 b hbl (by simp)]
  have hbe:hb'=hb:=by rw [hsame,c0] at c01;simpa using c01.symm
  subst hbe
  refine ⟨_,_,_,rfl,⟨⟨by rw [hsame];exact c0,trivial⟩,trivial⟩,?_⟩
  refine run_c hR1 hk (by omega) fun H2 hR2 hf2=>⟨_,_,_,rfl,trivial,?_⟩
  rw [he] at hR2 ⊢
  refine h H2 (hup1 H2 _ hR2 hf2) ((hf.of_nil).trans (hf2.mono hsub1)) ?_
  rw [←hsame];unfold cellH;rw [hf2.2 b (Nat.lt_of_lt_of_le hbl hf.1) hnb1]
theorem psAlloc_c (hS:PSp H b F s){cls n f:Int} (h:∀ H',PSp H' b F (s.alloc cls n f).2→Fr F H H'→Q (.tuple #[.int .i64 (if (s.alloc cls n f).1.2=0 then (s.alloc cls n f).1.1 else 0),.int .i64 (s.alloc cls n f).1.2]) H') :
  callS PP n_k238 #[.pointer (some ⟨b,0,none⟩),.int .i64 cls,.int .i64 n,.int .i64 f] Q H:=by
 have hS0:PSp (H.push (.cells #[.pointer (some ⟨b,0,none⟩)] 47)) b F s:=hS.nilfr (Fr.push [] _ _)
 have hB0:Blk (H.push (.cells #[.pointer (some ⟨b,0,none⟩)] 47)) H.size #[.pointer (some ⟨b,0,none⟩)]:=Blk.new _ _ _
 have hlt:=hS.lt
 have hbx:H.size∉F:=fun hx=>by have:=hlt _ hx;omega
 apply k238_ok
 unfold k238 A0 iV pV cS
 refine ⟨_,hB0.cell 0,sgone_c hS0 ⟨_,rfl,?_⟩⟩
 simp only [cond_false]
 have hf0:Fr F H (H.push (.cells #[.pointer (some ⟨b,0,none⟩)] 47)):=Fr.push _ _ _
 generalize (H.push (.cells #[.pointer (some ⟨b,0,none⟩)] 47))=H0 at hS0 hB0 hf0 ⊢
 obtain ⟨hb,F1,hR,c0,c3,c1,hsub,hnb,hup⟩:=hS0.upd
 refine ⟨_,hB0.cell 0,_,rfl,_,c0,?_⟩
 have fin:∀ (p:Int × Int) (s':SP) (H2:Heap),PSp H2 b F s'→Fr F H H2→s.alloc cls n f=((4*p.1,p.2),s')→(p.2=0→1≤p.1∧p.1≤65536) →
   ∃ n12 n13:Int,two p=.tuple #[.int .i64 n12,.int .i64 n13]∧cond (n13 != 0) (Q (.tuple #[.int .i64 0,.int .i64 n13]) H2) (callS PP n_k138 #[.int .i64 n12] (fun v14 H3=>∃ n15:Int,∃ n16:Int,v14=.tuple #[.int .i64 n15,.int .i64 n16]∧Q (.tuple #[.int .i64 n15,.int .i64 n16]) H3) H2):=by
  intro p s' H2 hS2 hf2 he hb
  rw [he] at h
  refine ⟨_,_,rfl,?_⟩
  rw [bneI,cond_dec]
  refine ite_i (fun hne=>?_) fun hne=>?_
  ·have:=h H2 hS2 hf2
   simp only [hne,if_false] at this
   exact this
  ·have hz:p.2=0:=Classical.byContradiction hne
   have hbb:=hb hz
   refine obj_c hbb ⟨_,_,rfl,?_⟩
   have:=h H2 hS2 hf2
   simp only [hz,if_true] at this
   exact this
 have bnd:∀ (r:RH),WFH r→(r.alloc cls n f).1.2=0→1≤(r.alloc cls n f).1.1∧(r.alloc cls n f).1.1≤65536:=by
  intro r hw hz
  have ho1:=hw.o1
  unfold RH.alloc at hz ⊢
  split at hz
  ·simp at hz
  rename_i g1
  split at hz
  ·simp at hz
  rename_i g2
  split at hz
  ·simp at hz
  rename_i g3
  split at hz
  ·simp at hz
  rename_i g4
  rw [if_neg g1,if_neg g2,if_neg g3,if_neg g4]
  have:=lowFree_spec hw.objs hw.o1 (by omega)
  exact ⟨this.1,by have:=this.2.1;simp only;omega⟩
 apply k267_ok
 unfold k267 iV
 show callS PP n_k49 #[.pointer (some ⟨hb,0,none⟩),.int .i64 cls,.int .i64 n,.int .i64 f] _ H0
 refine alloc_c hR fun H1 hR1 hf1=>⟨_,_,rfl,?_⟩
 have hS1:=hup H1 _ hR1 hf1
 have hfr1:Fr F H H1:=hf0.trans (hf1.mono hsub)
 have hB1:=hB0.fr (hf1.mono hsub) hbx
 have hwf:=hS.wf.h
 rw [beqI,cond_dec]
 refine ite_i (fun he=>?_) fun he=>?_
 ·have hfull:=alloc_full he
  have hS1':PSp H1 b F s:=by
   have e:({ s with h:=(s.h.alloc cls n f).2 }:SP)=s:=by rw [hfull]
   rw [e] at hS1;exact hS1
  show callS PP n_k268 #[.pointer (some ⟨H.size,0,none⟩)] _ H1
  apply k268_ok
  unfold k268 iV pV cS
  refine ⟨_,hB1.cell 0,psCollect_c hS1' fun H2 hS2 hf2 hsm=>⟨_,_,_,rfl,_,rfl,?_⟩⟩
  have hB2:=hB1.fr hf2 hbx
  cases hop:s.op with
  | true =>
   have ec:s.collect=((0,0,25),s):=by unfold SP.collect;rw [hop];rfl
   rw [ec] at hS2 ⊢
   simp only [show ((25:Int) == 0)=false from rfl,cond_false]
   have ea:s.alloc cls n f=((4*(s.h.alloc cls n f).1.1,(s.h.alloc cls n f).1.2),s):=by
    unfold SP.alloc
    rw [if_pos (.inr hop),hfull]
   exact fin (s.h.alloc cls n f).1 s H2 hS2 (hfr1.trans hf2) ea (bnd _ hwf)
  | false =>
   have ec:s.collect=((s.h.keep s.reach).1,{ s with h:=(s.h.keep s.reach).2 }):=by unfold SP.collect;rw [hop];rfl
   have ek:(s.h.keep s.reach).1.2.2=0:=by
    unfold RH.keep
    rw [if_neg]
    rintro ⟨k,hk,hn⟩
    exact ((RH.mem_reach hwf).1 hk).there hn
   rw [ec] at hS2 ⊢
   simp only [ek,show ((0:Int) == 0)=true from rfl,cond_true]
   obtain ⟨hb',F1',hR3,c03,_,_,hsub3,_,hup3⟩:=hS2.upd
   have hbe:hb'=hb:=by
    have h1:cellH H2 ⟨b,0,none⟩=some (.pointer (some ⟨hb,0,none⟩)):=by
     rw [hsm,←c0];unfold cellH;rw [hf1.2 b (by have:=hS0.lt b hS0.bmem;exact this) hnb]
    rw [c03] at h1;simpa using h1
   subst hbe
   show callS PP n_k49 #[.pointer (some ⟨hb',0,none⟩),.int .i64 cls,.int .i64 n,.int .i64 f] _ H2
   refine alloc_c hR3 fun H4 hR4 hf4=>⟨_,_,rfl,?_⟩
   have hS4:=hup3 H4 _ hR4 hf4
   have ea:s.alloc cls n f=((4*((s.h.keep s.reach).2.alloc cls n f).1.1,((s.h.keep s.reach).2.alloc cls n f).1.2),{ s with h:=((s.h.keep s.reach).2.alloc cls n f).2 }):=by
    unfold SP.alloc
    rw [if_neg (by simp [he,hop])]
   exact fin ((s.h.keep s.reach).2.alloc cls n f).1 _ H4 hS4 ((hfr1.trans hf2).trans (hf4.mono hsub3)) ea (bnd _ (keep_wf hwf _))
 ·have ea:s.alloc cls n f=((4*(s.h.alloc cls n f).1.1,(s.h.alloc cls n f).1.2),{ s with h:=(s.h.alloc cls n f).2 }):=by
   unfold SP.alloc
   rw [if_pos (.inl he)]
  exact fin (s.h.alloc cls n f).1 _ H1 hS1 hfr1 ea (bnd _ hwf)
theorem psKeep_c (hS:PSp H b F s){a2:Option Addr}{l2 c2:Nat}{ws:List Int} (hk:Rd 1 H a2 l2 (intsV ws)) (hlk:l2≤1000000000) (h:∀ H' F',PSp H' b F' (s.keepW ws).2→Up F H F' H'→Q (.int .i64 (s.keepW ws).1) H'):callS PP n_k51 #[.pointer (some ⟨b,0,none⟩),.slice a2 l2 c2] Q H:=by
 have hS0:=hS
 have hlt0:=hS.lt
 have hkd:=hS.kinds
 have hgl:=hkd.lt
 apply k51_ok
 unfold k51 iV wW pV lV cS
 unfold SP.keepW at h
 refine sgone_c hS ⟨_,rfl,?_⟩
 simp only [cond_false]
 refine containsBad_c hkd hk hlk ⟨_,rfl,?_⟩
 rw [cond_dec]
 refine ite_i (fun hbad=>?_) fun hbad=>?_
 ·rw [if_pos hbad] at h;exact h H F hS0 (Up.refl _ _)
 rw [if_neg hbad] at h
 obtain ⟨hb,a,l,c,F1,F2,po,b5,b6,b7,rfl,h1,h2,h3,k1,k2,hB,hR,hO,hw,ho⟩:=hS
 have hc2:cellH H ⟨b,2,none⟩=some (.slice a l c):=hB.cell 2
 have hl:l=s.stack.length:=by have:=hO.len;simpa [intsV] using this.symm
 have hl2:l2=ws.length:=by have:=hk.1;simpa [intsV] using this.symm
 have hm:=hw.many
 have hs1:sliceInfo PP 108=some (1,8,some (.int .i64 0)):=by kernel_rfl
 refine ⟨_,rfl,_,_,_,by rw [add_none];exact hc2,?_⟩
 rw [wrap64_id (by omega) (by omega),cond_dec]
 refine ite_i (fun hbig=>?_) fun hbig=>?_
 ·rw [if_pos (by omega)] at h;exact h H _ hS0 (Up.refl _ _)
 rw [if_neg (by omega)] at h
 refine ⟨_,rfl,_,_,_,by rw [add_none];exact hc2,?_⟩
 refine evS_append hs1 rfl (by kernel_rfl) hO hk intsV_one (by omega) (by decide) (by decide) fun a' c' F3 H1 g1 g2 g3=>⟨_,_,_,rfl,_,rfl,?_⟩
 have hbF3:b∉F3:=fun hx=>by
  rcases g2.2 b hx with h4 | h4
  ·exact h2 h4
  ·have:=hlt0 b (by simp);omega
 have hgF3:g_word_kinds∉F3:=fun hx=>by
  rcases g2.2 _ hx with h4 | h4
  ·exact k2 h4
  ·omega
 have hB1:=hB.fr g2.1 h2
 have hfb:Fr [b] H1 (setH H1 ⟨b,2,none⟩ (.slice a' (l+l2) c')):=Fr.set (by simp)
 rw [add_none]
 refine ⟨hB1.wr (by simp),h _ (b :: (F1++F3)) ⟨hb,a',l+l2,c',F1,F3,po,b5,b6,b7,rfl,h1,hbF3,fun x hx hx3=>?_,k1,hgF3,hB1.set 2 (.slice a' (l+l2) c'),?_,?_,?_,ho⟩ ⟨?_,fun x hx=>?_⟩⟩
 ·rcases g2.2 x hx3 with h4 | h4
  ·exact h3 x hx h4
  ·have:=hlt0 x (by simp [hx]);omega
 ·exact (hR.fr g2.1 h3 k2).fr hfb (fun x hx hn=>h1 (by simp only [List.mem_singleton] at hn;rw [←hn];exact hx)) (by simpa using Ne.symm k1)
 ·simp only
  rw [intsV_append]
  exact g1.fr hfb (fun x hx hn=>hbF3 (by simp only [List.mem_singleton] at hn;rw [←hn];exact hx))
 ·refine { hw with many:=?_,words:=fun w hw'=>?_ }
  ·simp only [List.length_append];omega
  ·rcases List.mem_append.1 hw' with h4 | h4
   ·exact hw.words w h4
   ·exact Classical.byContradiction fun hn=>hbad ⟨w,h4,hn⟩
 ·exact (g2.1.mono (F':=b :: (F1++F2)) fun x hx=>by simp [hx]).trans (hfb.mono fun x hx=>by simp only [List.mem_singleton] at hx;simp [hx])
 ·rcases List.mem_cons.1 hx with rfl | hx
  ·exact .inl (by simp)
  ·rcases List.mem_append.1 hx with hx | hx
   ·exact .inl (by simp [hx])
   ·exact (g2.2 x hx).imp (fun h4=>by simp [h4]) id
theorem psKept_c (hS:PSp H b F s) (h:∀ a c H',Rd 1 H' a s.stack.length (intsV s.stack)→Fr [] H H'→Q (.slice a s.stack.length c) H'):callS PP n_k83 #[.pointer (some ⟨b,0,none⟩)] Q H:=by
 apply k83_ok
 unfold k83 pV lV cS
 refine sgone_c hS ⟨_,rfl,?_⟩
 simp only [cond_false]
 obtain ⟨hb,a,l,c,F1,F2,po,b5,b6,b7,rfl,h1,h2,h3,k1,k2,hB,hR,hO,hw,ho⟩:=hS
 have hc2:cellH H ⟨b,2,none⟩=some (.slice a l c):=hB.cell 2
 have hl:l=s.stack.length:=by have:=hO.len;simpa [intsV] using this.symm
 have hm:=hw.many
 refine ⟨_,rfl,_,_,_,by rw [add_none];exact hc2,?_⟩
 refine cloneW_c hO.rd (by omega) fun a' c' G H1 ho1 hf1 hG=>⟨_,_,_,rfl,?_⟩
 apply k186_ok
 unfold k186 lV
 have hlc:=ho1.2.1
 refine ⟨⟨⟨by omega,by omega⟩,by omega,by omega⟩,_,_,_,rfl,?_⟩
 rw [Int.toNat_natCast,hl]
 rw [hl] at ho1
 exact h _ _ H1 ho1.rd hf1
theorem psDrop_c (hS:PSp H b F s){n:Int} (hn:I64 n) (h:∀ H',PSp H' b F (s.drop n).2→Fr F H H'→Q (.int .i64 (s.drop n).1) H'):callS PP n_k54 #[.pointer (some ⟨b,0,none⟩),.int .i64 n] Q H:=by
 have hS0:=hS
 apply k54_ok
 unfold k54 iV wW pV lV
 unfold SP.drop at h
 refine sgone_c hS ⟨_,rfl,?_⟩
 simp only [cond_false,cond_dec]
 refine ite_i (fun hneg=>?_) fun hneg=>?_
 ·rw [if_pos (.inl hneg)] at h;exact h H hS0 (Fr.refl _ _)
 obtain ⟨hb,a,l,c,F1,F2,po,b5,b6,b7,rfl,h1,h2,h3,k1,k2,hB,hR,hO,hw,ho⟩:=hS
 have hc2:cellH H ⟨b,2,none⟩=some (.slice a l c):=hB.cell 2
 have hl:l=s.stack.length:=by have:=hO.len;simpa [intsV] using this.symm
 have hm:=hw.many
 refine ⟨_,rfl,_,_,_,by rw [add_none];exact hc2,ite_i (fun hbig=>?_) fun hbig=>?_⟩
 ·rw [if_pos (.inr (by omega))] at h;exact h H hS0 (Fr.refl _ _)
 rw [if_neg (by omega)] at h
 have e:IntKind.wrap .i64 ((l:Int)-n)=(l:Int)-n:=wrap64_id (by omega) (by omega)
 have hlc:=hO.2.1
 refine ⟨_,rfl,_,_,_,by rw [add_none];exact hc2,_,rfl,_,_,_,by rw [add_none];exact hc2,?_⟩
 rw [e]
 have hfb:Fr [b] H (setH H ⟨b,2,none⟩ (.slice a ((l:Int)-n).toNat c)):=Fr.set (by simp)
 refine ⟨⟨by omega,by omega⟩,_,rfl,by rw [add_none];exact hB.wr (by simp),trivial,?_⟩
 rw [add_none]
 refine h _ ⟨hb,a,((l:Int)-n).toNat,c,F1,F2,po,b5,b6,b7,rfl,h1,h2,h3,k1,k2,hB.set 2 _,?_,?_,?_,ho⟩ (hfb.mono fun x hx=>by simp only [List.mem_singleton] at hx;simp [hx])
 ·exact hR.fr hfb (fun x hx hn=>h1 (by simp only [List.mem_singleton] at hn;rw [←hn];exact hx)) (by simpa using Ne.symm k1)
 ·have h4:=hO.fr hfb (fun x hx hn=>h2 (by simp only [List.mem_singleton] at hn;rw [←hn];exact hx))
  have h5:s.stack.length-n.toNat=((l:Int)-n).toNat:=by omega
  simp only
  rw [h5]
  refine ⟨by simp [intsV];omega,by omega,?_⟩
  rcases h4.2.2 with ⟨h6,h7,h8⟩ | ⟨b',cs,h6,h7,h8,h9,h10⟩
  ·exact .inl ⟨h6,h7,h8⟩
  ·refine .inr ⟨b',cs,h6,h7,h8,h9,?_⟩
   have h11:(cs.toList.take (l*1)).take (((l:Int)-n).toNat*1)=(intsV s.stack).take (((l:Int)-n).toNat*1):=by rw [h10]
   rw [List.take_take] at h11
   have h12:min (((l:Int)-n).toNat*1) (l*1)=((l:Int)-n).toNat*1:=by omega
   rw [h12] at h11
   rw [h11]
   simp [intsV,List.map_take]
 ·refine { hw with many:=?_,words:=fun w hw'=>hw.words w (List.mem_of_mem_take hw') }
  simp only [List.length_take];omega
end
theorem st4 {H:Heap}{b:Nat}{cs:Array Value} (hB:Blk H b cs){o:Nat} (ho:o+3<cs.size) (v0 v1 v2 v3:Value) :
  Wr H ⟨b,o,none⟩∧Wr (setH H ⟨b,o,none⟩ v0) ⟨b,o+1,none⟩∧Wr (setH (setH H ⟨b,o,none⟩ v0) ⟨b,o+1,none⟩ v1) ⟨b,o+2,none⟩ ∧
  Wr (setH (setH (setH H ⟨b,o,none⟩ v0) ⟨b,o+1,none⟩ v1) ⟨b,o+2,none⟩ v2) ⟨b,o+3,none⟩ ∧
  Blk (setH (setH (setH (setH H ⟨b,o,none⟩ v0) ⟨b,o+1,none⟩ v1) ⟨b,o+2,none⟩ v2) ⟨b,o+3,none⟩ v3) b ((((cs.setIfInBounds o v0).setIfInBounds (o+1) v1).setIfInBounds (o+2) v2).setIfInBounds (o+3) v3) ∧
  Fr [b] H (setH (setH (setH (setH H ⟨b,o,none⟩ v0) ⟨b,o+1,none⟩ v1) ⟨b,o+2,none⟩ v2) ⟨b,o+3,none⟩ v3):=by
 have h0:=hB.set o v0
 have h1:=h0.set (o+1) v1
 have h2:=h1.set (o+2) v2
 refine ⟨hB.wr (by omega),h0.wr (by simp;omega),h1.wr (by simp;omega),h2.wr (by simp;omega),h2.set (o+3) v3,?_⟩
 exact (((Fr.set (by simp)).step (by simp)).step (by simp)).step (by simp)
section
variable {H:Heap}{hb:Nat}{F:Foot}{r:RH}{Q:QT}
end
end Go.Proofs.YtmkdkplipbocjaaGreatDoor
namespace Kw
open Go
def strsV (l:List ByteArray):List Value:=l.map .string
theorem strsV_one {l:List ByteArray}:∀ v∈strsV l,oneC v=true:=by
 intro v hv
 simp only [strsV,List.mem_map] at hv
 obtain ⟨i,_,rfl⟩:=hv
 rfl
theorem strsV_append (l m:List ByteArray):strsV (l++m)=strsV l++strsV m:=by simp [strsV]
theorem Rd.str {H:Heap}{a:Option Addr}{l:Nat}{ys:List ByteArray} (h:Rd 1 H a l (strsV ys)){i:Int} (h0:0≤i) (h1:i<l):∃ p,∃ hlt:i.toNat<ys.length,a=some p∧cellH H (p.add i.toNat)=some (.string ys[i.toNat]):=by
 have hl:=h.1
 simp only [strsV,List.length_map] at hl
 cases a with
 | none=>have:=h.2.1 rfl;omega
 | some p =>
  have hi:i.toNat<ys.length:=by omega
  refine ⟨p,hi,rfl,?_⟩
  rw [h.2.2 p rfl i.toNat (by omega)]
  simp [strsV,hi]
structure TB where
 most:Int
 texts:List ByteArray
def goodText (s:ByteArray):Prop:=1≤s.size∧s.size≤96
instance (s:ByteArray):Decidable (goodText s):=inferInstanceAs (Decidable (_∧_))
structure WFT (t:TB):Prop where
 m0:0≤t.most
 m1:t.most≤4096
 len:(t.texts.length:Int)≤t.most
 nodup:t.texts.Nodup
 good:∀ s∈t.texts,goodText s
def numOf:List ByteArray→ByteArray→Option Nat
 | [],_=>none
 | x :: l,s=>if x=s then some 0 else (numOf l s).map (·+1)
theorem numOf_some {l:List ByteArray}{s:ByteArray}{n:Nat} (hn:n<l.length) (h1:l[n]=s) (h2:∀ j (hj:j<l.length),j<n→l[j]≠s):numOf l s=some n:=by
 induction l generalizing n with
 | nil=>simp at hn
 | cons x l ih =>
  unfold numOf
  cases n with
  | zero=>simp only [List.getElem_cons_zero] at h1;rw [if_pos h1]
  | succ n =>
   have h3:=h2 0 (by simp) (by omega)
   simp only [List.getElem_cons_zero] at h3
   rw [if_neg h3,ih (n:=n) (by simpa using hn) (by simpa using h1) fun j hj hjn=>h2 (j+1) (by simpa using hj) (by omega)]
   rfl
theorem numOf_none {l:List ByteArray}{s:ByteArray}:numOf l s=none↔s∉l:=by
 induction l with
 | nil=>simp [numOf]
 | cons x l ih =>
  unfold numOf
  by_cases h:x=s
  ·simp [h]
  ·rw [if_neg h]
   simp only [Option.map_eq_none_iff,ih,List.mem_cons,not_or]
   exact ⟨fun h1=>⟨fun e=>h e.symm,h1⟩,fun h1=>h1.2⟩
theorem numOf_append {l:List ByteArray}{s x:ByteArray}:numOf (l++[s]) x=match numOf l x with
  | some n=>some n
  | none=>if s=x then some l.length else none:=by
 induction l with
 | nil=>simp [numOf]
 | cons y l ih =>
  simp only [List.cons_append,numOf]
  by_cases h:y=x
  ·simp [h]
  ·rw [if_neg h,if_neg h,ih]
   cases numOf l x with
   | some n=>rfl
   | none =>
    simp only [Option.map_none]
    by_cases h2:s=x <;> simp [h2]
def TB.add (t:TB) (s:ByteArray):(Int × Int) × TB :=
 if ¬ goodText s then ((0,61),t) else match numOf t.texts s with
 | some n=>(((n:Int),0),t)
 | none=>if t.most≤(t.texts.length:Int) then ((0,60),t) else (((t.texts.length:Int),0),{ t with texts:=t.texts++[s] })
theorem add_wft {t:TB} (h:WFT t) (s:ByteArray):WFT (t.add s).2:=by
 unfold TB.add
 split
 ·exact h
 ·rename_i hg
  have hg:goodText s:=Classical.byContradiction hg
  cases hn:numOf t.texts s with
  | some n=>exact h
  | none =>
   simp only
   split
   ·exact h
   ·refine { h with len:=by simp;omega,nodup:=?_,good:=fun x hx=>?_ }
    ·rw [List.nodup_append]
     exact ⟨h.nodup,by simp,fun a ha b hb e=>numOf_none.1 hn (by simp only [List.mem_singleton] at hb;rw [←hb,←e];exact ha)⟩
    ·rcases List.mem_append.1 hx with hx | hx
     ·exact h.good x hx
     ·simp only [List.mem_singleton] at hx;rw [hx];exact hg
end Kw
namespace Kw
open Go
def Arr (r:RH) (o:Int) (ws:List Int):Prop:=∃ x,objAt r.objs o=some x∧x.fmt=0∧x.slots=ws
theorem Arr.uniq {r:RH}{o:Int}{ws ws':List Int} (h:Arr r o ws) (h':Arr r o ws'):ws=ws':=by
 obtain ⟨x,h1,_,h3⟩:=h
 obtain ⟨y,h4,_,h6⟩:=h'
 rw [h1] at h4;cases h4
 rw [←h3,←h6]
theorem Arr.size {r:RH}{o:Int}{ws:List Int} (h:Arr r o ws):r.size o=((ws.length:Int),0,0):=by
 obtain ⟨x,h1,h2,h3⟩:=h
 simp [RH.size,h1,h2,h3]
theorem Arr.at {r:RH}{o:Int}{ws:List Int} (h:Arr r o ws){i:Int} (h0:0≤i) (h1:i<ws.length):r.at o i=(ws[i.toNat]'(by omega),0):=by
 obtain ⟨x,h2,_,h3⟩:=h
 subst h3
 simp only [RH.at,h2]
 rw [if_neg (by omega)]
 have:i.toNat<x.slots.length:=by omega
 simp [this]
theorem Arr.bnd {r:RH} (hw:WFH r){o:Int}{ws:List Int} (h:Arr r o ws):1≤o∧o≤65536∧ws.length≤8192∧∀ w∈ws,isW w:=by
 obtain ⟨x,h1,h2,h3⟩:=h
 have hg:=hw.objs.good x (objAt_some h1).1
 have ho:=(objAt_some h1).2
 have h4:=hg.oop1
 have h5:=hg.oop2
 have h6:=hw.o1
 subst h3
 refine ⟨by omega,by omega,hg.many,fun w hw'=>?_⟩
 have:=hg.may w hw'
 unfold mayW at this
 rw [if_neg (by omega)] at this
 exact this
theorem Arr.there {r:RH}{o:Int}{ws:List Int} (h:Arr r o ws):objAt r.objs o≠none:=by
 obtain ⟨x,h1,_⟩:=h;rw [h1];simp
theorem named_obj {r:RH}{o:Int} (h0:1≤o) (h1:o≤65536) (h:objAt r.objs o≠none):namedO r (4*o)=o:=by
 unfold namedO
 have hk:kindW (4*o)=3:=by
  have:=kind_cases (4*o)
  omega
 have e:4*o / 4=o:=by omega
 have hs:(objAt r.objs o).isSome:=by cases ho:objAt r.objs o with
  | none=>exact absurd ho h
  | some _=>rfl
 rw [e,if_pos ⟨hk,hs⟩]
def KeepsB (r r':RH) (P:Int→Prop):Prop:=∀ k,P k→∀ x,objAt r.objs k=some x→∃ y,objAt r'.objs k=some y∧y.cls=x.cls∧y.fmt=x.fmt∧y.slots=x.slots
theorem KeepsB.refl (r:RH) (P:Int→Prop):KeepsB r r P:=fun k _ x hx=>⟨x,hx,rfl,rfl,rfl⟩
theorem KeepsB.trans {r r' r'':RH}{P:Int→Prop} (h:KeepsB r r' P) (h':KeepsB r' r'' P):KeepsB r r'' P:=fun k hk x hx=>by
 obtain ⟨y,h1,h2,h3,h4⟩:=h k hk x hx
 obtain ⟨z,g1,g2,g3,g4⟩:=h' k hk y h1
 exact ⟨z,g1,g2.trans h2,g3.trans h3,g4.trans h4⟩
theorem KeepsB.mono {r r':RH}{P P':Int→Prop} (h:KeepsB r r' P) (hp:∀ k,P' k→P k):KeepsB r r' P':=fun k hk=>h k (hp k hk)
theorem Arr.keep {r r':RH}{P:Int→Prop}{o:Int}{ws:List Int} (h:Arr r o ws) (hk:KeepsB r r' P) (hp:P o):Arr r' o ws:=by
 obtain ⟨x,h1,h2,h3⟩:=h
 obtain ⟨y,g1,_,g3,g4⟩:=hk o hp x h1
 exact ⟨y,g1,g3.trans h2,g4.trans h3⟩
theorem alloc_keeps {r:RH} (hw:WFH r) (cls n f:Int):KeepsB r (r.alloc cls n f).2 fun _=>True:=by
 intro k _ x hx
 unfold RH.alloc
 split
 ·exact ⟨x,hx,rfl,rfl,rfl⟩
 split
 ·exact ⟨x,hx,rfl,rfl,rfl⟩
 split
 ·exact ⟨x,hx,rfl,rfl,rfl⟩
 split
 ·exact ⟨x,hx,rfl,rfl,rfl⟩
 ·refine ⟨x,?_,rfl,rfl,rfl⟩
  rw [objAt_append,hx]
theorem alloc_ok {r:RH} (hw:WFH r){cls n f:Int} (h:(r.alloc cls n f).1.2=0):objAt r.objs (r.alloc cls n f).1.1=none∧1≤(r.alloc cls n f).1.1∧(r.alloc cls n f).1.1≤65536∧0≤n∧n≤8192 ∧
  (f=0→Arr (r.alloc cls n f).2 (r.alloc cls n f).1.1 (List.replicate n.toNat 4)):=by
 have ho1:=hw.o1
 unfold RH.alloc at h ⊢
 split at h
 ·simp at h
 rename_i g1
 split at h
 ·simp at h
 rename_i g2
 split at h
 ·simp at h
 rename_i g3
 split at h
 ·simp at h
 rename_i g4
 have hl:=lowFree_spec hw.objs hw.o1 (by omega)
 rw [if_neg g1,if_neg g2,if_neg g3,if_neg g4]
 refine ⟨hl.2.2.1,hl.1,by have:=hl.2.1;simp only;omega,by omega,by omega,fun hf=>?_⟩
 subst hf
 refine ⟨newO r cls n 0,?_,rfl,by simp [newO]⟩
 simp only
 rw [objAt_append,hl.2.2.1]
 simp [newO]
theorem put_keeps {r:RH} (k i w:Int):KeepsB r (r.put k i w).2 fun j=>j≠k:=by
 intro j hj x hx
 unfold RH.put
 split
 ·exact ⟨x,hx,rfl,rfl,rfl⟩
 split
 ·exact ⟨x,hx,rfl,rfl,rfl⟩
 split
 ·exact ⟨x,hx,rfl,rfl,rfl⟩
 ·refine ⟨x,?_,rfl,rfl,rfl⟩
  show objAt (updO r.objs k (setO i w)) j=some x
  rw [objAt_updO (f:=setO i w) (fun o=>rfl),hx]
  have:=(objAt_some hx).2
  simp only [Option.map_some]
  rw [if_neg (by omega)]
theorem put_arr {r:RH}{k:Int}{ws:List Int} (h:Arr r k ws){i w:Int} (h0:0≤i) (h1:i<ws.length) (hw:isW w):Arr (r.put k i w).2 k (ws.set i.toNat w)∧(r.put k i w).1=0:=by
 obtain ⟨x,h2,h3,h4⟩:=h
 subst h4
 have hm:mayW x.fmt w:=by unfold mayW;rw [if_neg (by omega)];exact hw
 simp only [RH.put,h2]
 rw [if_neg (by omega),if_neg (by simpa using hm)]
 refine ⟨⟨setO i w x,?_,h3,rfl⟩,rfl⟩
 show objAt (updO r.objs k (setO i w)) k=some (setO i w x)
 rw [objAt_updO (f:=setO i w) (fun o=>rfl),h2]
 have:=(objAt_some h2).2
 simp [this]
theorem putR_same {r:RH} (k i w:Int):(r.put k i w).2.words=r.words∧(r.put k i w).2.oops=r.oops∧(r.put k i w).2.mark=r.mark:=by
 unfold RH.put
 split
 ·exact ⟨rfl,rfl,rfl⟩
 split
 ·exact ⟨rfl,rfl,rfl⟩
 split
 ·exact ⟨rfl,rfl,rfl⟩
 ·exact ⟨rfl,rfl,rfl⟩
theorem slide_body {at_:Int}{l:List RO}{k:Int}:∀ x,objAt l k=some x→∃ y,objAt (slide at_ l) k=some y∧y.cls=x.cls∧y.fmt=x.fmt∧y.slots=x.slots:=by
 induction l generalizing at_ with
 | nil=>intro x hx;cases hx
 | cons o l ih =>
  intro x hx
  unfold objAt at *
  simp only [slide,List.find?_cons] at hx ⊢
  by_cases h:o.oop=k
  ·simp only [h,decide_true] at hx ⊢
   cases hx
   exact ⟨_,rfl,rfl,rfl,rfl⟩
  ·simp only [h,decide_false] at hx ⊢
   exact ih x hx
theorem keep_keeps {r:RH} (l:List Int):KeepsB r (r.keep l).2 fun k=>k∈l:=by
 intro k hk x hx
 unfold RH.keep
 split
 ·exact ⟨x,hx,rfl,rfl,rfl⟩
 ·simp only [RH.keepO]
  refine slide_body x ?_
  unfold objAt at hx ⊢
  rw [List.find?_filter]
  have ho:=(objAt_some (l:=r.objs) (k:=k) (o:=x) hx).2
  rw [←hx]
  congr 1
  funext a
  by_cases h:a.oop=k
  ·simp [h,hk]
  ·simp [h]
theorem marks_keeps {r:RH} (k:Int):KeepsB r (r.marks k).2 fun _=>True:=by
 intro j _ x hx
 unfold RH.marks
 split <;> exact ⟨x,hx,rfl,rfl,rfl⟩
theorem Reaches.mono {r r':RH}{ws ws':List Int} (hw:WFH r) (h:KeepsB r r' (Reaches r ws)) (hs:∀ w∈ws,w∈ws'){k:Int} (hk:Reaches r ws k):Reaches r' ws' k:=by
 have hn:∀ {w:Int},namedO r w≠0→Reaches r ws (namedO r w)→namedO r' w=namedO r w:=by
  intro w hne hr
  have ht:=hr.there
  cases ho:objAt r.objs (namedO r w) with
  | none=>exact absurd ho ht
  | some x =>
   obtain ⟨y,g1,_⟩:=h _ hr x ho
   unfold namedO at *
   split at hne
   ·rename_i hc
    rw [if_pos hc] at g1
    rw [if_pos hc,if_pos ⟨hc.1,by rw [g1];rfl⟩]
   ·exact absurd rfl hne
 induction hk with
 | @root w h1 h2 =>
  have hr:Reaches r ws (namedO r w):=.root h1 h2
  have e:=hn h2 hr
  rw [←e];exact .root (hs w h1) (by rw [e];exact h2)
 | @cls o h1 h2 h3 ih =>
  have hr:Reaches r ws (namedO r o.cls):=.cls h1 h2 h3
  have e:=hn h3 hr
  obtain ⟨y,g1,g2,g3,g4⟩:=h _ h1 o (objAt_mem hw.objs h2)
  have gy:=objAt_some g1
  rw [←e,←g2]
  rw [←gy.2] at ih
  exact .cls ih gy.1 (by rw [g2,e];exact h3)
 | @slot o w h1 h2 h3 h4 h5 ih =>
  have hr:Reaches r ws (namedO r w):=.slot h1 h2 h3 h4 h5
  have e:=hn h5 hr
  obtain ⟨y,g1,g2,g3,g4⟩:=h _ h1 o (objAt_mem hw.objs h2)
  have gy:=objAt_some g1
  rw [←e]
  rw [←gy.2] at ih
  exact .slot ih gy.1 (g3.trans h3) (by rw [g4];exact h4) (by rw [e];exact h5)
theorem Reaches.arr {r:RH}{ws l:List Int}{o k:Int} (h:Reaches r ws o) (ha:Arr r o l) (h0:1≤k) (h1:k≤65536) (hk:objAt r.objs k≠none) (hm:4*k∈l):Reaches r ws k:=by
 obtain ⟨x,g1,g2,g3⟩:=ha
 have gx:=objAt_some g1
 have e:=named_obj h0 h1 hk
 rw [←gx.2] at h
 have:=Reaches.slot (w:=4*k) h gx.1 g2 (by rw [g3];exact hm) (by rw [e];omega)
 rw [e] at this;exact this
theorem Reaches.of_root {r:RH}{ws:List Int}{k:Int} (h0:1≤k) (h1:k≤65536) (hk:objAt r.objs k≠none) (hm:4*k∈ws):Reaches r ws k:=by
 have e:=named_obj h0 h1 hk
 have:=Reaches.root (r:=r) (ws:=ws) (w:=4*k) hm (by rw [e];omega)
 rw [e] at this;exact this
theorem collect_keeps {s:SP} (hw:WFH s.h):KeepsB s.h s.collect.2.h (Reaches s.h s.roots):=by
 unfold SP.collect
 split
 ·exact KeepsB.refl _ _
 ·exact (keep_keeps _).mono fun k hk=>(RH.mem_reach hw).2 hk
theorem collect_wf {s:SP} (hw:WFS s):WFS s.collect.2:=by
 unfold SP.collect
 split
 ·exact hw
 ·exact { hw with h:=keep_wf hw.h _ }
theorem collect_rest (s:SP):s.collect.2.king=s.king∧s.collect.2.stack=s.stack∧s.collect.2.op=s.op:=by
 unfold SP.collect;split <;> exact ⟨rfl,rfl,rfl⟩
theorem salloc_rest (s:SP) (cls n f:Int):(s.alloc cls n f).2.king=s.king∧(s.alloc cls n f).2.stack=s.stack∧(s.alloc cls n f).2.op=s.op:=by
 unfold SP.alloc;split <;> exact ⟨rfl,rfl,rfl⟩
theorem salloc_wf {s:SP} (hw:WFS s) (cls n f:Int):WFS (s.alloc cls n f).2:=by
 unfold SP.alloc
 split
 ·exact { hw with h:=alloc_wf hw.h _ _ _ }
 ·exact { hw with h:=alloc_wf (keep_wf hw.h _) _ _ _ }
theorem salloc_keeps {s:SP} (hw:WFS s) (cls n f:Int):KeepsB s.h (s.alloc cls n f).2.h (Reaches s.h s.roots):=by
 unfold SP.alloc
 split
 ·exact (alloc_keeps hw.h _ _ _).mono fun _ _=>trivial
 ·exact ((keep_keeps _).mono fun k hk=>(RH.mem_reach hw.h).2 hk).trans ((alloc_keeps (keep_wf hw.h _) _ _ _).mono fun _ _=>trivial)
theorem salloc_ok {s:SP} (hw:WFS s){cls n:Int} (h:(s.alloc cls n 0).1.2=0):∃ o,(s.alloc cls n 0).1.1=4*o∧1≤o∧o≤65536∧0≤n∧n≤8192∧Arr (s.alloc cls n 0).2.h o (List.replicate n.toNat 4)∧¬ Reaches s.h s.roots o:=by
 unfold SP.alloc at h ⊢
 split at h
 ·rename_i hc
  rw [if_pos hc]
  obtain ⟨h1,h2,h3,h4,h5,h6⟩:=alloc_ok hw.h h
  exact ⟨_,rfl,h2,h3,h4,h5,h6 rfl,fun hr=>hr.there h1⟩
 ·rename_i hc
  rw [if_neg hc]
  obtain ⟨h1,h2,h3,h4,h5,h6⟩:=alloc_ok (keep_wf hw.h _) h
  refine ⟨_,rfl,h2,h3,h4,h5,h6 rfl,fun hr=>?_⟩
  have ht:=hr.there
  cases ho:objAt s.h.objs ((s.h.keep s.reach).2.alloc cls n 0).1.1 with
  | none=>exact ht ho
  | some x =>
   obtain ⟨y,g1,_⟩:=keep_keeps s.reach _ ((RH.mem_reach hw.h).2 hr) x ho
   rw [h1] at g1;cases g1
end Kw
namespace Kw
open Go
structure CV where
 oop:Int
 name:Nat
 up:Int
 own:List Nat
 ownA:Int
 selA:Int
 metA:Int
 sels:List Int
 mets:List Int
 lay:Int
structure KV where
 cls:List CV
 clsA:Int
 glob:List (Nat × Int)
 globA:Int
 rest:List Int
def symW (n:Nat):Int:=4*(n:Int)+2
def CV.slots (c:CV) (i:Nat):List Int:=[symW c.name,4*c.up,4*c.ownA,4*c.selA,4*c.metA,2*c.lay+1,2*((i:Int)+1)+1]
def globW:List (Nat × Int)→List Int
 | []=>[]
 | (n,v) :: l=>symW n :: v :: globW l
theorem globW_len (l:List (Nat × Int)):(globW l).length=2*l.length:=by
 induction l with
 | nil=>rfl
 | cons p l ih=>obtain ⟨n,v⟩:=p;simp only [globW,List.length_cons,ih];omega
theorem globW_append (l m:List (Nat × Int)):globW (l++m)=globW l++globW m:=by
 induction l with
 | nil=>rfl
 | cons p l ih=>obtain ⟨n,v⟩:=p;simp only [List.cons_append,globW,ih]
theorem globW_get {l:List (Nat × Int)}{i:Nat} (h:i<l.length):(globW l)[2*i]?=some (symW l[i].1)∧(globW l)[2*i+1]?=some l[i].2:=by
 induction l generalizing i with
 | nil=>simp at h
 | cons p l ih =>
  obtain ⟨n,v⟩:=p
  cases i with
  | zero=>simp [globW]
  | succ i =>
   have:=ih (i:=i) (by simpa using h)
   have e:2*(i+1)=2*i+2:=by omega
   rw [e]
   simpa [globW] using this
theorem globW_set {l:List (Nat × Int)}{i:Nat} (h:i<l.length) (w:Int):(globW l).set (2*i+1) w=globW (l.set i (l[i].1,w)):=by
 induction l generalizing i with
 | nil=>simp at h
 | cons p l ih =>
  obtain ⟨n,v⟩:=p
  cases i with
  | zero=>simp [globW]
  | succ i =>
   have:=ih (i:=i) (by simpa using h)
   have e:2*(i+1)+1=(2*i+1)+2:=by omega
   rw [e]
   simp only [globW,List.set_cons_succ,List.getElem_cons_succ,this]
abbrev Role:=Int × List Int
def crole (c:CV) (i:Nat):List Role:=[(c.oop,c.slots i),(c.ownA,c.own.map symW),(c.selA,c.sels),(c.metA,c.mets)]
def croles:List CV→Nat→List Role
 | [],_=>[]
 | c :: l,i=>crole c i++croles l (i+1)
theorem croles_append (l m:List CV) (i:Nat):croles (l++m) i=croles l i++croles m (i+l.length):=by
 induction l generalizing i with
 | nil=>simp [croles]
 | cons c l ih =>
  simp only [List.cons_append,croles,ih,List.append_assoc,List.length_cons]
  have:i+1+l.length=i+(l.length+1):=by omega
  rw [this]
theorem mem_croles {l:List CV}{i j:Nat} (h:j<l.length){p:Role} (hp:p∈crole l[j] (i+j)):p∈croles l i:=by
 induction l generalizing i j with
 | nil=>simp at h
 | cons c l ih =>
  simp only [croles,List.mem_append]
  cases j with
  | zero=>exact .inl (by simpa using hp)
  | succ j =>
   refine .inr (ih (j:=j) (by simpa using h) ?_)
   have e:i+1+j=i+(j+1):=by omega
   rw [e];simpa using hp
theorem of_croles {l:List CV}{i:Nat}{p:Role} (h:p∈croles l i):∃ j,∃ hj:j<l.length,p∈crole l[j] (i+j):=by
 induction l generalizing i with
 | nil=>cases h
 | cons c l ih =>
  simp only [croles,List.mem_append] at h
  rcases h with h | h
  ·exact ⟨0,by simp,by simpa using h⟩
  ·obtain ⟨j,hj,h1⟩:=ih h
   refine ⟨j+1,by simpa using hj,?_⟩
   have e:i+1+j=i+(j+1):=by omega
   rw [e] at h1;simpa using h1
def KV.rootW (v:KV):List Int:=4*v.clsA :: 4*v.globA :: v.rest
def KV.clsW (v:KV):List Int:=v.cls.map fun c=>4*c.oop
def KV.roles (v:KV):List Role:=(19,v.rootW) :: (v.clsA,v.clsW) :: (v.globA,globW v.glob) :: (1,[]) :: (18,[]) :: croles v.cls 0
def View (r:RH) (v:KV):Prop:=∀ p∈v.roles,Arr r p.1 p.2
def Sep (v:KV):Prop:=v.roles.Pairwise fun p q=>p.1=q.1→p.2=[]
structure KShape (v:KV):Prop where
 rest:v.rest.length=6
 many0:14≤v.cls.length
 many1:v.cls.length≤256
 globs:v.glob.length≤256
 up0:∀ h:0<v.cls.length,(v.cls[0]).up=1∧(v.cls[0]).ownA=18
 ups:∀ i (h:i<v.cls.length),0<i→∃ j,∃ hj:j<v.cls.length,j<i∧(v.cls[j]).oop=(v.cls[i]).up
 kern:∀ i (h:i<v.cls.length),i<14→(v.cls[i]).oop=4+i
 lay:∀ c∈v.cls,0≤c.lay∧c.lay≤1073741823
structure KNames (v:KV) (t:TB):Prop where
 wf:WFT t
 name:∀ c∈v.cls,c.name<t.texts.length
 own:∀ c∈v.cls,∀ n∈c.own,n<t.texts.length
 glob:∀ p∈v.glob,p.1<t.texts.length
 nodup:(v.cls.map (·.name)).Nodup
section
variable {r:RH}{v:KV}
theorem View.root (h:View r v):Arr r 19 v.rootW:=h (19,v.rootW) (by simp [KV.roles])
theorem View.all (h:View r v):Arr r v.clsA v.clsW:=h (v.clsA,v.clsW) (by simp [KV.roles])
theorem View.globs (h:View r v):Arr r v.globA (globW v.glob):=h (v.globA,globW v.glob) (by simp [KV.roles])
theorem View.nil (h:View r v):Arr r 1 []:=h (1,[]) (by simp [KV.roles])
theorem View.empty (h:View r v):Arr r 18 []:=h (18,[]) (by simp [KV.roles])
theorem View.crole (h:View r v){i:Nat} (hi:i<v.cls.length){p:Role} (hp:p∈crole v.cls[i] i):Arr r p.1 p.2:=h p (by
 simp only [KV.roles,List.mem_cons]
 exact .inr (.inr (.inr (.inr (.inr (mem_croles hi (by simpa using hp)))))))
theorem View.cls (h:View r v){i:Nat} (hi:i<v.cls.length):Arr r (v.cls[i]).oop ((v.cls[i]).slots i):=h.crole hi (p:=((v.cls[i]).oop,(v.cls[i]).slots i)) (by simp [Kw.crole])
theorem View.own (h:View r v){i:Nat} (hi:i<v.cls.length):Arr r (v.cls[i]).ownA ((v.cls[i]).own.map symW):=h.crole hi (p:=(_,_)) (by simp [Kw.crole])
theorem View.sel (h:View r v){i:Nat} (hi:i<v.cls.length):Arr r (v.cls[i]).selA (v.cls[i]).sels:=h.crole hi (p:=(_,_)) (by simp [Kw.crole])
theorem View.met (h:View r v){i:Nat} (hi:i<v.cls.length):Arr r (v.cls[i]).metA (v.cls[i]).mets:=h.crole hi (p:=(_,_)) (by simp [Kw.crole])
theorem View.of (h1:Arr r 19 v.rootW) (h2:Arr r v.clsA v.clsW) (h3:Arr r v.globA (globW v.glob)) (h4:Arr r 1 []) (h5:Arr r 18 []) (h6:∀ p∈croles v.cls 0,Arr r p.1 p.2):View r v:=by
 intro p hp
 simp only [KV.roles,List.mem_cons] at hp
 rcases hp with rfl | rfl | rfl | rfl | rfl | hp
 ·exact h1
 ·exact h2
 ·exact h3
 ·exact h4
 ·exact h5
 ·exact h6 p hp
theorem View.keep {r':RH}{P:Int→Prop} (h:View r v) (hk:KeepsB r r' P) (hp:∀ p∈v.roles,P p.1):View r' v:=fun p hm=>(h p hm).keep hk (hp p hm)
theorem View.inj (h:View r v){i j:Nat} (hi:i<v.cls.length) (hj:j<v.cls.length) (he:(v.cls[i]).oop=(v.cls[j]).oop):i=j:=by
 have h1:=h.cls hi
 have h2:=h.cls hj
 rw [he] at h1
 have:=h1.uniq h2
 simp only [CV.slots,List.cons.injEq] at this
 omega
theorem View.ne1 (h:View r v){i:Nat} (hi:i<v.cls.length):(v.cls[i]).oop≠1:=fun e=>by
 have h1:=h.cls hi
 rw [e] at h1
 have:=h1.uniq h.nil
 simp [CV.slots] at this
theorem View.idx (h:View r v){c:CV} (hc:c∈v.cls):∃ i,∃ hi:i<v.cls.length,v.cls[i]=c:=List.getElem_of_mem hc
theorem View.reach (hw:WFH r) (h:View r v) (hs:KShape v){ws:List Int} (hk:(76:Int)∈ws):∀ p∈v.roles,Reaches r ws p.1:=by
 have to:∀ {o k:Int}{l m:List Int},Reaches r ws o→Arr r o l→Arr r k m→4*k∈l→Reaches r ws k:=fun h1 h2 h3 h4=>by
  have hb:=h3.bnd hw
  exact h1.arr h2 hb.1 hb.2.1 h3.there h4
 have h19:Reaches r ws 19:=Reaches.of_root (by decide) (by decide) h.root.there hk
 have hA:Reaches r ws v.clsA:=to h19 h.root h.all (by simp [KV.rootW])
 have hG:Reaches r ws v.globA:=to h19 h.root h.globs (by simp [KV.rootW])
 have hC:∀ {i:Nat} (hi:i<v.cls.length),Reaches r ws (v.cls[i]).oop:=fun {i} hi=>to hA h.all (h.cls hi) (List.mem_map.2 ⟨_,List.getElem_mem hi,rfl⟩)
 have h0:0<v.cls.length:=by have:=hs.many0;omega
 have hu:=hs.up0 h0
 intro p hp
 simp only [KV.roles,List.mem_cons] at hp
 rcases hp with rfl | rfl | rfl | rfl | rfl | hp
 ·exact h19
 ·exact hA
 ·exact hG
 ·exact to (hC h0) (h.cls h0) h.nil (by simp [CV.slots,hu.1])
 ·exact to (hC h0) (h.cls h0) h.empty (by simp [CV.slots,hu.2])
 ·obtain ⟨j,hj,hm⟩:=of_croles hp
  have ha:=h.crole hj (p:=p) (by simpa using hm)
  simp only [Kw.crole,List.mem_cons,List.not_mem_nil,or_false] at hm
  rcases hm with rfl | rfl | rfl | rfl
  ·exact hC hj
  ·exact to (hC hj) (h.cls hj) ha (by simp [CV.slots])
  ·exact to (hC hj) (h.cls hj) ha (by simp [CV.slots])
  ·exact to (hC hj) (h.cls hj) ha (by simp [CV.slots])
end
def GoodC (r:RH):Prop:=∀ o∈r.objs,kindW o.cls=3
theorem alloc_gc {r:RH} (h:GoodC r){cls:Int} (hc:kindW cls=3) (n f:Int):GoodC (r.alloc cls n f).2:=by
 unfold RH.alloc
 split
 ·exact h
 split
 ·exact h
 split
 ·exact h
 split
 ·exact h
 ·intro o ho
  simp only [List.mem_append,List.mem_singleton] at ho
  rcases ho with ho | rfl
  ·exact h o ho
  ·exact hc
theorem put_gc {r:RH} (h:GoodC r) (k i w:Int):GoodC (r.put k i w).2:=by
 unfold RH.put
 split
 ·exact h
 split
 ·exact h
 split
 ·exact h
 ·intro o ho
  simp only [updO,List.mem_map] at ho
  obtain ⟨x,hx,rfl⟩:=ho
  split
  ·exact h x hx
  ·exact h x hx
theorem marks_gc {r:RH} (h:GoodC r) (k:Int):GoodC (r.marks k).2:=by
 unfold RH.marks;split <;> exact h
theorem keep_gc {r:RH} (h:GoodC r) (l:List Int):GoodC (r.keep l).2:=by
 unfold RH.keep
 split
 ·exact h
 ·intro o ho
  obtain ⟨x,hx,e,_⟩:=slide_mem ho
  have:=h x (List.mem_filter.1 hx).1
  rw [e];exact this
theorem salloc_gc {s:SP} (h:GoodC s.h){cls:Int} (hc:kindW cls=3) (n f:Int):GoodC (s.alloc cls n f).2.h:=by
 unfold SP.alloc
 split
 ·exact alloc_gc h hc _ _
 ·exact alloc_gc (keep_gc h _) hc _ _
theorem collect_gc {s:SP} (h:GoodC s.h):GoodC s.collect.2.h:=by
 unfold SP.collect;split
 ·exact h
 ·exact keep_gc h _
structure KS (s:SP) (v:KV):Prop where
 wf:WFS s
 gc:GoodC s.h
 op:s.op=false
 king:s.king=19
 view:View s.h v
 sep:Sep v
 shape:KShape v
theorem KS.roots {s:SP}{v:KV} (h:KS s v):s.roots=76 :: s.stack:=by unfold SP.roots;rw [h.king];rfl
theorem KS.reach {s:SP}{v:KV} (h:KS s v):∀ p∈v.roles,Reaches s.h s.roots p.1:=h.view.reach h.wf.h h.shape (by rw [h.roots];simp)
def RH.lay (r:RH) (o i:Int):List Int→RH
 | []=>r
 | w :: l=>RH.lay (r.put o i w).2 o (i+1) l
noncomputable def SP.make (s:SP) (cls:Int) (ws:List Int):(Int × Int) × SP :=
 if (s.alloc (4*cls) ws.length 0).1.2≠0 then ((0,(s.alloc (4*cls) ws.length 0).1.2),(s.alloc (4*cls) ws.length 0).2)
 else (((s.alloc (4*cls) ws.length 0).1.1,(SP.keepW { (s.alloc (4*cls) ws.length 0).2 with h:=(s.alloc (4*cls) ws.length 0).2.h.lay ((s.alloc (4*cls) ws.length 0).1.1 / 4) 0 ws } [(s.alloc (4*cls) ws.length 0).1.1]).1),
  (SP.keepW { (s.alloc (4*cls) ws.length 0).2 with h:=(s.alloc (4*cls) ws.length 0).2.h.lay ((s.alloc (4*cls) ws.length 0).1.1 / 4) 0 ws } [(s.alloc (4*cls) ws.length 0).1.1]).2)
noncomputable def SP.array (s:SP) (ws:List Int):(Int × Int) × SP:=if ws=[] then ((72,0),s) else s.make 11 ws
theorem lay_wf {r:RH} (h:WFH r) (o i:Int) (l:List Int):WFH (r.lay o i l):=by
 induction l generalizing r i with
 | nil=>exact h
 | cons w l ih=>exact ih (put_wf h _ _ _) _
theorem lay_gc {r:RH} (h:GoodC r) (o i:Int) (l:List Int):GoodC (r.lay o i l):=by
 induction l generalizing r i with
 | nil=>exact h
 | cons w l ih=>exact ih (put_gc h _ _ _) _
theorem lay_keeps (r:RH) (o i:Int) (l:List Int):KeepsB r (r.lay o i l) fun j=>j≠o:=by
 induction l generalizing r i with
 | nil=>exact KeepsB.refl _ _
 | cons w l ih=>exact (put_keeps o i w).trans (ih _ _)
theorem lay_arr {r:RH}{o:Int}{pre l:List Int}{n:Nat} (h:Arr r o (pre++List.replicate n 4)) (hl:l.length=n) (hw:∀ w∈l,isW w):Arr (r.lay o pre.length l) o (pre++l):=by
 induction l generalizing r pre n with
 | nil=>subst hl;simpa [RH.lay] using h
 | cons w l ih =>
  subst hl
  simp only [RH.lay]
  have h1:=(put_arr h (i:=(pre.length:Int)) (w:=w) (by omega) (by simp;omega) (hw w (by simp))).1
  have e:(pre++List.replicate (w :: l).length 4).set (pre.length:Int).toNat w=(pre++[w])++List.replicate l.length 4:=by
   rw [Int.toNat_natCast,List.set_append_right _ _ (Nat.le_refl _)]
   simp [List.replicate_succ]
  rw [e] at h1
  have:=ih h1 rfl fun x hx=>hw x (by simp [hx])
  simpa using this
theorem keepW_one {s:SP}{w:Int} (hw:isW w) (hs:s.stack.length<65536):s.keepW [w]=(0,{ s with stack:=s.stack++[w] }):=by
 unfold SP.keepW
 rw [if_neg (by simpa using hw),if_neg (by simp;omega)]
theorem isW_obj {o:Int} (h0:1≤o) (h1:o≤65536):isW (4*o):=by
 unfold isW;have:=kind_cases (4*o);omega
theorem make_ok {s:SP}{v:KV} (hk:KS s v) (hst:s.stack.length<65536){cls:Int} (hcls:1≤cls∧cls≤65536){ws:List Int} (hws:∀ w∈ws,isW w) :
  KS (s.make cls ws).2 v∧KeepsB s.h (s.make cls ws).2.h (Reaches s.h s.roots) ∧
  ((s.make cls ws).1.2≠0→(s.make cls ws).2.stack=s.stack∧(s.make cls ws).1.1=0) ∧
  ((s.make cls ws).1.2=0→∃ o,(s.make cls ws).1.1=4*o∧(s.make cls ws).2.stack=s.stack++[4*o]∧1≤o∧o≤65536∧Arr (s.make cls ws).2.h o ws∧¬ Reaches s.h s.roots o):=by
 have hal:=salloc_rest s (4*cls) ws.length 0
 have hawf:=salloc_wf hk.wf (4*cls) ws.length 0
 have hake:=salloc_keeps hk.wf (4*cls) ws.length 0
 have hagc:=salloc_gc hk.gc (cls:=4*cls) (by have:=kind_cases (4*cls);omega) ws.length 0
 unfold SP.make
 by_cases he:(s.alloc (4*cls) ws.length 0).1.2=0
 ·obtain ⟨o,e1,o1,o2,n0,n1,harr,hnr⟩:=salloc_ok hk.wf he
  rw [if_neg (by simpa using he)]
  rw [e1]
  have e2:4*o / 4=o:=by omega
  rw [e2]
  generalize (s.alloc (4*cls) ws.length 0).2=s1 at *
  have hko:KeepsB s.h (s1.h.lay o 0 ws) (Reaches s.h s.roots):=hake.trans ((lay_keeps _ _ _ _).mono fun k hk he=>hnr (he ▸ hk))
  have hl:Arr (s1.h.lay o 0 ws) o ws:=by
   have:=lay_arr (pre:=[]) (n:=ws.length) (l:=ws) (by simpa using harr) rfl hws
   simpa using this
  rw [keepW_one (isW_obj o1 o2) (by simp only [hal.2.1];exact hst)]
  refine ⟨⟨?_,lay_gc hagc _ _ _,hal.2.2.trans hk.op,hal.1.trans hk.king,hk.view.keep hko hk.reach,hk.sep,hk.shape⟩,hko,fun h=>absurd rfl h,fun _=>⟨o,rfl,by simp [hal.2.1],o1,o2,hl,hnr⟩⟩
  refine { hawf with h:=lay_wf hawf.h _ _ _,many:=?_,words:=fun w hw=>?_ }
  ·simp only [List.length_append,List.length_cons,List.length_nil,hal.2.1];omega
  ·rcases List.mem_append.1 hw with hw | hw
   ·exact hawf.words w hw
   ·simp only [List.mem_singleton] at hw;rw [hw];exact isW_obj o1 o2
 ·rw [if_pos (by simpa using he)]
  exact ⟨⟨hawf,hagc,hal.2.2.trans hk.op,hal.1.trans hk.king,hk.view.keep hake hk.reach,hk.sep,hk.shape⟩,hake,fun _=>⟨hal.2.1,rfl⟩,fun h=>absurd h he⟩
end Kw
namespace Kw
open Go
theorem add_ok {t:TB} (s:ByteArray) (h:(t.add s).1.2=0):∃ n:Nat,(t.add s).1.1=n∧(t.add s).2.texts[n]?=some s∧∃ l,(t.add s).2.texts=t.texts++l:=by
 unfold TB.add at h ⊢
 split at h
 ·cases h
 rename_i hg
 rw [if_neg hg]
 cases hn:numOf t.texts s with
 | some n =>
  simp only
  refine ⟨n,rfl,?_,[],by simp⟩
  have:∀ (l:List ByteArray) n,numOf l s=some n→l[n]?=some s:=by
   intro l
   induction l with
   | nil=>intro n h;cases h
   | cons x l ih =>
    intro n h
    unfold numOf at h
    by_cases hx:x=s
    ·rw [if_pos hx] at h;cases h;simp [hx]
    ·rw [if_neg hx] at h
     cases hm:numOf l s with
     | none=>rw [hm] at h;cases h
     | some m=>rw [hm] at h;cases h;simpa using ih m hm
  exact this _ _ hn
 | none =>
  rw [hn] at h
  simp only at h ⊢
  split at h
  ·cases h
  rename_i hm
  rw [if_neg hm]
  exact ⟨t.texts.length,rfl,by simp,[s],rfl⟩
theorem add_pre (t:TB) (s:ByteArray):(t.add s).2.most=t.most∧∃ l,(t.add s).2.texts=t.texts++l:=by
 unfold TB.add
 split
 ·exact ⟨rfl,[],by simp⟩
 cases hn:numOf t.texts s with
 | some n=>exact ⟨rfl,[],by simp⟩
 | none =>
  simp only
  split
  ·exact ⟨rfl,[],by simp⟩
  ·exact ⟨rfl,[s],rfl⟩
def TB.addAll (t:TB) (acc:List Int):List ByteArray→(List Int × Int) × TB
 | []=>((acc,0),t)
 | s :: l=>if (t.add s).1.2≠0 then (([],(t.add s).1.2),(t.add s).2) else TB.addAll (t.add s).2 (acc++[4*(t.add s).1.1+2]) l
theorem addAll_wft {t:TB} (h:WFT t) (acc:List Int) (l:List ByteArray):WFT (t.addAll acc l).2:=by
 induction l generalizing t acc with
 | nil=>exact h
 | cons s l ih =>
  unfold TB.addAll
  split
  ·exact add_wft h s
  ·exact ih (add_wft h s) _
theorem addAll_pre (t:TB) (acc:List Int) (l:List ByteArray):(t.addAll acc l).2.most=t.most∧∃ m,(t.addAll acc l).2.texts=t.texts++m:=by
 induction l generalizing t acc with
 | nil=>exact ⟨rfl,[],by simp [TB.addAll]⟩
 | cons s l ih =>
  have h1:=add_pre t s
  unfold TB.addAll
  split
  ·exact h1
  ·have h2:=ih (t.add s).2 (acc++[4*(t.add s).1.1+2])
   obtain ⟨m,e⟩:=h1.2
   obtain ⟨m',e'⟩:=h2.2
   exact ⟨h2.1.trans h1.1,m++m',by rw [e',e];simp⟩
theorem addAll_ok {t:TB} (acc:List Int) (l:List ByteArray) (h:(t.addAll acc l).1.2=0):∃ ns:List Nat,(t.addAll acc l).1.1=acc++ns.map symW∧ns.map (fun n=>(t.addAll acc l).2.texts[n]?)=l.map some:=by
 induction l generalizing t acc with
 | nil=>exact ⟨[],by simp [TB.addAll],rfl⟩
 | cons s l ih =>
  unfold TB.addAll at h ⊢
  split at h
  ·rename_i hn;exact absurd h hn
  ·rename_i hn
   rw [if_neg hn]
   have hz:(t.add s).1.2=0:=Classical.byContradiction hn
   obtain ⟨n,e1,e2,_⟩:=add_ok s hz
   obtain ⟨ns,e3,e4⟩:=ih _ h
   obtain ⟨_,m,e5⟩:=addAll_pre (t.add s).2 (acc++[4*(t.add s).1.1+2]) l
   refine ⟨n :: ns,?_,?_⟩
   ·rw [e3,e1];simp [symW]
   ·simp only [List.map_cons,e4]
    congr 1
    rw [e5]
    have hlt:n<(t.add s).2.texts.length:=by
     rcases Nat.lt_or_ge n (t.add s).2.texts.length with h | h
     ·exact h
     ·rw [List.getElem?_eq_none h] at e2;cases e2
    rw [List.getElem?_append_left hlt,e2]
def TB.back (t:TB) (n:Int):Int × TB:=if n<0∨(t.texts.length:Int)<n then (1,t) else (0,{ t with texts:=t.texts.take n.toNat })
theorem back_pre {t t':TB} (h1:t'.most=t.most) (h2:∃ l,t'.texts=t.texts++l):(t'.back t.texts.length).2=t:=by
 obtain ⟨l,e⟩:=h2
 unfold TB.back
 rw [if_neg (by rw [e];simp;omega)]
 cases t with
 | mk most texts =>
  cases t' with
  | mk m ts =>
   simp only at e h1
   subst h1 e
   simp
def tx (t:TB) (n:Nat):ByteArray:=t.texts.getD n ⟨#[]⟩
theorem tx_pre {t t':TB} (h:∃ l,t'.texts=t.texts++l){n:Nat} (hn:n<t.texts.length):tx t' n=tx t n:=by
 obtain ⟨l,e⟩:=h
 unfold tx
 rw [e,List.getD_eq_getElem?_getD,List.getD_eq_getElem?_getD,List.getElem?_append_left hn]
theorem tx_some {t:TB}{n:Nat}{s:ByteArray} (h:t.texts[n]?=some s):tx t n=s∧n<t.texts.length:=by
 refine ⟨by unfold tx;rw [List.getD_eq_getElem?_getD,h];rfl,?_⟩
 rcases Nat.lt_or_ge n t.texts.length with h1 | h1
 ·exact h1
 ·rw [List.getElem?_eq_none h1] at h;cases h
theorem tx_inj {t:TB} (hw:WFT t){n m:Nat} (hn:n<t.texts.length) (hm:m<t.texts.length) (h:tx t n=tx t m):n=m:=by
 unfold tx at h
 rw [List.getD_eq_getElem?_getD,List.getD_eq_getElem?_getD,List.getElem?_eq_getElem hn,List.getElem?_eq_getElem hm] at h
 simp only [Option.getD_some] at h
 exact (List.getElem_inj hw.nodup).1 h
theorem tx_good {t:TB} (hw:WFT t){n:Nat} (hn:n<t.texts.length):goodText (tx t n):=by
 unfold tx
 rw [List.getD_eq_getElem?_getD,List.getElem?_eq_getElem hn]
 exact hw.good _ (List.getElem_mem hn)
theorem isW_sym {t:TB} (hw:WFT t){n:Nat} (hn:n<t.texts.length):isW (symW n):=by
 have h1:=hw.m1
 have h2:=hw.len
 unfold isW symW
 have:=kind_cases (4*(n:Int)+2)
 omega
theorem KNames.grow {v:KV}{t t':TB} (h:KNames v t) (hw:WFT t') (hp:∃ l,t'.texts=t.texts++l):KNames v t':=by
 have:t.texts.length≤t'.texts.length:=by obtain ⟨l,e⟩:=hp;rw [e];simp
 exact ⟨hw,fun c hc=>Nat.lt_of_lt_of_le (h.name c hc) this,fun c hc n hn=>Nat.lt_of_lt_of_le (h.own c hc n hn) this,fun p hp=>Nat.lt_of_lt_of_le (h.glob p hp) this,h.nodup⟩
theorem array_ok {s:SP}{v:KV} (hk:KS s v) (hst:s.stack.length<65536){ws:List Int} (hws:∀ w∈ws,isW w) :
  KS (s.array ws).2 v∧KeepsB s.h (s.array ws).2.h (Reaches s.h s.roots)∧(∃ l,(s.array ws).2.stack=s.stack++l∧l.length≤1) ∧
  ((s.array ws).1.2=0→∃ o,(s.array ws).1.1=4*o∧1≤o∧o≤65536∧Arr (s.array ws).2.h o ws∧Reaches (s.array ws).2.h (s.array ws).2.roots o∧(ws=[]∨¬ Reaches s.h s.roots o)):=by
 unfold SP.array
 by_cases he:ws=[]
 ·rw [if_pos he]
  subst he
  refine ⟨hk,KeepsB.refl _ _,⟨[],by simp,by simp⟩,fun _=>⟨18,rfl,by decide,by decide,hk.view.empty,?_,.inl rfl⟩⟩
  exact hk.reach (18,[]) (by simp [KV.roles])
 ·rw [if_neg he]
  obtain ⟨h1,h2,h3,h4⟩:=make_ok hk hst (cls:=11) (by decide) hws
  refine ⟨h1,h2,?_,fun hz=>?_⟩
  ·by_cases hz:(s.make 11 ws).1.2=0
   ·obtain ⟨o,_,e,_⟩:=h4 hz
    exact ⟨[4*o],e,by simp⟩
   ·exact ⟨[],by rw [(h3 hz).1];simp,by simp⟩
  ·obtain ⟨o,e1,e2,o1,o2,ha,hn⟩:=h4 hz
   refine ⟨o,e1,o1,o2,ha,?_,.inr hn⟩
   exact Reaches.of_root o1 o2 ha.there (by rw [h1.roots,e2];simp)
noncomputable def kDef3 (s:SP) (t:TB) (cw:List Int) (c:Int):(Int × Int) × SP × TB :=
 if (s.array (cw++[c])).1.2≠0 then ((0,(s.array (cw++[c])).1.2),(s.array (cw++[c])).2,t)
 else ((c / 4,0),((s.array (cw++[c])).2.setRoot 0 (s.array (cw++[c])).1.1).2,t)
def clsSlots (n:Int) (up l:Int) (k:Nat):List Int:=[n,4*up,l,72,72,1,2*((k:Int)+1)+1]
noncomputable def kDef2 (s:SP) (t:TB) (cw:List Int) (n up l:Int):(Int × Int) × SP × TB :=
 if (s.make 12 (clsSlots n up l cw.length)).1.2≠0 then ((0,(s.make 12 (clsSlots n up l cw.length)).1.2),(s.make 12 (clsSlots n up l cw.length)).2,t)
 else kDef3 (s.make 12 (clsSlots n up l cw.length)).2 t cw (s.make 12 (clsSlots n up l cw.length)).1.1
noncomputable def kDef1 (s:SP) (t:TB) (cw:List Int) (n up:Int) (names:List Int):(Int × Int) × SP × TB :=
 if (s.array names).1.2≠0 then ((0,(s.array names).1.2),(s.array names).2,t)
 else kDef2 (s.array names).2 t cw n up (s.array names).1.1
noncomputable def kDef (s:SP) (t:TB) (cw:List Int) (name:ByteArray) (up:Int) (own:List ByteArray):(Int × Int) × SP × TB :=
 if (t.add name).1.2≠0 then ((0,(t.add name).1.2),s,(t.add name).2)
 else if ((t.add name).2.addAll [] own).1.2≠0 then ((0,((t.add name).2.addAll [] own).1.2),s,((t.add name).2.addAll [] own).2)
 else kDef1 s ((t.add name).2.addAll [] own).2 cw (4*(t.add name).1.1+2) up ((t.add name).2.addAll [] own).1.1
noncomputable def kGlob1 (s:SP) (t:TB) (gw:List Int) (n:Int):Int × SP × TB :=
 if (s.array (gw++[n,4])).1.2≠0 then ((s.array (gw++[n,4])).1.2,(s.array (gw++[n,4])).2,t)
 else (0,((s.array (gw++[n,4])).2.setRoot 1 (s.array (gw++[n,4])).1.1).2,t)
noncomputable def kGlob (s:SP) (t:TB) (gw:List Int) (name:ByteArray):Int × SP × TB :=
 if (t.add name).1.2≠0 then ((t.add name).1.2,s,(t.add name).2) else kGlob1 s (t.add name).2 gw (4*(t.add name).1.1+2)
def kEnd (s:SP) (t:TB) (mark cnt kept e:Int):SP × TB :=
 if e=0 then ((s.drop ((s.stack.length:Int)-kept)).2,t)
 else ({ (s.drop ((s.stack.length:Int)-kept)).2 with h:=if e=24 then s.h else (s.h.marks mark).2 },(t.back cnt).2)
noncomputable def kDefine (s:SP) (t:TB) (cw:List Int) (name:ByteArray) (up:Int) (own:List ByteArray):(Int × Int) × SP × TB :=
 ((if (kDef s t cw name up own).1.2=0 then (kDef s t cw name up own).1.1 else 0,(kDef s t cw name up own).1.2),kEnd (kDef s t cw name up own).2.1 (kDef s t cw name up own).2.2 s.h.mark t.texts.length s.stack.length (kDef s t cw name up own).1.2)
noncomputable def kGlobal (s:SP) (t:TB) (gw:List Int) (name:ByteArray):Int × SP × TB :=
 ((kGlob s t gw name).1,kEnd (kGlob s t gw name).2.1 (kGlob s t gw name).2.2 s.h.mark t.texts.length s.stack.length (kGlob s t gw name).1)
theorem sep_head {v:KV}{r:RH} (hv:View r v) (hs:Sep v):∀ p∈(v.clsA,v.clsW) :: (v.globA,globW v.glob) :: (1,[]) :: (18,[]) :: croles v.cls 0,p.1≠19:=by
 intro p hp he
 have h:=(List.pairwise_cons.1 hs).1 p hp he.symm
 simp [KV.rootW] at h
theorem setRoot_keeps {s:SP}{v:KV} (hk:KS s v){i w:Int} (h0:0≤i) (h1:i<8) (hw:isW w) :
  Arr (s.setRoot i w).2.h 19 (v.rootW.set i.toNat w)∧KeepsB s.h (s.setRoot i w).2.h (fun k=>k≠19)∧WFS (s.setRoot i w).2∧(s.setRoot i w).2.king=19∧(s.setRoot i w).2.op=false∧(s.setRoot i w).2.stack=s.stack∧GoodC (s.setRoot i w).2.h:=by
 unfold SP.setRoot
 have hl:v.rootW.length=8:=by simp [KV.rootW,hk.shape.rest]
 refine ⟨?_,by have:=put_keeps (r:=s.h) s.king i w;rw [hk.king] at this ⊢;exact this,{ hk.wf with h:=put_wf hk.wf.h _ _ _ },hk.king,hk.op,rfl,put_gc hk.gc _ _ _⟩
 have:=(put_arr hk.view.root h0 (by rw [hl];exact h1) hw).1
 simp only [hk.king];exact this
end Kw
namespace Go.Proofs.YtmkdkplipbocjaaGreatDoor
open Kw
theorem ite_intro' {p:Prop} [Decidable p] {X Y:Prop} (h1:p→X) (h2:¬ p→Y):if p then X else Y:=by
 split
 ·exact h1 ‹_›
 ·exact h2 ‹_›
def RTb (H:Heap) (b:Nat) (F:Foot) (t:TB):Prop:=∃ a l c F',F=b :: F'∧b∉F'∧Blk H b #[.int .i64 t.most,.slice a l c]∧Own 1 H a l c (strsV t.texts) F'∧WFT t
section
variable {H:Heap}{b:Nat}{F F':Foot}{t:TB}{Q:QT}
theorem RTb.wf (h:RTb H b F t):WFT t:=by obtain ⟨_,_,_,_,_,_,_,_,h⟩:=h;exact h
theorem RTb.lt (h:RTb H b F t):∀ x∈F,x<H.size:=by
 obtain ⟨a,l,c,F',rfl,h1,hB,hO,hw⟩:=h
 intro x hx
 rcases List.mem_cons.1 hx with rfl | hx
 ·exact hB.lt
 ·exact hO.lt x hx
theorem RTb.fr {H':Heap}{G:Foot} (h:RTb H b F t) (hf:Fr G H H') (hd:Disj F G):RTb H' b F t:=by
 obtain ⟨a,l,c,F',rfl,h1,hB,hO,hw⟩:=h
 exact ⟨a,l,c,F',rfl,h1,hB.fr hf (hd b (by simp)),hO.fr hf fun x hx=>hd x (by simp [hx]),hw⟩
theorem rtNew_c {n:Int} (hbad:¬ (0≤n∧n≤4096)→Q (.tuple #[.pointer none,.int .i64 1]) H) (h:(0≤n∧n≤4096)→∀ H',RTb H' H.size [H.size] ⟨n,[]⟩→Fr [] H H'→Q (.tuple #[.pointer (some ⟨H.size,0,none⟩),.int .i64 0]) H'):callS PP n_k56 #[.int .i64 n] Q H:=by
 apply k56_ok
 unfold k56 A0 iV pV lV
 simp only [cond_dec]
 refine ite_intro' (fun h1=>hbad (by omega)) fun h1=>ite_intro' (fun h2=>hbad (by omega)) fun h2=>?_
 exact h (by omega) _ ⟨none,0,0,[],rfl,by simp,Blk.new _ _ _,Own.nil 1 _,by simp;omega,by simp;omega,by simp;omega,by simp,by simp⟩ (Fr.push _ _ _)
theorem right_c {s:ByteArray} (h:Q (.bool (decide (goodText s))) H):callS PP n_k172 #[.string s] Q H:=by
 apply k172_ok
 unfold k172
 simp only [cond_dec]
 have fin:∀ b:Bool,b=decide (goodText s)→Q (.bool b) H:=fun b hb=>hb ▸ h
 refine ite_intro' (fun h1=>fin _ ?_) fun h1=>fin _ ?_
 ·rw [Bool.eq_iff_iff,decide_eq_true_iff,decide_eq_true_iff];unfold goodText;omega
 ·rw [Bool.eq_iff_iff,decide_eq_true_iff];unfold goodText;simp;omega
theorem tat_c (hT:RTb H b F t){s:ByteArray} (h:Q (.int .i64 (match numOf t.texts s with | some n=>(n:Int) | none=>-1)) H):callS PP n_k173 #[.pointer (some ⟨b,0,none⟩),.string s] Q H:=by
 obtain ⟨a,l,c,F',rfl,h1,hB,hO,hw⟩:=hT
 have hc1:cellH H ⟨b,1,none⟩=some (.slice a l c):=hB.cell 1
 have hl:l=t.texts.length:=by have:=hO.len;simpa [strsV] using this.symm
 have hm1:=hw.m1
 have hlen:=hw.len
 apply k173_ok
 unfold k173 iV wW sV lV
 refine ⟨fun w H'=>H'=H∧∃ n:Nat,w=[.int .i64 n]∧n≤l∧∀ j (hj:j<t.texts.length),j<n→t.texts[j]≠s,fun w _=>match w with
  | [.int _ i]=>(l-i).toNat
  | _=>0,⟨rfl,0,rfl,Nat.zero_le _,fun j hj h=>by omega⟩,?_⟩
 rintro w H1 ⟨rfl,n,rfl,hn1,hn2⟩ _
 refine ⟨_,rfl,_,rfl,_,_,_,hc1,?_⟩
 rw [cond_dec]
 refine ite_intro' (fun hlt=>?_) fun hlt=>?_
 ·obtain ⟨p,hlt2,rfl,hcell⟩:=hO.rd.str (i:=(n:Int)) (by omega) hlt
  simp only [Int.toNat_natCast] at hcell hlt2
  refine ⟨_,rfl,_,_,_,hc1,⟨by omega,hlt⟩,_,rfl,_,by rw [Int.toNat_natCast,Nat.mul_one];exact hcell,?_⟩
  rw [strEq_dec,cond_dec]
  refine ite_intro' (fun he=>?_) fun he=>?_
  ·rw [numOf_some hlt2 he hn2] at h;exact h
  ·have e:IntKind.wrap .i64 ((n:Int)+1)=((n+1:Nat):Int):=by rw [wrap64_id (by omega) (by omega)];omega
   rw [e]
   refine ⟨⟨rfl,n+1,rfl,by omega,fun j hj hj2=>?_⟩,by simp;omega⟩
   by_cases hjn:j=n
   ·subst hjn;exact he
   ·exact hn2 j hj (by omega)
 ·have:numOf t.texts s=none:=numOf_none.2 fun hm=>by
   obtain ⟨j,hj,he⟩:=List.getElem_of_mem hm
   exact hn2 j hj (by omega) he
  rw [this] at h;exact h
theorem tadd_c (hT:RTb H b F t){s:ByteArray} (h:∀ H' F',RTb H' b F' (t.add s).2→Up F H F' H'→Q (.tuple #[.int .i64 (t.add s).1.1,.int .i64 (t.add s).1.2]) H'):callS PP n_k60 #[.pointer (some ⟨b,0,none⟩),.string s] Q H:=by
 have hT0:=hT
 have hlt0:=hT.lt
 have hwf:=add_wft hT.wf s
 obtain ⟨a,l,c,F',rfl,h1,hB,hO,hw⟩:=hT
 have hc1:cellH H ⟨b,1,none⟩=some (.slice a l c):=hB.cell 1
 have hc0:cellH H ⟨b,0,none⟩=some (.int .i64 t.most):=hB.cell 0
 have hl:l=t.texts.length:=by have:=hO.len;simpa [strsV] using this.symm
 have hm1:=hw.m1
 have hlen:=hw.len
 have hs1:sliceInfo PP 37=some (1,16,some (.string (⟨#[]⟩:ByteArray))):=by kernel_rfl
 apply k60_ok
 unfold k60 A0 iV wW pV sV lV cS
 simp only [Option.isNone_some,cond_false]
 refine right_c ⟨_,rfl,?_⟩
 unfold TB.add at h hwf
 by_cases hg:goodText s
 ·simp only [hg,not_true_eq_false,if_false,decide_true,Bool.not_true,cond_false] at h hwf ⊢
  refine tat_c hT0 ⟨_,rfl,?_⟩
  cases hn:numOf t.texts s with
  | some n =>
   rw [hn] at h
   rw [cond_dec,if_pos (by simp only;omega)]
   exact h H _ hT0 (Up.refl _ _)
  | none =>
   rw [hn] at h hwf
   simp only at h hwf
   rw [cond_dec,if_neg (by simp)]
   refine ⟨_,rfl,_,_,_,hc1,_,rfl,_,hc0,?_⟩
   rw [cond_dec]
   refine ite_intro' (fun h2=>?_) fun h2=>?_
   ·rw [if_pos (by omega)] at h;exact h H _ hT0 (Up.refl _ _)
   ·rw [if_neg (by omega)] at h hwf
    refine ⟨_,rfl,_,_,_,hc1,?_⟩
    refine evS_append1 hs1 rfl (by kernel_rfl) hO rfl (by simp [oneC]) (by omega) (by decide) (by decide) fun a' c' F3 H2 g1 g2 g3=>⟨_,_,_,rfl,?_⟩
    have hbF3:b∉F3:=fun hx=>by
     rcases g2.2 b hx with h4 | h4
     ·exact h1 h4
     ·have:=hlt0 b (by simp);omega
    have hB2:=hB.fr g2.1 h1
    have hBs:=hB2.set 1 (.slice a' (l+1) c')
    have e:IntKind.wrap .i64 (((l+1:Nat):Int)-1)=(t.texts.length:Int):=by rw [wrap64_id (by omega) (by omega)];omega
    refine ⟨_,rfl,hB2.wr (by simp),_,rfl,_,_,_,hBs.cell 1,?_⟩
    rw [e]
    refine h _ (b :: F3) ⟨a',l+1,c',F3,rfl,hbF3,hBs,?_,hwf⟩ ⟨(g2.1.mono fun x hx=>by simp [hx]).step (by simp),fun x hx=>?_⟩
    ·have h5:=g1.fr (G:=[b]) (Fr.set (a:=⟨b,1,none⟩) (v:=.slice a' (l+1) c') (by simp)) (fun x hx hn=>hbF3 (by simp only [List.mem_singleton] at hn;rw [←hn];exact hx))
     simp only
     rw [strsV_append];exact h5
    ·rcases List.mem_cons.1 hx with rfl | hx
     ·exact .inl (by simp)
     ·exact (g2.2 x hx).imp (fun h4=>by simp [h4]) id
 ·simp only [hg,not_false_eq_true,if_true,decide_false,Bool.not_false,cond_true] at h ⊢
  exact h H _ hT0 (Up.refl _ _)
theorem tcount_c (hT:RTb H b F t) (h:Q (.int .i64 (t.texts.length:Int)) H):callS PP n_k214 #[.pointer (some ⟨b,0,none⟩)] Q H:=by
 obtain ⟨a,l,c,F',rfl,h1,hB,hO,hw⟩:=hT
 have hc1:cellH H ⟨b,1,none⟩=some (.slice a l c):=hB.cell 1
 have hl:l=t.texts.length:=by have:=hO.len;simpa [strsV] using this.symm
 apply k214_ok
 unfold k214 iV lV
 simp only [Option.isNone_some,cond_false]
 refine ⟨_,rfl,_,_,_,hc1,?_⟩
 rw [hl];exact h
def textV (t:TB) (n:Int):Value:=if h:0≤n∧n<t.texts.length then .tuple #[.string (t.texts[n.toNat]'(by omega)),.int .i64 0] else .tuple #[.string (⟨#[]⟩:ByteArray),.int .i64 61]
theorem ttext_c (hT:RTb H b F t){n:Int} (h:Q (textV t n) H):callS PP n_k241 #[.pointer (some ⟨b,0,none⟩),.int .i64 n] Q H:=by
 obtain ⟨a,l,c,F',rfl,h1,hB,hO,hw⟩:=hT
 have hc1:cellH H ⟨b,1,none⟩=some (.slice a l c):=hB.cell 1
 have hl:l=t.texts.length:=by have:=hO.len;simpa [strsV] using this.symm
 apply k241_ok
 unfold k241 iV sV lV
 unfold textV at h
 simp only [cond_dec,Option.isNone_some,cond_false]
 refine ite_intro' (fun h2=>?_) fun h2=>?_
 ·rw [dif_neg (by omega)] at h;exact h
 refine ⟨_,rfl,_,_,_,hc1,ite_intro' (fun h3=>?_) fun h3=>?_⟩
 ·rw [dif_neg (by omega)] at h;exact h
 ·rw [dif_pos (by omega)] at h
  obtain ⟨p,hlt2,rfl,hcell⟩:=hO.rd.str (i:=n) (by omega) (by omega)
  exact ⟨_,rfl,_,_,_,hc1,⟨by omega,by omega⟩,_,rfl,_,by rw [Nat.mul_one];exact hcell,h⟩
theorem tall_c (hT:RTb H b F t) (h:∀ a l c G H',Own 1 H' a l c (strsV t.texts) G→Fr [] H H'→(∀ x∈G,H.size≤x)→Q (.slice a l c) H'):callS PP n_k80 #[.pointer (some ⟨b,0,none⟩)] Q H:=by
 obtain ⟨a,l,c,F',rfl,h1,hB,hO,hw⟩:=hT
 have hl:l=t.texts.length:=by have:=hO.len;simpa [strsV] using this.symm
 have hm1:=hw.m1
 have hlen:=hw.len
 have hs1:sliceInfo PP 37=some (1,16,some (.string (⟨#[]⟩:ByteArray))):=by kernel_rfl
 apply k80_ok
 unfold k80 A0 iV wW sV lV
 refine ⟨fun w H'=>∃(i:Nat) (a:Option Addr) (l' c:Nat) (G:Foot),w=[.slice a l' c,.int .i64 i]∧i≤l∧Own 1 H' a l' c (strsV (t.texts.take i)) G∧Fr [] H H'∧(∀ x∈G,H.size≤x),fun w _=>match w with
  | [_,.int _ i]=>(l-i).toNat
  | _=>0,⟨0,none,0,0,[],rfl,Nat.zero_le _,by simpa [strsV] using Own.nil 1 H,Fr.refl _ _,by simp⟩,?_⟩
 rintro w H1 ⟨i,a1,l1,c1,G,rfl,hi,ho,hf,hG⟩ _
 have hB1:=hB.fr hf (by simp)
 have hc1:cellH H1 ⟨b,1,none⟩=some (.slice a l c):=hB1.cell 1
 have hl1:l1=i:=by have:=ho.len;simp only [strsV,List.length_map,List.length_take] at this;omega
 refine ⟨_,_,_,_,rfl,?_⟩
 simp only [Option.isNone_some,Bool.not_false,cond_true]
 refine ⟨_,rfl,_,_,_,hc1,?_⟩
 rw [cond_dec]
 refine ite_intro' (fun hlt=>?_) fun hlt=>?_
 ·obtain ⟨p,hlt2,rfl,hcell⟩:=(hO.fr hf (by simp)).rd.str (i:=(i:Int)) (by omega) hlt
  simp only [Int.toNat_natCast] at hcell hlt2
  have htk:t.texts.take (i+1)=t.texts.take i++[t.texts[i]]:=by rw [List.take_add_one];simp [hlt2]
  have e:IntKind.wrap .i64 ((i:Int)+1)=((i+1:Nat):Int):=by rw [wrap64_id (by omega) (by omega)];omega
  refine ⟨_,rfl,_,_,_,hc1,⟨by omega,hlt⟩,_,rfl,_,by rw [Int.toNat_natCast,Nat.mul_one];exact hcell,?_⟩
  refine evS_append1 hs1 rfl (by kernel_rfl) ho rfl (by simp [oneC]) (by omega) (by decide) (by decide) fun a' c' G2 H2 g1 g2 g3=>⟨_,_,_,rfl,?_⟩
  have hfr:=Up.fresh hf g2 hG
  rw [e]
  refine ⟨⟨i+1,a',l1+1,c',G2,rfl,by omega,?_,hfr.1,hfr.2⟩,by simp;omega⟩
  rw [htk,strsV_append];exact g1
 ·rw [List.take_of_length_le (by omega)] at ho
  exact h _ _ _ _ H1 ho hf hG
theorem tback_c (hT:RTb H b F t){n:Int} (h:∀ H' F',RTb H' b F' (TB.back t n).2→Up F H F' H'→Q (.int .i64 (TB.back t n).1) H'):callS PP n_k219 #[.pointer (some ⟨b,0,none⟩),.int .i64 n] Q H:=by
 have hT0:=hT
 have hlt0:=hT.lt
 obtain ⟨a,l,c,F',rfl,h1,hB,hO,hw⟩:=hT
 have hc1:cellH H ⟨b,1,none⟩=some (.slice a l c):=hB.cell 1
 have hl:l=t.texts.length:=by have:=hO.len;simpa [strsV] using this.symm
 have hm1:=hw.m1
 have hlen:=hw.len
 have hs1:sliceInfo PP 37=some (1,16,some (.string (⟨#[]⟩:ByteArray))):=by kernel_rfl
 apply k219_ok
 unfold k219 A0 iV wW sV lV
 unfold TB.back at h
 simp only [cond_dec,Option.isNone_some,cond_false]
 refine ite_intro' (fun h2=>?_) fun h2=>?_
 ·rw [if_pos (.inl h2)] at h;exact h H _ hT0 (Up.refl _ _)
 refine ⟨_,rfl,_,_,_,hc1,ite_intro' (fun h3=>?_) fun h3=>?_⟩
 ·rw [if_pos (by omega)] at h;exact h H _ hT0 (Up.refl _ _)
 rw [if_neg (by omega)] at h
 refine ⟨fun w H'=>∃(i:Nat) (a:Option Addr) (l' c:Nat) (G:Foot),w=[.slice a l' c,.int .i64 i]∧(i:Int)≤n∧Own 1 H' a l' c (strsV (t.texts.take i)) G∧Fr [] H H'∧(∀ x∈G,H.size≤x),fun w _=>match w with
  | [_,.int _ i]=>(n-i).toNat
  | _=>0,⟨0,none,0,0,[],rfl,by omega,by simpa [strsV] using Own.nil 1 H,Fr.refl _ _,by simp⟩,?_⟩
 rintro w H1 ⟨i,a1,l1,c1,G,rfl,hi,ho,hf,hG⟩ _
 have hB1:=hB.fr hf (by simp)
 have hc11:cellH H1 ⟨b,1,none⟩=some (.slice a l c):=hB1.cell 1
 have hl1:l1=i:=by have:=ho.len;simp only [strsV,List.length_map,List.length_take] at this;omega
 refine ⟨_,_,_,_,rfl,ite_intro' (fun hlt=>?_) fun hlt=>?_⟩
 ·obtain ⟨p,hlt2,rfl,hcell⟩:=(hO.fr hf (by simp)).rd.str (i:=(i:Int)) (by omega) (by omega)
  simp only [Int.toNat_natCast] at hcell hlt2
  have htk:t.texts.take (i+1)=t.texts.take i++[t.texts[i]]:=by rw [List.take_add_one];simp [hlt2]
  have e:IntKind.wrap .i64 ((i:Int)+1)=((i+1:Nat):Int):=by rw [wrap64_id (by omega) (by omega)];omega
  refine ⟨_,rfl,_,_,_,hc11,⟨by omega,by omega⟩,_,rfl,_,by rw [Int.toNat_natCast,Nat.mul_one];exact hcell,?_⟩
  refine evS_append1 hs1 rfl (by kernel_rfl) ho rfl (by simp [oneC]) (by omega) (by decide) (by decide) fun a' c' G2 H2 g1 g2 g3=>⟨_,_,_,rfl,?_⟩
  have hfr:=Up.fresh hf g2 hG
  rw [e]
  refine ⟨⟨i+1,a',l1+1,c',G2,rfl,by omega,?_,hfr.1,hfr.2⟩,by simp;omega⟩
  rw [htk,strsV_append];exact g1
 ·have hin:i=n.toNat:=by omega
  have hbG:b∉G:=fun hx=>by have:=hG b hx;have:=hlt0 b (by simp);omega
  refine ⟨_,rfl,hB1.wr (by simp),h _ (b :: G) ⟨a1,l1,c1,G,rfl,hbG,hB1.set 1 (.slice a1 l1 c1),?_,?_⟩ ⟨(hf.of_nil).step (by simp),fun x hx=>?_⟩⟩
  ·rw [hin] at ho
   exact ho.fr (G:=[b]) (Fr.set (by simp)) (fun x hx hn=>hbG (by simp only [List.mem_singleton] at hn;rw [←hn];exact hx))
  ·exact { hw with len:=by simp;omega,nodup:=hw.nodup.sublist (List.take_sublist _ _),good:=fun s hs=>hw.good s (List.mem_of_mem_take hs) }
  ·rcases List.mem_cons.1 hx with rfl | hx
   ·exact .inl (by simp)
   ·exact .inr (hG x hx)
end
noncomputable instance memDec (s:ByteArray) (l:List ByteArray):Decidable (s∈l):=Classical.propDecidable _
theorem getK_none_iff {es:List (Key × Value)}{k:Key}:getK es k=none↔k∉es.map (·.1):=by
 induction es with
 | nil=>simp [getK]
 | cons p l ih =>
  unfold getK
  by_cases h:k=p.1
  ·simp [h]
  ·rw [if_neg h,ih]
   simp [h]
theorem getK_delK {es:List (Key × Value)} (hnd:(es.map (·.1)).Nodup) (k k':Key):getK (delK es k) k'=if k'=k then none else getK es k':=by
 induction es with
 | nil=>simp [delK,getK]
 | cons p l ih =>
  rw [List.map_cons,List.nodup_cons] at hnd
  unfold delK
  by_cases h:k=p.1
  ·rw [if_pos h]
   by_cases h2:k'=k
   ·rw [if_pos h2]
    rw [getK_none_iff,h2,h];exact hnd.1
   ·rw [if_neg h2]
    have:k'≠p.1:=fun e=>h2 (e.trans h.symm)
    conv=>rhs;unfold getK
    rw [if_neg this]
  ·rw [if_neg h]
   unfold getK
   by_cases h3:k'=p.1
   ·rw [if_pos h3,if_pos h3,if_neg (fun e=>h (e.symm.trans h3))]
   ·rw [if_neg h3,if_neg h3];exact ih hnd.2
theorem delK_sub (es:List (Key × Value)) (k:Key):(delK es k).Sublist es:=by
 induction es with
 | nil=>exact List.Sublist.refl _
 | cons p l ih =>
  unfold delK
  split
  ·exact List.sublist_cons_self _ _
  ·exact ih.cons_cons _
def PTb (H:Heap) (b:Nat) (F:Foot) (t:TB):Prop:=∃ a l c F' m es,F=b :: m :: F'∧b∉F'∧b≠m∧m∉F'∧Blk H b #[.int .i64 t.most,.slice a l c,.map (some m)]∧Own 1 H a l c (strsV t.texts) F'∧MapAt H m es ∧
 (∀ p∈es,p.1.of .string)∧(∀ s,getK es (.str s)=(numOf t.texts s).map fun n:Nat=>.int .i64 n)∧WFT t∧(es.map (·.1)).Nodup
section
variable {H:Heap}{b:Nat}{F F':Foot}{t:TB}{Q:QT}
theorem PTb.wf (h:PTb H b F t):WFT t:=by obtain ⟨_,_,_,_,_,_,_,_,_,_,_,_,_,_,_,h,_⟩:=h;exact h
theorem PTb.lt (h:PTb H b F t):∀ x∈F,x<H.size:=by
 obtain ⟨a,l,c,F',m,es,rfl,h1,h2,h3,hB,hO,hM,_⟩:=h
 intro x hx
 rcases List.mem_cons.1 hx with rfl | hx
 ·exact hB.lt
 ·rcases List.mem_cons.1 hx with rfl | hx
  ·exact hM.lt
  ·exact hO.lt x hx
theorem PTb.fr {H':Heap}{G:Foot} (h:PTb H b F t) (hf:Fr G H H') (hd:Disj F G):PTb H' b F t:=by
 obtain ⟨a,l,c,F',m,es,rfl,h1,h2,h3,hB,hO,hM,h4⟩:=h
 exact ⟨a,l,c,F',m,es,rfl,h1,h2,h3,hB.fr hf (hd b (by simp)),hO.fr hf fun x hx=>hd x (by simp [hx]),hM.fr hf (hd m (by simp)),h4⟩
theorem tnone_c (hT:PTb H b F t) (h:Q (.bool false) H):callS PP n_k184 #[.pointer (some ⟨b,0,none⟩)] Q H:=by
 obtain ⟨a,l,c,F',m,es,rfl,h1,h2,h3,hB,_⟩:=hT
 have hc2:cellH H ⟨b,2,none⟩=some (.map (some m)):=hB.cell 2
 apply k184_ok
 unfold k184
 simp only [Option.isNone_some,cond_false]
 exact ⟨_,rfl,_,hc2,h⟩
theorem ptNew_c {n:Int} (hbad:¬ (0≤n∧n≤4096)→Q (.tuple #[.pointer none,.int .i64 1]) H) (h:(0≤n∧n≤4096)→∀ b F H',PTb H' b F ⟨n,[]⟩→Fr [] H H'→(∀ x∈F,H.size≤x)→Q (.tuple #[.pointer (some ⟨b,0,none⟩),.int .i64 0]) H'):callS PP n_k47 #[.int .i64 n] Q H:=by
 apply k47_ok
 unfold k47 iV pV lV
 simp only [cond_dec]
 refine ite_intro' (fun h1=>hbad (by omega)) fun h1=>ite_intro' (fun h2=>hbad (by omega)) fun h2=>?_
 refine h (by omega) _ _ _ ⟨none,0,0,[],H.size,[],rfl,by simp,by simp,by simp,Blk.new _ _ _,Own.nil 1 _,MapAt.fr (H:=H.push (.map #[] 0)) (G:=[]) (MapAt.new H) (Fr.push [] _ _) (by simp),by simp,fun s=>by simp [getK,numOf],?_,by simp⟩ ((Fr.push [] H _).more) (by simp)
 exact ⟨by simp;omega,by simp;omega,by simp;omega,by simp,by simp⟩
theorem ptCell_c (hT:PTb H b F t):∃ a l c m es,cellH H ⟨b,0,none⟩=some (.int .i64 t.most)∧cellH H ⟨b,1,none⟩=some (.slice a l c)∧cellH H ⟨b,2,none⟩=some (.map (some m))∧MapAt H m es∧(∀ p∈es,p.1.of .string)∧(∀ s,getK es (.str s)=(numOf t.texts s).map fun n:Nat=>.int .i64 n)∧Rd 1 H a l (strsV t.texts)∧l=t.texts.length:=by
 obtain ⟨a,l,c,F',m,es,rfl,h1,h2,h3,hB,hO,hM,h4,h5,h6⟩:=hT
 exact ⟨a,l,c,m,es,hB.cell 0,hB.cell 1,hB.cell 2,hM,h4,h5,hO.rd,by have:=hO.len;simpa [strsV] using this.symm⟩
def findV (t:TB) (s:ByteArray):Value:=match numOf t.texts s with
 | some n=>.tuple #[.int .i64 (n:Int),.bool true]
 | none=>.tuple #[.int .i64 0,.bool false]
theorem ptFind_c (hT:PTb H b F t){s:ByteArray} (h:Q (findV t s) H):callS PP n_k136 #[.pointer (some ⟨b,0,none⟩),.string s] Q H:=by
 have hmi:mapInfo PP 217=some (.string,some (.int .i64 0)):=by kernel_rfl
 obtain ⟨a,l,c,m,es,hc0,hc1,hc2,hM,ho,hg,_,_⟩:=ptCell_c hT
 apply k136_ok
 unfold k136 iV pV sV
 refine tnone_c hT ⟨_,rfl,?_⟩
 simp only [cond_false]
 refine ⟨_,rfl,_,hc2,?_⟩
 refine evS_lookup (k:=.str s) hmi trivial ho hM ?_
 unfold findV at h
 rw [hg s]
 cases hn:numOf t.texts s with
 | some n=>rw [hn] at h;exact ⟨_,_,rfl,h⟩
 | none=>rw [hn] at h;exact ⟨_,_,rfl,h⟩
theorem ptCount_c (hT:PTb H b F t) (h:Q (.int .i64 (t.texts.length:Int)) H):callS PP n_k205 #[.pointer (some ⟨b,0,none⟩)] Q H:=by
 obtain ⟨a,l,c,m,es,hc0,hc1,hc2,hM,ho,hg,_,hl⟩:=ptCell_c hT
 apply k205_ok
 unfold k205 iV pV lV
 refine tnone_c hT ⟨_,rfl,?_⟩
 simp only [cond_false]
 refine ⟨_,rfl,_,_,_,hc1,?_⟩
 rw [hl];exact h
theorem ptText_c (hT:PTb H b F t){n:Int} (h:Q (textV t n) H):callS PP n_k240 #[.pointer (some ⟨b,0,none⟩),.int .i64 n] Q H:=by
 obtain ⟨a,l,c,m,es,hc0,hc1,hc2,hM,ho,hg,hrd,hl⟩:=ptCell_c hT
 apply k240_ok
 unfold k240 iV pV sV lV
 unfold textV at h
 refine tnone_c hT ⟨_,rfl,?_⟩
 simp only [cond_false,cond_dec]
 refine ite_intro' (fun h2=>?_) fun h2=>?_
 ·rw [dif_neg (by omega)] at h;exact h
 refine ⟨_,rfl,_,_,_,hc1,ite_intro' (fun h3=>?_) fun h3=>?_⟩
 ·rw [dif_neg (by omega)] at h;exact h
 ·rw [dif_pos (by omega)] at h
  obtain ⟨p,hlt2,rfl,hcell⟩:=hrd.str (i:=n) (by omega) (by omega)
  exact ⟨_,rfl,_,_,_,hc1,⟨by omega,by omega⟩,_,rfl,_,by rw [Nat.mul_one];exact hcell,h⟩
theorem ptAdd_c (hT:PTb H b F t){s:ByteArray} (h:∀ H' F',PTb H' b F' (t.add s).2→Up F H F' H'→Q (.tuple #[.int .i64 (t.add s).1.1,.int .i64 (t.add s).1.2]) H'):callS PP n_k131 #[.pointer (some ⟨b,0,none⟩),.string s] Q H:=by
 have hT0:=hT
 have hlt0:=hT.lt
 have hwf:=add_wft hT.wf s
 have hmi:mapInfo PP 217=some (.string,some (.int .i64 0)):=by kernel_rfl
 have hs1:sliceInfo PP 37=some (1,16,some (.string (⟨#[]⟩:ByteArray))):=by kernel_rfl
 obtain ⟨a,l,c,F',m,es,rfl,h1,h2,h3,hB,hO,hM,ho,hg,hw,hnd⟩:=hT
 have hc0:cellH H ⟨b,0,none⟩=some (.int .i64 t.most):=hB.cell 0
 have hc1:cellH H ⟨b,1,none⟩=some (.slice a l c):=hB.cell 1
 have hc2:cellH H ⟨b,2,none⟩=some (.map (some m)):=hB.cell 2
 have hl:l=t.texts.length:=by have:=hO.len;simpa [strsV] using this.symm
 have hm1:=hw.m1
 have hlen:=hw.len
 apply k131_ok
 unfold k131 A0 iV pV sV lV
 refine tnone_c hT0 ⟨_,rfl,?_⟩
 simp only [cond_false,cond_dec]
 unfold TB.add at h hwf
 refine ite_intro' (fun g1=>?_) fun g1=>ite_intro' (fun g2=>?_) fun g2=>?_
 ·rw [if_pos (by unfold goodText;omega)] at h;exact h H _ hT0 (Up.refl _ _)
 ·rw [if_pos (by unfold goodText;omega)] at h;exact h H _ hT0 (Up.refl _ _)
 have hgd:¬ ¬ goodText s:=by unfold goodText;omega
 rw [if_neg hgd] at h hwf
 refine ⟨_,rfl,_,hc2,?_⟩
 refine evS_lookup (k:=.str s) hmi trivial ho hM ?_
 rw [hg s]
 cases hn:numOf t.texts s with
 | some n =>
  rw [hn] at h
  refine ⟨_,_,rfl,?_⟩
  exact h H _ hT0 (Up.refl _ _)
 | none =>
  rw [hn] at h hwf
  simp only at h hwf
  refine ⟨_,_,rfl,?_⟩
  simp only [Option.map_none,Option.isSome_none,cond_false]
  refine ⟨_,rfl,_,_,_,hc1,_,rfl,_,hc0,ite_intro' (fun g3=>?_) fun g3=>?_⟩
  ·rw [if_pos (by omega)] at h;exact h H _ hT0 (Up.refl _ _)
  ·rw [if_neg (by omega)] at h hwf
   refine ⟨_,rfl,_,_,_,hc1,?_⟩
   refine evS_append1 hs1 rfl (by kernel_rfl) hO rfl (by simp [oneC]) (by omega) (by decide) (by decide) fun a' c' F3 H2 k1 k2 k3=>⟨_,_,_,rfl,?_⟩
   have hbF3:b∉F3:=fun hx=>by
    rcases k2.2 b hx with h4 | h4
    ·exact h1 h4
    ·have:=hlt0 b (by simp);omega
   have hmF3:m∉F3:=fun hx=>by
    rcases k2.2 m hx with h4 | h4
    ·exact h3 h4
    ·have:=hlt0 m (by simp);omega
   have hB2:=hB.fr k2.1 h1
   have hBs:=hB2.set 1 (.slice a' (l+1) c')
   have hMs:=(hM.fr k2.1 h3).of_eq (H':=setH H2 ⟨b,1,none⟩ (.slice a' (l+1) c')) (setH_ne (Ne.symm h2))
   refine ⟨_,rfl,hB2.wr (by simp),_,rfl,_,hBs.cell 2,?_⟩
   refine evS_mapUpdate (k:=.str s) hmi trivial ho hMs fun H4 hM4 hf4=>?_
   rw [hl]
   have hfb:Fr [b] H2 (setH H2 ⟨b,1,none⟩ (.slice a' (l+1) c')):=Fr.set (by simp)
   refine h H4 (b :: m :: F3) ⟨a',l+1,c',F3,m,_,rfl,hbF3,h2,hmF3,hBs.fr hf4 (by simpa using h2),?_,hM4,?_,fun x=>?_,hwf,?_⟩ ⟨?_,fun x hx=>?_⟩
   ·have h5:=(k1.fr hfb (fun x hx hn=>hbF3 (by simp only [List.mem_singleton] at hn;rw [←hn];exact hx))).fr hf4 (fun x hx hn=>hmF3 (by simp only [List.mem_singleton] at hn;rw [←hn];exact hx))
    simp only
    rw [strsV_append];exact h5
   ·intro p hp
    have:∀ (es:List (Key × Value)),(∀ p∈es,p.1.of .string)→∀ p∈setK es (.str s) (.int .i64 (t.texts.length:Int)),p.1.of .string:=by
     intro es
     induction es with
     | nil=>intro _ p hp;simp [setK] at hp;subst hp;trivial
     | cons q es ih =>
      intro hes p hp
      unfold setK at hp
      split at hp
      ·rcases List.mem_cons.1 hp with rfl | hp
       ·trivial
       ·exact hes p (by simp [hp])
      ·rcases List.mem_cons.1 hp with rfl | hp
       ·exact hes _ (by simp)
       ·exact ih (fun p hp=>hes p (by simp [hp])) p hp
    rw [hl] at hp
    exact this es ho p hp
   ·rw [getK_setK,hg x,numOf_append]
    by_cases hx:x=s
    ·subst hx
     rw [hn];simp [hl]
    ·rw [if_neg (by simpa using hx)]
     cases numOf t.texts x with
     | some n=>rfl
     | none=>simp only;rw [if_neg (fun e:s=x=>hx e.symm)]
   ·have hgn:getK es (.str s)=none:=by rw [hg s,hn];rfl
    rw [setK_none (idxK_none.2 hgn),List.map_append,List.nodup_append]
    refine ⟨hnd,by simp,fun x hx y hy hxy=>?_⟩
    simp only [List.map_cons,List.map_nil,List.mem_singleton] at hy
    subst hy
    subst hxy
    exact (getK_none_iff.1 hgn) hx
   ·exact ((k2.1.mono fun x hx=>by simp [hx]).step (by simp)).trans (hf4.mono fun x hx=>by simp only [List.mem_singleton] at hx;simp [hx])
   ·rcases List.mem_cons.1 hx with rfl | hx
    ·exact .inl (by simp)
    ·rcases List.mem_cons.1 hx with rfl | hx
     ·exact .inl (by simp)
     ·exact (k2.2 x hx).imp (fun h4=>by simp [h4]) id
theorem numOf_take {l:List ByteArray} (hnd:l.Nodup) (n:Nat) (s:ByteArray):numOf (l.take n) s=if s∈l.drop n then none else numOf l s:=by
 induction l generalizing n with
 | nil=>simp [numOf]
 | cons x l ih =>
  rw [List.nodup_cons] at hnd
  cases n with
  | zero =>
   simp only [List.take_zero,List.drop_zero,numOf]
   by_cases h:s∈x :: l
   ·rw [if_pos h]
   ·rw [if_neg h]
    have h1:x≠s:=fun e=>h (by simp [e])
    have h2:numOf l s=none:=numOf_none.2 fun hm=>h (by simp [hm])
    rw [if_neg h1,h2];rfl
  | succ n =>
   simp only [List.take_succ_cons,List.drop_succ_cons,numOf]
   by_cases h1:x=s
   ·subst h1
    have:x∉l.drop n:=fun hm=>hnd.1 (List.mem_of_mem_drop hm)
    simp [this]
   ·rw [if_neg h1,if_neg h1,ih hnd.2]
    split <;> rfl
theorem ptBack_c (hT:PTb H b F t){n:Int} (h:∀ H',PTb H' b F (TB.back t n).2→Fr F H H'→Q (.int .i64 (TB.back t n).1) H'):callS PP n_k207 #[.pointer (some ⟨b,0,none⟩),.int .i64 n] Q H:=by
 have hT0:=hT
 have hlt0:=hT.lt
 have hmi:mapInfo PP 217=some (.string,some (.int .i64 0)):=by kernel_rfl
 obtain ⟨a,l,c,F',m,es,rfl,h1,h2,h3,hB,hO,hM,ho,hg,hw,hnd⟩:=hT
 have hc1:cellH H ⟨b,1,none⟩=some (.slice a l c):=hB.cell 1
 have hl:l=t.texts.length:=by have:=hO.len;simpa [strsV] using this.symm
 have hm1:=hw.m1
 have hlen:=hw.len
 have hlc:=hO.2.1
 apply k207_ok
 unfold k207 iV wW pV sV lV
 unfold TB.back at h
 refine tnone_c hT0 ⟨_,rfl,?_⟩
 simp only [cond_false,cond_dec]
 refine ite_i (fun g1=>?_) fun g1=>?_
 ·rw [if_pos (.inl g1)] at h;exact h H hT0 (Fr.refl _ _)
 refine ⟨_,rfl,_,_,_,by rw [add_none];exact hc1,ite_i (fun g2=>?_) fun g2=>?_⟩
 ·rw [if_pos (by omega)] at h;exact h H hT0 (Fr.refl _ _)
 rw [if_neg (by omega)] at h
 have e1:IntKind.wrap .i64 ((l:Int)-n)=(l:Int)-n:=wrap64_id (by omega) (by omega)
 refine ⟨_,rfl,_,_,_,by rw [add_none];exact hc1,?_⟩
 rw [e1]
 refine ⟨fun w H'=>∃(i:Nat) (es':List (Key × Value)),w=[.int .i64 i]∧(i:Int)≤(l:Int)-n∧Fr [m] H H'∧MapAt H' m es'∧es'.Sublist es∧∀ s,getK es' (.str s)=if s∈(t.texts.drop n.toNat).take i then none else getK es (.str s),fun w _=>match w with
  | [.int _ i]=>((l:Int)-n-i).toNat
  | _=>0,⟨0,es,rfl,by omega,Fr.refl _ _,hM,List.Sublist.refl _,by simp⟩,?_⟩
 rintro w H1 ⟨i,es',rfl,hi,hf,hM1,hsub,hg1⟩ _
 have hB1:=hB.fr hf (by simpa using h2)
 have hO1:=hO.fr hf (fun x hx hm=>h3 (by simp only [List.mem_singleton] at hm;rw [←hm];exact hx))
 refine ⟨_,rfl,ite_i (fun g3=>?_) fun g3=>?_⟩
 ·have e2:IntKind.wrap .i64 (n+(i:Int))=n+i:=wrap64_id (by omega) (by omega)
  have e3:IntKind.wrap .i64 ((i:Int)+1)=((i+1:Nat):Int):=by rw [wrap64_id (by omega) (by omega)];omega
  rw [e2,e3]
  obtain ⟨p,hlt2,rfl,hcell⟩:=hO1.rd.str (i:=n+(i:Int)) (by omega) (by omega)
  refine ⟨_,rfl,_,by rw [add_none];exact hB1.cell 2,_,rfl,_,_,_,by rw [add_none];exact hB1.cell 1,⟨by omega,by omega⟩,_,rfl,_,by rw [Nat.mul_one];exact hcell,?_⟩
  have hnd1:(es'.map (·.1)).Nodup:=hnd.sublist (hsub.map _)
  refine evS_delete (k:=.str t.texts[(n+(i:Int)).toNat]) hmi trivial (fun p hp=>ho p (hsub.subset hp)) hM1 fun H2 hM2 hf2=>⟨trivial,⟨i+1,_,rfl,by omega,hf.trans hf2,hM2,(delK_sub _ _).trans hsub,fun s=>?_⟩,by simp;omega⟩
  have hdl:i<(t.texts.drop n.toNat).length:=by rw [List.length_drop];omega
  have htk:(t.texts.drop n.toNat).take (i+1)=(t.texts.drop n.toNat).take i++[t.texts[(n+(i:Int)).toNat]]:=by
   rw [List.take_succ_eq_append_getElem hdl,List.getElem_drop]
   congr 3;omega
  rw [getK_delK hnd1,hg1,htk]
  by_cases hs:s=t.texts[(n+(i:Int)).toNat]
  ·rw [if_pos (by rw [hs]),if_pos (by rw [hs];simp)]
  ·rw [if_neg (by simpa using hs)]
   simp only [List.mem_append,List.mem_singleton,hs,or_false]
 ·have hin:(i:Int)=(l:Int)-n:=by omega
  have htk:(t.texts.drop n.toNat).take i=t.texts.drop n.toNat:=List.take_of_length_le (by rw [List.length_drop];omega)
  rw [htk] at hg1
  refine ⟨_,rfl,_,_,_,by rw [add_none];exact hB1.cell 1,⟨by omega,by omega⟩,_,rfl,by rw [add_none];exact hB1.wr (by simp),?_⟩
  rw [add_none]
  have hfb:Fr [b] H1 (setH H1 ⟨b,1,none⟩ (.slice a n.toNat c)):=Fr.set (by simp)
  refine h _ ⟨a,n.toNat,c,F',m,es',rfl,h1,h2,h3,hB1.set 1 _,?_,hM1.fr hfb (by simpa using Ne.symm h2),fun p hp=>ho p (hsub.subset hp),fun s=>?_,?_,hnd.sublist (hsub.map _)⟩ ((hf.mono fun x hx=>by simp only [List.mem_singleton] at hx;simp [hx]).trans (hfb.mono fun x hx=>by simp only [List.mem_singleton] at hx;simp [hx]))
  ·have h4:=hO1.fr hfb (fun x hx hm=>h1 (by simp only [List.mem_singleton] at hm;rw [←hm];exact hx))
   refine ⟨by simp [strsV];omega,by omega,?_⟩
   rcases h4.2.2 with ⟨h6,h7,h8⟩ | ⟨b',cs,h6,h7,h8,h9,h10⟩
   ·exact .inl ⟨h6,h7,h8⟩
   ·refine .inr ⟨b',cs,h6,h7,h8,h9,?_⟩
    have h11:(cs.toList.take (l*1)).take (n.toNat*1)=(strsV t.texts).take (n.toNat*1):=by rw [h10]
    rw [List.take_take] at h11
    have h12:min (n.toNat*1) (l*1)=n.toNat*1:=by omega
    rw [h12] at h11
    rw [h11]
    simp [strsV,List.map_take]
  ·rw [hg1 s,numOf_take hw.nodup,hg s]
   split <;> rfl
  ·exact { hw with len:=by simp;omega,nodup:=hw.nodup.sublist (List.take_sublist _ _),good:=fun s hs=>hw.good s (List.mem_of_mem_take hs) }
end
variable {Q:QT}{H:Heap}
abbrev n_k10:Nat:=10
def k10 (n1:Int) (n2:Int) (Q:QT) (H:Heap):Prop :=
 callS PP 46 #[iV n1,iV n2] (fun v3 H1=>∃ p4 n5,v3=.tuple #[pV p4,iV n5]∧cond (n5 != 0) (Q (.tuple #[pV none,iV n5]) H1) (cS 47 #[iV 4096] (fun v6 H2=>∃ p7 n8,v6=.tuple #[pV p7,iV n8]∧cond (n8 != 0) (Q (.tuple #[pV none,iV n8]) H2) (cS 48 #[] (fun v9 H3=>∃ a10 l10 c10,v9=lV a10 l10 c10∧∃(I11:IT) (μ11:MT),I11 [lV (some (⟨(H2.push (.cells #[pV p4,pV p7] 90)).size,0,none⟩:Addr)) 3 3,iV 0] H3∧∀ w12 H4,I11 w12 H4→∀ _g:Nat→Value,∃ a13 l13 c13 n14,w12=[lV a13 l13 c13,iV n14]∧cond (decide (n14<(l10:Int))) (evS PP (Builtin.append_ #[92,92] 92 #[lV a13 l13 c13,lV (some (A0 H4.size)) 1 1]) (fun v15 H5=>∃ a16 l16 c16,v15=lV a16 l16 c16∧I11 [lV a16 l16 c16,iV (wW (n14+1))] H5∧μ11 [lV a16 l16 c16,iV (wW (n14+1))] H5<μ11 w12 H4) (H4.push (.cells #[iV 12,iV 7] 91))) (evS PP (Builtin.append_ #[92,92] 92 #[lV a13 l13 c13,lV (some (A0 H4.size)) 3 3]) (fun v17 H6=>∃ a18 l18 c18,v17=lV a18 l18 c18∧∃(I19:IT) (μ19:MT),I19 [iV 0] H6∧∀ w20 H7,I19 w20 H7→∀ _g:Nat→Value,∃ n21,w20=[iV n21]∧cond (decide (n21<(l18:Int))) (((0:Int)≤n21∧n21<(l18:Int))∧∃ q22,a18=some q22∧∃ n23:Int,shH (setH (H7.push (.cells #[iV 0,iV 0] 91)) (A0 H7.size) (iV n23)) fun C2=>cellH H7 (q22.add (Int.toNat n21*2))=some (iV n23)∧∃ n24:Int,shH (setH C2 ((A0 H7.size).add 1) (iV n24)) fun C1=>cellH H7 ((q22.add (Int.toNat n21*2)).add 1)=some (iV n24)∧Wr (H7.push (.cells #[iV 0,iV 0] 91)) (A0 H7.size)∧Wr C2 ((A0 H7.size).add 1)∧∃ n25,cellH C1 (A0 H7.size)=some (iV n25)∧∃ n26,cellH C1 ((A0 H7.size).add 1)=some (iV n26)∧cS 20 #[pV p4] (fun v27 H8=>∃ p28,v27=pV p28∧((cellH H8 ((A0 H7.size).add 1)=some (iV n26)∧True)∧((cellH H8 (A0 H7.size)=some (iV n25)∧True)∧True))∧cS 50 #[iV n25] (fun v29 H9=>∃ n30,v29=iV n30∧((cellH H9 ((A0 H7.size).add 1)=some (iV n26)∧True)∧True)∧cS 49 #[pV p28,iV n30,iV n26,iV 0] (fun v31 H10=>∃ n32 n33,v31=.tuple #[iV n32,iV n33]∧True∧cond (n33 != 0) (Q (.tuple #[pV none,iV n33]) H10) (cS 50 #[iV n32] (fun v34 H11=>∃ n35,v34=iV n35∧cS 51 #[pV p4,lV (some (A0 H11.size)) 1 1] (fun v36 H12=>∃ n37,v36=iV n37∧cond (n37 != 0) (Q (.tuple #[pV none,iV n37]) H12) (I19 [iV (wW (n21+1))] H12∧μ19 [iV (wW (n21+1))] H12<μ19 w20 H7)) (H11.push (.cells #[iV n35] 36))) H10)) H9) H8) C1) (cS 52 #[pV (some (A0 H2.size))] (fun v38 H13=>v38=.tuple #[]∧cS 53 #[pV p4,iV 19] (fun v39 H14=>∃ n40,v39=iV n40∧cS 54 #[pV p4,iV (l18:Int)] (fun v41 H15=>∃ n42,v41=iV n42∧Q (.tuple #[pV (some (A0 H2.size)),iV 0]) H15) H14) H13) H7)) (H4.push (.cells #[iV 11,iV 0,iV 11,iV 8,iV 11,iV 14] 91)))) ((H2.push (.cells #[pV p4,pV p7] 90)).push (.cells #[iV 5,iV 0,iV 6,iV 0,iV 7,iV 0] 91)))) H1)) H
theorem k10_ok {n1:Int}{n2:Int} (h:k10 n1 n2 Q H):callS PP 10 #[.int .i64 n1,.int .i64 n2] Q H :=
 callS_of good Tryz.func10 rfl (Ls:=fun | 10=>some [(10,92),(41,3)] | 15=>some [(56,3)] | _=>none) (by kernel_rfl) h
abbrev n_k14:Nat:=14
def k14 (p1:Option Addr) (n2:Int) (Q:QT) (H:Heap):Prop :=
 callS PP 73 #[pV p1] (fun v3 H1=>shH (setH (H1.push (.cells #[pV none] 131)) (A0 H1.size) (pV p1)) fun C1=>∃ b4,v3=.bool b4∧cond (!b4) (Q (.tuple #[iV 0,iV 2]) H1) (Wr (H1.push (.cells #[pV none] 131)) (A0 H1.size)∧∃ p5,cellH C1 (A0 H1.size)=some (pV p5)∧cS 74 #[.agg #[pV p5],iV 0] (fun v6 H2=>∃ n7,v6=iV n7∧cond (decide (n2<1)) (Q (.tuple #[iV 0,iV 130]) H2) (∃ p8,cellH H2 (A0 H1.size)=some (pV p8)∧cS 75 #[.agg #[pV p8],iV n7] (fun v9 H3=>∃ n10,v9=iV n10∧cond (decide (n2 > n10)) (Q (.tuple #[iV 0,iV 130]) H3) (∃ p11,cellH H3 (A0 H1.size)=some (pV p11)∧cS 76 #[.agg #[pV p11],iV n7,iV (wW (n2-1))] (fun v12 H4=>∃ n13,v12=iV n13∧Q (.tuple #[iV n13,iV 0]) H4) H3)) H2)) C1)) H
theorem k14_ok {p1:Option Addr}{n2:Int} (h:k14 p1 n2 Q H):callS PP 14 #[.pointer p1,.int .i64 n2] Q H :=
 okF Tryz.func14 rfl h
abbrev n_k17:Nat:=17
def k17 (p1:Option Addr) (s2:ByteArray) (s3:ByteArray) (a4:Option Addr) (l4:Nat) (c4:Nat) (Q:QT) (H:Heap):Prop :=
 callS PP 73 #[pV p1] (fun v5 H1=>∃ b6,v5=.bool b6∧cond (!b6) (Q (.tuple #[iV 0,iV 2]) H1) (cS 87 #[pV p1,sV s2,sV s3,lV a4 l4 c4] (fun v7 H2=>∃ n8 n9,v7=.tuple #[iV n8,iV n9]∧cond (n9 != 0) (Q (.tuple #[iV 0,iV n9]) H2) (cS 88 #[pV p1] (fun v10 H3=>∃ p11,v10=pV p11∧cS 89 #[pV p11,sV s2,iV n8,lV a4 l4 c4] (fun v12 H4=>∃ n13 n14,v12=.tuple #[iV n13,iV n14]∧cS 90 #[pV p11,iV n14] (fun v15 H5=>∃ n16,v15=iV n16∧cond (n16 != 0) (Q (.tuple #[iV 0,iV n16]) H5) (Q (.tuple #[iV n13,iV 0]) H5)) H4) H3) H2)) H1)) H
theorem k17_ok {p1:Option Addr}{s2:ByteArray}{s3:ByteArray}{a4:Option Addr}{l4:Nat}{c4:Nat} (h:k17 p1 s2 s3 a4 l4 c4 Q H):callS PP 17 #[.pointer p1,.string s2,.string s3,.slice a4 l4 c4] Q H :=
 okF Tryz.func17 rfl h
abbrev n_k18:Nat:=18
def k18 (p1:Option Addr) (s2:ByteArray) (Q:QT) (H:Heap):Prop :=
 callS PP 73 #[pV p1] (fun v3 H1=>∃ b4,v3=.bool b4∧cond (!b4) (Q (iV 2) H1) (cS 91 #[sV s2,.int .u8 65,.int .u8 90] (fun v5 H2=>∃ b6,v5=.bool b6∧cond (!b6) (Q (iV 133) H2) (cS 92 #[pV p1,sV s2] (fun v7 H3=>∃ b8,v7=.bool b8∧cond b8 (Q (iV 131) H3) (cS 71 #[pV p1] (fun v9 H4=>∃ a10 l10 c10,v9=lV a10 l10 c10∧cond (decide ((l10:Int) ≥ 256)) (Q (iV 138) H4) (cS 88 #[pV p1] (fun v11 H5=>∃ p12,v11=pV p12∧cS 93 #[pV p12,sV s2] (fun v13 H6=>∃ n14 n15,v13=.tuple #[iV n14,iV n15]∧cond (n15 == 0) (∃ q16,p12=some q16∧∃ p17,cellH H6 q16=some (pV p17)∧∃ q18,p12=some q18∧∃ p19,cellH H6 q18=some (pV p19)∧cS 74 #[.agg #[pV p19],iV 1] (fun v20 H7=>∃ n21,v20=iV n21∧((cellH H7 q16=some (pV p17)∧True)∧True)∧cS 95 #[.agg #[pV p17],iV n21] (fun v22 H8=>∃ a23 l23 c23,v22=lV a23 l23 c23∧True∧cS 50 #[iV 1] (fun v24 H9=>∃ n25,v24=iV n25∧True∧True∧evS PP (Builtin.append_ #[108,108] 108 #[lV a23 l23 c23,lV (some (A0 H9.size)) 2 2]) (fun v26 H10=>∃ a27 l27 c27,v26=lV a27 l27 c27∧True∧cS 94 #[pV p12,lV a27 l27 c27] (fun v28 H11=>∃ n29 n30,v28=.tuple #[iV n29,iV n30]∧True∧cond (n30 == 0) (∃ q31,p12=some q31∧∃ p32,cellH H11 q31=some (pV p32)∧∃ q33,p32=some q33∧∃ p34,cellH H11 q33=some (pV p34)∧cS 96 #[pV p34,iV 1,iV n29] (fun v35 H12=>∃ n36,v35=iV n36∧cS 90 #[pV p12,iV n30] (fun v37 H13=>∃ n38,v37=iV n38∧Q (iV n38) H13) H12) H11) (cS 90 #[pV p12,iV n30] (fun v39 H14=>∃ n40,v39=iV n40∧Q (iV n40) H14) H11)) H10) (H9.push (.cells #[iV n14,iV n25] 36))) H8) H7) H6) (cS 90 #[pV p12,iV n15] (fun v41 H15=>∃ n42,v41=iV n42∧Q (iV n42) H15) H6)) H5) H4)) H3)) H2)) H1)) H
theorem k18_ok {p1:Option Addr}{s2:ByteArray} (h:k18 p1 s2 Q H):callS PP 18 #[.pointer p1,.string s2] Q H :=
 okF Tryz.func18 rfl h
abbrev n_k19:Nat:=19
def k19 (p1:Option Addr) (Q:QT) (H:Heap):Prop :=
 cond (Option.isNone p1) (Q (pV none) H) (∃ q2,p1=some q2∧∃ p3,cellH H q2=some (pV p3)∧Q (pV p3) H)
theorem k19_ok {p1:Option Addr} (h:k19 p1 Q H):callS PP 19 #[.pointer p1] Q H :=
 okF Tryz.func19 rfl h
abbrev n_k26:Nat:=26
def k26 (p1:Option Addr) (Q:QT) (H:Heap):Prop :=
 cond (Option.isNone p1) (Q (pV none) H) (∃ q2,p1=some q2∧∃ p3,cellH H (q2.add 1)=some (pV p3)∧Q (pV p3) H)
theorem k26_ok {p1:Option Addr} (h:k26 p1 Q H):callS PP 26 #[.pointer p1] Q H :=
 okF Tryz.func26 rfl h
abbrev n_k52:Nat:=52
def k52 (p1:Option Addr) (Q:QT) (H:Heap):Prop :=
 ∃ q2,p1=some q2∧∃ p3,cellH H q2=some (pV p3)∧cS 20 #[pV p3] (fun v4 H1=>∃ p5,v4=pV p5∧cS 48 #[] (fun v6 H2=>∃ a7 l7 c7,v6=lV a7 l7 c7∧∃(I8:IT) (μ8:MT),I8 [iV 0] H2∧∀ w9 H3,I8 w9 H3→∀ _g:Nat→Value,∃ n10,w9=[iV n10]∧cond (decide (n10<(l7:Int))) (((0:Int)≤n10∧n10<(l7:Int))∧∃ q11,a7=some q11∧∃ s12,cellH H3 (q11.add (Int.toNat n10*1))=some (sV s12)∧∃ q13,p1=some q13∧∃ p14,cellH H3 (q13.add 1)=some (pV p14)∧cS 131 #[pV p14,sV s12] (fun v15 H4=>∃ n16 n17,v15=.tuple #[iV n16,iV n17]∧cS 143 #[iV n16] (fun v18 H5=>∃ n19 n20,v18=.tuple #[iV n19,iV n20]∧cS 50 #[iV 4] (fun v21 H6=>∃ n22,v21=iV n22∧∃ J23:IT,(cond (n10 == 0) (cS 50 #[iV 1] (fun v24 H7=>∃ n25,v24=iV n25∧J23 [iV n25] H7) H6) (J23 [iV n22] H6))∧∀ w26 H8,J23 w26 H8→∀ _g:Nat→Value,∃ n27,w26=[iV n27]∧cS 50 #[iV 18] (fun v28 H9=>∃ n29,v28=iV n29∧cS 50 #[iV 18] (fun v30 H10=>∃ n31,v30=iV n31∧cS 50 #[iV 18] (fun v32 H11=>∃ n33,v32=iV n33∧cS 166 #[iV 0] (fun v34 H12=>∃ n35,v34=iV n35∧cS 166 #[iV (wW (n10+1))] (fun v36 H13=>∃ n37,v36=iV n37∧∃(I38:IT) (μ38:MT),I38 [iV 0] (H13.push (.cells #[iV n19,iV n27,iV n29,iV n31,iV n33,iV n35,iV n37] 36))∧∀ w39 H14,I38 w39 H14→∀ _g:Nat→Value,∃ n40,w39=[iV n40]∧cond (decide (n40<(7:Int))) (((0:Int)≤n40∧n40<(7:Int))∧∃ q41,(some (A0 H13.size))=some q41∧∃ n42,cellH H14 (q41.add (Int.toNat n40*1))=some (iV n42)∧cS 140 #[pV p5,iV (wW (4+n10)),iV n40,iV n42] (fun v43 H15=>∃ n44,v43=iV n44∧I38 [iV (wW (n40+1))] H15∧μ38 [iV (wW (n40+1))] H15<μ38 w39 H14) H14) (cS 50 #[iV (wW (4+n10))] (fun v45 H16=>∃ n46,v45=iV n46∧cS 140 #[pV p5,iV 20,iV n10,iV n46] (fun v47 H17=>∃ n48,v47=iV n48∧I8 [iV (wW (n10+1))] H17∧μ8 [iV (wW (n10+1))] H17<μ8 w9 H3) H16) H14)) H12) H11) H10) H9) H8) H5) H4) H3) (∃(I49:IT) (μ49:MT),I49 [iV 0] (H3.push (.cells #[iV 20,iV 18,iV 18,iV 18,iV 1,iV 2,iV 3] 3))∧∀ w50 H18,I49 w50 H18→∀ _g:Nat→Value,∃ n51,w50=[iV n51]∧cond (decide (n51<(7:Int))) (((0:Int)≤n51∧n51<(7:Int))∧∃ q52,(some (A0 H3.size))=some q52∧∃ n53,cellH H18 (q52.add (Int.toNat n51*1))=some (iV n53)∧cS 50 #[iV n53] (fun v54 H19=>∃ n55,v54=iV n55∧cS 140 #[pV p5,iV 19,iV n51,iV n55] (fun v56 H20=>∃ n57,v56=iV n57∧I49 [iV (wW (n51+1))] H20∧μ49 [iV (wW (n51+1))] H20<μ49 w50 H18) H19) H18) (Q (.tuple #[]) H18))) H1) H
theorem k52_ok {p1:Option Addr} (h:k52 p1 Q H):callS PP 52 #[.pointer p1] Q H :=
 callS_of good Tryz.func52 rfl (Ls:=fun | 2=>some [(21,3)] | 1009=>some [(9,36)] | 10=>some [(55,3)] | 17=>some [(76,3)] | _=>none) (by kernel_rfl) h
abbrev n_k66:Nat:=66
def k66 (p1:Option Addr) (s2:ByteArray) (Q:QT) (H:Heap):Prop :=
 callS PP 73 #[pV p1] (fun v3 H1=>shH (setH (H1.push (.cells #[pV none] 131)) (A0 H1.size) (pV p1)) fun C1=>∃ b4,v3=.bool b4∧cond (!b4) (Q (.tuple #[iV 0,iV 2]) H1) (Wr (H1.push (.cells #[pV none] 131)) (A0 H1.size)∧∃ p5,cellH C1 (A0 H1.size)=some (pV p5)∧cS 74 #[.agg #[pV p5],iV 0] (fun v6 H2=>∃ n7,v6=iV n7∧∃ p8,cellH H2 (A0 H1.size)=some (pV p8)∧cS 75 #[.agg #[pV p8],iV n7] (fun v9 H3=>∃ n10,v9=iV n10∧∃(I11:IT) (μ11:MT),I11 [iV 0] H3∧∀ w12 H4,I11 w12 H4→∀ _g:Nat→Value,∃ n13,w12=[iV n13]∧cond (decide (n13<n10)) (∃ p14,cellH H4 (A0 H1.size)=some (pV p14)∧cS 76 #[.agg #[pV p14],iV n7,iV n13] (fun v15 H5=>∃ n16,v15=iV n16∧∃ p17,cellH H5 (A0 H1.size)=some (pV p17)∧cS 176 #[.agg #[pV p17],iV n16,iV 0] (fun v18 H6=>∃ s19,v18=sV s19∧cond (strEq s19 s2) (Q (.tuple #[iV n16,iV 0]) H6) (I11 [iV (wW (n13+1))] H6∧μ11 [iV (wW (n13+1))] H6<μ11 w12 H4)) H5) H4) (Q (.tuple #[iV 0,iV 130]) H4)) H2) C1)) H
theorem k66_ok {p1:Option Addr}{s2:ByteArray} (h:k66 p1 s2 Q H):callS PP 66 #[.pointer p1,.string s2] Q H :=
 callS_of good Tryz.func66 rfl (Ls:=fun | 6=>some [(20,3)] | _=>none) (by kernel_rfl) h
abbrev n_k68:Nat:=68
def k68 (p1:Option Addr) (n2:Int) (Q:QT) (H:Heap):Prop :=
 callS PP 73 #[pV p1] (fun v3 H1=>shH (setH (H1.push (.cells #[pV none] 131)) (A0 H1.size) (pV p1)) fun C1=>∃ b4,v3=.bool b4∧cond (!b4) (Q (.tuple #[iV 0,iV 2]) H1) (Wr (H1.push (.cells #[pV none] 131)) (A0 H1.size)∧∃ p5,cellH C1 (A0 H1.size)=some (pV p5)∧cS 74 #[.agg #[pV p5],iV 1] (fun v6 H2=>∃ n7,v6=iV n7∧cond (decide (n2<0)) (Q (.tuple #[iV 0,iV 1]) H2) (∃ p8,cellH H2 (A0 H1.size)=some (pV p8)∧cS 75 #[.agg #[pV p8],iV n7] (fun v9 H3=>∃ n10,v9=iV n10∧cond (decide (n2 ≥ (wW (Int.tdiv n10 2)))) (Q (.tuple #[iV 0,iV 1]) H3) (∃ p11,cellH H3 (A0 H1.size)=some (pV p11)∧cS 181 #[.agg #[pV p11],iV n7,iV (wW ((wW (2*n2))+1))] (fun v12 H4=>∃ n13,v12=iV n13∧Q (.tuple #[iV n13,iV 0]) H4) H3)) H2)) C1)) H
theorem k68_ok {p1:Option Addr}{n2:Int} (h:k68 p1 n2 Q H):callS PP 68 #[.pointer p1,.int .i64 n2] Q H :=
 okF Tryz.func68 rfl h
abbrev n_k69:Nat:=69
def k69 (p1:Option Addr) (n2:Int) (n3:Int) (Q:QT) (H:Heap):Prop :=
 callS PP 68 #[pV p1,iV n2] (fun v4 H1=>∃ n5 n6,v4=.tuple #[iV n5,iV n6]∧cond (n6 != 0) (Q (iV n6) H1) (cS 165 #[iV n3] (fun v7 H2=>∃ n8,v7=iV n8∧cond (n8 == 0) (Q (iV 10) H2) (∃ q9,p1=some q9∧∃ p10,cellH H2 q9=some (pV p10)∧cS 20 #[pV p10] (fun v11 H3=>∃ p12,v11=pV p12∧cS 74 #[.agg #[pV p1],iV 1] (fun v13 H4=>∃ n14,v13=iV n14∧cS 140 #[pV p12,iV n14,iV (wW ((wW (2*n2))+1)),iV n3] (fun v15 H5=>∃ n16,v15=iV n16∧Q (iV n16) H5) H4) H3) H2)) H1)) H
theorem k69_ok {p1:Option Addr}{n2:Int}{n3:Int} (h:k69 p1 n2 n3 Q H):callS PP 69 #[.pointer p1,.int .i64 n2,.int .i64 n3] Q H :=
 okF Tryz.func69 rfl h
abbrev n_k70:Nat:=70
def k70 (p1:Option Addr) (Q:QT) (H:Heap):Prop :=
 callS PP 73 #[pV p1] (fun v2 H1=>shH (setH (H1.push (.cells #[pV none] 131)) (A0 H1.size) (pV p1)) fun C1=>∃ b3,v2=.bool b3∧cond (!b3) (Q (iV 0) H1) (Wr (H1.push (.cells #[pV none] 131)) (A0 H1.size)∧∃ p4,cellH C1 (A0 H1.size)=some (pV p4)∧∃ p5,cellH C1 (A0 H1.size)=some (pV p5)∧cS 74 #[.agg #[pV p5],iV 0] (fun v6 H2=>∃ n7,v6=iV n7∧((cellH H2 (A0 H1.size)=some (pV p4)∧True)∧True)∧cS 75 #[.agg #[pV p4],iV n7] (fun v8 H3=>∃ n9,v8=iV n9∧True∧Q (iV n9) H3) H2) C1)) H
theorem k70_ok {p1:Option Addr} (h:k70 p1 Q H):callS PP 70 #[.pointer p1] Q H :=
 okF Tryz.func70 rfl h
abbrev n_k71:Nat:=71
def k71 (p1:Option Addr) (Q:QT) (H:Heap):Prop :=
 callS PP 73 #[pV p1] (fun v2 H1=>shH (setH (H1.push (.cells #[pV none] 131)) (A0 H1.size) (pV p1)) fun C1=>∃ b3,v2=.bool b3∧cond (!b3) (Q (lV none 0 0) H1) (Wr (H1.push (.cells #[pV none] 131)) (A0 H1.size)∧∃ p4,cellH C1 (A0 H1.size)=some (pV p4)∧cS 74 #[.agg #[pV p4],iV 1] (fun v5 H2=>∃ n6,v5=iV n6∧∃ p7,cellH H2 (A0 H1.size)=some (pV p7)∧cS 75 #[.agg #[pV p7],iV n6] (fun v8 H3=>∃ n9,v8=iV n9∧∃(I10:IT) (μ10:MT),I10 [lV none 0 0,iV 0] H3∧∀ w11 H4,I10 w11 H4→∀ _g:Nat→Value,∃ a12 l12 c12 n13,w11=[lV a12 l12 c12,iV n13]∧cond (decide (n13<(wW (Int.tdiv n9 2)))) (∃ p14,cellH H4 (A0 H1.size)=some (pV p14)∧cS 176 #[.agg #[pV p14],iV n6,iV (wW (2*n13))] (fun v15 H5=>∃ s16,v15=sV s16∧evS PP (Builtin.append_ #[37,37] 37 #[lV a12 l12 c12,lV (some (A0 H5.size)) 1 1]) (fun v17 H6=>∃ a18 l18 c18,v17=lV a18 l18 c18∧I10 [lV a18 l18 c18,iV (wW (n13+1))] H6∧μ10 [lV a18 l18 c18,iV (wW (n13+1))] H6<μ10 w11 H4) (H5.push (.cells #[sV s16] 9))) H4) (Q (lV a12 l12 c12) H4)) H2) C1)) H
theorem k71_ok {p1:Option Addr} (h:k71 p1 Q H):callS PP 71 #[.pointer p1] Q H :=
 callS_of good Tryz.func71 rfl (Ls:=fun | 7=>some [(5,37),(18,3)] | _=>none) (by kernel_rfl) h
abbrev n_k73:Nat:=73
def k73 (p1:Option Addr) (Q:QT) (H:Heap):Prop :=
 cond (!(Option.isNone p1)) (∃ q2,p1=some q2∧∃ p3,cellH H q2=some (pV p3)∧Q (.bool (!(Option.isNone p3))) H) (Q (.bool false) H)
theorem k73_ok {p1:Option Addr} (h:k73 p1 Q H):callS PP 73 #[.pointer p1] Q H :=
 okF Tryz.func73 rfl h
abbrev n_k74:Nat:=74
def k74 (p1:Option Addr) (n2:Int) (Q:QT) (H:Heap):Prop :=
 ∃ p3,cellH (H.push (.cells #[pV p1] 131)) (A0 H.size)=some (pV p3)∧cS 76 #[.agg #[pV p3],iV 19,iV n2] (fun v4 H1=>∃ n5,v4=iV n5∧Q (iV n5) H1) (H.push (.cells #[pV p1] 131))
theorem k74_ok {p1:Option Addr}{n2:Int} (h:k74 p1 n2 Q H):callS PP 74 #[.agg #[.pointer p1],.int .i64 n2] Q H :=
 okF Tryz.func74 rfl h
abbrev n_k75:Nat:=75
def k75 (p1:Option Addr) (n2:Int) (Q:QT) (H:Heap):Prop :=
 ∃ p3,cellH (H.push (.cells #[pV p1] 131)) (A0 H.size)=some (pV p3)∧∃ q4,p3=some q4∧∃ p5,cellH (H.push (.cells #[pV p1] 131)) q4=some (pV p5)∧cS 20 #[pV p5] (fun v6 H1=>∃ p7,v6=pV p7∧cS 182 #[pV p7,iV n2] (fun v8 H2=>∃ n9 n10 n11,v8=.tuple #[iV n9,iV n10,iV n11]∧Q (iV n9) H2) H1) (H.push (.cells #[pV p1] 131))
theorem k75_ok {p1:Option Addr}{n2:Int} (h:k75 p1 n2 Q H):callS PP 75 #[.agg #[.pointer p1],.int .i64 n2] Q H :=
 okF Tryz.func75 rfl h
abbrev n_k76:Nat:=76
def k76 (p1:Option Addr) (n2:Int) (n3:Int) (Q:QT) (H:Heap):Prop :=
 ∃ p4,cellH (H.push (.cells #[pV p1] 131)) (A0 H.size)=some (pV p4)∧cS 181 #[.agg #[pV p4],iV n2,iV n3] (fun v5 H1=>∃ n6,v5=iV n6∧cS 183 #[iV n6] (fun v7 H2=>∃ n8 n9,v7=.tuple #[iV n8,iV n9]∧Q (iV n8) H2) H1) (H.push (.cells #[pV p1] 131))
theorem k76_ok {p1:Option Addr}{n2:Int}{n3:Int} (h:k76 p1 n2 n3 Q H):callS PP 76 #[.agg #[.pointer p1],.int .i64 n2,.int .i64 n3] Q H :=
 okF Tryz.func76 rfl h
abbrev n_k87:Nat:=87
def k87 (p1:Option Addr) (s2:ByteArray) (s3:ByteArray) (a4:Option Addr) (l4:Nat) (c4:Nat) (Q:QT) (H:Heap):Prop :=
 callS PP 91 #[sV s2,.int .u8 65,.int .u8 90] (fun v5 H1=>∃ b6,v5=.bool b6∧cond (!b6) (Q (.tuple #[iV 0,iV 133]) H1) (cS 92 #[pV p1,sV s2] (fun v7 H2=>∃ b8,v7=.bool b8∧cond b8 (Q (.tuple #[iV 0,iV 131]) H2) (cS 66 #[pV p1,sV s3] (fun v9 H3=>shH (setH (H3.push (.cells #[pV none] 131)) (A0 H3.size) (pV p1)) fun C1=>∃ n10 n11,v9=.tuple #[iV n10,iV n11]∧cond (n11 != 0) (Q (.tuple #[iV 0,iV n11]) H3) (Wr (H3.push (.cells #[pV none] 131)) (A0 H3.size)∧∃ J12:IT,(∃ p13,cellH C1 (A0 H3.size)=some (pV p13)∧cS 179 #[.agg #[pV p13],iV n10,iV 6] (fun v14 H4=>∃ n15,v14=iV n15∧cond (decide (n15 > 1)) (cond (decide (n15≤14)) (Q (.tuple #[iV 0,iV 132]) H4) (J12 [] H4)) (J12 [] H4)) C1)∧∀ w16 H5,J12 w16 H5→∀ _g:Nat→Value,w16=[]∧∃ p17,cellH H5 (A0 H3.size)=some (pV p17)∧cS 202 #[.agg #[pV p17],iV n10] (fun v18 H6=>∃ a19 l19 c19,v18=lV a19 l19 c19∧∃(I20:IT) (μ20:MT),I20 [iV 0] H6∧∀ w21 H7,I20 w21 H7→∀ _g:Nat→Value,∃ n22,w21=[iV n22]∧cond (decide (n22<(l4:Int))) (((0:Int)≤n22∧n22<(l4:Int))∧∃ q23,a4=some q23∧∃ s24,cellH H7 (q23.add (Int.toNat n22*1))=some (sV s24)∧cS 203 #[sV s24] (fun v25 H8=>∃ b26,v25=.bool b26∧cond (!b26) (Q (.tuple #[iV 0,iV 133]) H8) (((0:Int)≤n22∧n22≤(c4:Int))∧cS 204 #[lV a4 (Int.toNat n22) c4,sV s24] (fun v27 H9=>∃ b28,v27=.bool b28∧cond b28 (Q (.tuple #[iV 0,iV 134]) H9) (cS 204 #[lV a19 l19 c19,sV s24] (fun v29 H10=>∃ b30,v29=.bool b30∧cond b30 (Q (.tuple #[iV 0,iV 135]) H10) (I20 [iV (wW (n22+1))] H10∧μ20 [iV (wW (n22+1))] H10<μ20 w21 H7)) H9)) H8)) H7) (cond (decide ((wW ((l19:Int)+(l4:Int))) > 32)) (Q (.tuple #[iV 0,iV 137]) H7) (cS 70 #[pV p1] (fun v31 H11=>∃ n32,v31=iV n32∧cond (decide (n32 ≥ 256)) (Q (.tuple #[iV 0,iV 138]) H11) (Q (.tuple #[iV n10,iV 0]) H11)) H7))) H5)) H2)) H1)) H
theorem k87_ok {p1:Option Addr}{s2:ByteArray}{s3:ByteArray}{a4:Option Addr}{l4:Nat}{c4:Nat} (h:k87 p1 s2 s3 a4 l4 c4 Q H):callS PP 87 #[.pointer p1,.string s2,.string s3,.slice a4 l4 c4] Q H :=
 callS_of good Tryz.func87 rfl (Ls:=fun | 1012=>some [] | 14=>some [(48,3)] | _=>none) (by kernel_rfl) h
abbrev n_k88:Nat:=88
def k88 (p1:Option Addr) (Q:QT) (H:Heap):Prop :=
 ∃ q2,p1=some q2∧∃ p3,cellH H (q2.add 1)=some (pV p3)∧∃ q4,p1=some q4∧∃ p5,cellH H q4=some (pV p5)∧∃ q6,p1=some q6∧∃ p7,cellH H q6=some (pV p7)∧cS 205 #[pV p3] (fun v8 H1=>∃ n9,v8=iV n9∧((cellH H1 q6=some (pV p7)∧True)∧((cellH H1 q4=some (pV p5)∧True)∧True))∧cS 20 #[pV p5] (fun v10 H2=>∃ p11,v10=pV p11∧((cellH H2 q6=some (pV p7)∧True)∧True)∧cS 81 #[pV p11] (fun v12 H3=>∃ n13,v12=iV n13∧((cellH H3 q6=some (pV p7)∧True)∧True)∧cS 83 #[pV p7] (fun v14 H4=>∃ a15 l15 c15,v14=lV a15 l15 c15∧True∧True∧Q (pV (some (A0 H4.size))) (H4.push (.cells #[pV p1,iV n9,iV n13,iV (l15:Int)] 146))) H3) H2) H1) H
theorem k88_ok {p1:Option Addr} (h:k88 p1 Q H):callS PP 88 #[.pointer p1] Q H :=
 okF Tryz.func88 rfl h
abbrev n_k89:Nat:=89
def k89 (p1:Option Addr) (s2:ByteArray) (n3:Int) (a4:Option Addr) (l4:Nat) (_c4:Nat) (Q:QT) (H:Heap):Prop :=
 callS PP 93 #[pV p1,sV s2] (fun v5 H1=>∃ n6 n7,v5=.tuple #[iV n6,iV n7]∧cond (n7 != 0) (Q (.tuple #[iV 0,iV n7]) H1) (∃(I8:IT) (μ8:MT),I8 [lV none 0 0,iV 0] H1∧∀ w9 H2,I8 w9 H2→∀ _g:Nat→Value,∃ a10 l10 c10 n11,w9=[lV a10 l10 c10,iV n11]∧cond (decide (n11<(l4:Int))) (((0:Int)≤n11∧n11<(l4:Int))∧∃ q12,a4=some q12∧∃ s13,cellH H2 (q12.add (Int.toNat n11*1))=some (sV s13)∧cS 93 #[pV p1,sV s13] (fun v14 H3=>∃ n15 n16,v14=.tuple #[iV n15,iV n16]∧cond (n16 != 0) (Q (.tuple #[iV 0,iV n16]) H3) (evS PP (Builtin.append_ #[108,108] 108 #[lV a10 l10 c10,lV (some (A0 H3.size)) 1 1]) (fun v17 H4=>∃ a18 l18 c18,v17=lV a18 l18 c18∧I8 [lV a18 l18 c18,iV (wW (n11+1))] H4∧μ8 [lV a18 l18 c18,iV (wW (n11+1))] H4<μ8 w9 H2) (H3.push (.cells #[iV n15] 36)))) H2) (cS 94 #[pV p1,lV a10 l10 c10] (fun v19 H5=>∃ n20 n21,v19=.tuple #[iV n20,iV n21]∧cond (n21 != 0) (Q (.tuple #[iV 0,iV n21]) H5) (∃ q22,p1=some q22∧∃ p23,cellH H5 q22=some (pV p23)∧cS 70 #[pV p23] (fun v24 H6=>∃ n25,v24=iV n25∧cS 50 #[iV 18] (fun v26 H7=>∃ n27,v26=iV n27∧cS 50 #[iV n3] (fun v28 H8=>∃ n29,v28=iV n29∧cS 166 #[iV 0] (fun v30 H9=>∃ n31,v30=iV n31∧cS 166 #[iV (wW (n25+1))] (fun v32 H10=>∃ n33,v32=iV n33∧cS 206 #[pV p1,iV 12,lV (some (A0 H10.size)) 7 7] (fun v34 H11=>∃ n35 n36,v34=.tuple #[iV n35,iV n36]∧cond (n36 != 0) (Q (.tuple #[iV 0,iV n36]) H11) (∃ J37:IT,(∃ q38,p1=some q38∧∃ p39,cellH H11 q38=some (pV p39)∧∃ q40,p1=some q40∧∃ p41,cellH H11 q40=some (pV p41)∧(cS 74 #[.agg #[pV p41],iV 0] (fun v42 H12=>∃ n43,v42=iV n43∧((cellH H12 q38=some (pV p39)∧True)∧True)∧(cS 95 #[.agg #[pV p39],iV n43] (fun v44 H13=>∃ a45 l45 c45,v44=lV a45 l45 c45∧True∧True∧evS PP (Builtin.append_ #[108,108] 108 #[lV a45 l45 c45,lV (some (A0 H13.size)) 1 1]) (fun v46 H14=>∃ a47 l47 c47,v46=lV a47 l47 c47∧True∧cS 94 #[pV p1,lV a47 l47 c47] (fun v48 H15=>∃ n49 n50,v48=.tuple #[iV n49,iV n50]∧True∧J37 [iV n50,iV n49] H15) H14) (H13.push (.cells #[iV n35] 36))) H12)∧(((cellH (H12.push (.cells #[iV n35] 36)) q38=some (pV p39)∧True)∧True)∧cS 95 #[.agg #[pV p39],iV n43] (fun v51 H16=>∃ a52 l52 c52,v51=lV a52 l52 c52∧True∧evS PP (Builtin.append_ #[108,108] 108 #[lV a52 l52 c52,lV (some (A0 H12.size)) 1 1]) (fun v53 H17=>∃ a54 l54 c54,v53=lV a54 l54 c54∧True∧cS 94 #[pV p1,lV a54 l54 c54] (fun v55 H18=>∃ n56 n57,v55=.tuple #[iV n56,iV n57]∧True∧J37 [iV n57,iV n56] H18) H17) H16) (H12.push (.cells #[iV n35] 36)))) H11)∧(((cellH (H11.push (.cells #[iV n35] 36)) q40=some (pV p41)∧True)∧((cellH (H11.push (.cells #[iV n35] 36)) q38=some (pV p39)∧True)∧True))∧cS 74 #[.agg #[pV p41],iV 0] (fun v58 H19=>∃ n59,v58=iV n59∧((cellH H19 q38=some (pV p39)∧True)∧True)∧cS 95 #[.agg #[pV p39],iV n59] (fun v60 H20=>∃ a61 l61 c61,v60=lV a61 l61 c61∧True∧evS PP (Builtin.append_ #[108,108] 108 #[lV a61 l61 c61,lV (some (A0 H11.size)) 1 1]) (fun v62 H21=>∃ a63 l63 c63,v62=lV a63 l63 c63∧True∧cS 94 #[pV p1,lV a63 l63 c63] (fun v64 H22=>∃ n65 n66,v64=.tuple #[iV n65,iV n66]∧True∧J37 [iV n66,iV n65] H22) H21) H20) H19) (H11.push (.cells #[iV n35] 36))))∧∀ w67 H23,J37 w67 H23→∀ _g:Nat→Value,∃ n68 n69,w67=[iV n68,iV n69]∧cond (n68 != 0) (Q (.tuple #[iV 0,iV n68]) H23) (∃ q70,p1=some q70∧∃ p71,cellH H23 q70=some (pV p71)∧∃ q72,p71=some q72∧∃ p73,cellH H23 q72=some (pV p73)∧cS 96 #[pV p73,iV 0,iV n69] (fun v74 H24=>∃ n75,v74=iV n75∧cS 183 #[iV n35] (fun v76 H25=>∃ n77 n78,v76=.tuple #[iV n77,iV n78]∧Q (.tuple #[iV n77,iV n78]) H25) H24) H23))) (H10.push (.cells #[iV n6,iV n29,iV n20,iV n27,iV n27,iV n31,iV n33] 36))) H9) H8) H7) H6) H5)) H2))) H
theorem k89_ok {p1:Option Addr}{s2:ByteArray}{n3:Int}{a4:Option Addr}{l4:Nat}{c4:Nat} (h:k89 p1 s2 n3 a4 l4 c4 Q H):callS PP 89 #[.pointer p1,.string s2,.int .i64 n3,.slice a4 l4 c4] Q H :=
 callS_of good Tryz.func89 rfl (Ls:=fun | 6=>some [(12,108),(33,3)] | 1022=>some [(11,23),(21,36)] | _=>none) (by kernel_rfl) h
abbrev n_k90:Nat:=90
def k90 (p1:Option Addr) (n2:Int) (Q:QT) (H:Heap):Prop :=
 ∃ q3,p1=some q3∧∃ p4,cellH H q3=some (pV p4)∧∃ q5,p4=some q5∧∃ p6,cellH H q5=some (pV p6)∧∃ q7,p1=some q7∧∃ n8,cellH H (q7.add 3)=some (iV n8)∧cS 83 #[pV p6] (fun v9 H1=>∃ a10 l10 c10,v9=lV a10 l10 c10∧((cellH H1 (q7.add 3)=some (iV n8)∧True)∧True)∧cS 54 #[pV p6,iV (wW ((l10:Int)-n8))] (fun v11 H2=>∃ n12,v11=iV n12∧True∧cond (n2 == 0) (Q (iV n2) H2) (∃ q13,p1=some q13∧∃ p14,cellH H2 q13=some (pV p14)∧∃ q15,p14=some q15∧∃ p16,cellH H2 (q15.add 1)=some (pV p16)∧∃ q17,p1=some q17∧∃ n18,cellH H2 (q17.add 1)=some (iV n18)∧cS 207 #[pV p16,iV n18] (fun v19 H3=>∃ n20,v19=iV n20∧True∧cond (n2 != 24) (∃ q21,p1=some q21∧∃ n22,cellH H3 (q21.add 2)=some (iV n22)∧cS 20 #[pV p6] (fun v23 H4=>∃ p24,v23=pV p24∧((cellH H4 (q21.add 2)=some (iV n22)∧True)∧True)∧cS 21 #[pV p24,iV n22] (fun v25 H5=>∃ n26,v25=iV n26∧True∧Q (iV n2) H5) H4) H3) (Q (iV n2) H3)) H2)) H1) H
theorem k90_ok {p1:Option Addr}{n2:Int} (h:k90 p1 n2 Q H):callS PP 90 #[.pointer p1,.int .i64 n2] Q H :=
 okF Tryz.func90 rfl h
abbrev n_k92:Nat:=92
def k92 (p1:Option Addr) (s2:ByteArray) (Q:QT) (H:Heap):Prop :=
 callS PP 66 #[pV p1,sV s2] (fun v3 H1=>∃ n4 n5,v3=.tuple #[iV n4,iV n5]∧cond (n5 == 0) (Q (.bool true) H1) (cS 71 #[pV p1] (fun v6 H2=>∃ a7 l7 c7,v6=lV a7 l7 c7∧cS 204 #[lV a7 l7 c7,sV s2] (fun v8 H3=>∃ b9,v8=.bool b9∧Q (.bool b9) H3) H2) H1)) H
theorem k92_ok {p1:Option Addr}{s2:ByteArray} (h:k92 p1 s2 Q H):callS PP 92 #[.pointer p1,.string s2] Q H :=
 okF Tryz.func92 rfl h
abbrev n_k93:Nat:=93
def k93 (p1:Option Addr) (s2:ByteArray) (Q:QT) (H:Heap):Prop :=
 ∃ q3,p1=some q3∧∃ p4,cellH H q3=some (pV p4)∧∃ q5,p4=some q5∧∃ p6,cellH H (q5.add 1)=some (pV p6)∧cS 131 #[pV p6,sV s2] (fun v7 H1=>∃ n8 n9,v7=.tuple #[iV n8,iV n9]∧cond (n9 != 0) (Q (.tuple #[iV 0,iV n9]) H1) (cS 143 #[iV n8] (fun v10 H2=>∃ n11 n12,v10=.tuple #[iV n11,iV n12]∧Q (.tuple #[iV n11,iV n12]) H2) H1)) H
theorem k93_ok {p1:Option Addr}{s2:ByteArray} (h:k93 p1 s2 Q H):callS PP 93 #[.pointer p1,.string s2] Q H :=
 okF Tryz.func93 rfl h
abbrev n_k94:Nat:=94
def k94 (p1:Option Addr) (a2:Option Addr) (l2:Nat) (c2:Nat) (Q:QT) (H:Heap):Prop :=
 cond ((l2:Int) == 0) (cS 50 #[iV 18] (fun v3 H1=>∃ n4,v3=iV n4∧Q (.tuple #[iV n4,iV 0]) H1) H) (cS 206 #[pV p1,iV 11,lV a2 l2 c2] (fun v5 H2=>∃ n6 n7,v5=.tuple #[iV n6,iV n7]∧Q (.tuple #[iV n6,iV n7]) H2) H)
theorem k94_ok {p1:Option Addr}{a2:Option Addr}{l2:Nat}{c2:Nat} (h:k94 p1 a2 l2 c2 Q H):callS PP 94 #[.pointer p1,.slice a2 l2 c2] Q H :=
 okF Tryz.func94 rfl h
abbrev n_k95:Nat:=95
def k95 (p1:Option Addr) (n2:Int) (Q:QT) (H:Heap):Prop :=
 ∃ p3,cellH (H.push (.cells #[pV p1] 131)) (A0 H.size)=some (pV p3)∧cS 75 #[.agg #[pV p3],iV n2] (fun v4 H1=>∃ n5,v4=iV n5∧∃(I6:IT) (μ6:MT),I6 [lV none 0 0,iV 0] H1∧∀ w7 H2,I6 w7 H2→∀ _g:Nat→Value,∃ a8 l8 c8 n9,w7=[lV a8 l8 c8,iV n9]∧cond (decide (n9<n5)) (∃ p10,cellH H2 (A0 H.size)=some (pV p10)∧cS 181 #[.agg #[pV p10],iV n2,iV n9] (fun v11 H3=>∃ n12,v11=iV n12∧evS PP (Builtin.append_ #[108,108] 108 #[lV a8 l8 c8,lV (some (A0 H3.size)) 1 1]) (fun v13 H4=>∃ a14 l14 c14,v13=lV a14 l14 c14∧I6 [lV a14 l14 c14,iV (wW (n9+1))] H4∧μ6 [lV a14 l14 c14,iV (wW (n9+1))] H4<μ6 w7 H2) (H3.push (.cells #[iV n12] 36))) H2) (Q (lV a8 l8 c8) H2)) (H.push (.cells #[pV p1] 131))
theorem k95_ok {p1:Option Addr}{n2:Int} (h:k95 p1 n2 Q H):callS PP 95 #[.agg #[.pointer p1],.int .i64 n2] Q H :=
 callS_of good Tryz.func95 rfl (Ls:=fun | 3=>some [(5,108),(10,3)] | _=>none) (by kernel_rfl) h
abbrev n_k176:Nat:=176
def k176 (p1:Option Addr) (n2:Int) (n3:Int) (Q:QT) (H:Heap):Prop :=
 ∃ p4,cellH (H.push (.cells #[pV p1] 131)) (A0 H.size)=some (pV p4)∧cS 181 #[.agg #[pV p4],iV n2,iV n3] (fun v5 H1=>∃ n6,v5=iV n6∧cS 239 #[iV n6] (fun v7 H2=>∃ n8 n9,v7=.tuple #[iV n8,iV n9]∧cond (n9 != 0) (Q (sV (⟨#[]⟩:ByteArray)) H2) (∃ p10,cellH H2 (A0 H.size)=some (pV p10)∧∃ q11,p10=some q11∧∃ p12,cellH H2 (q11.add 1)=some (pV p12)∧cS 240 #[pV p12,iV n8] (fun v13 H3=>∃ s14 n15,v13=.tuple #[sV s14,iV n15]∧Q (sV s14) H3) H2)) H1) (H.push (.cells #[pV p1] 131))
theorem k176_ok {p1:Option Addr}{n2:Int}{n3:Int} (h:k176 p1 n2 n3 Q H):callS PP 176 #[.agg #[.pointer p1],.int .i64 n2,.int .i64 n3] Q H :=
 okF Tryz.func176 rfl h
abbrev n_k177:Nat:=177
def k177 (p1:Option Addr) (n2:Int) (Q:QT) (H:Heap):Prop :=
 callS PP 73 #[pV p1] (fun v3 H1=>shH (setH (H1.push (.cells #[pV none] 131)) (A0 H1.size) (pV p1)) fun C1=>∃ b4,v3=.bool b4∧cond (!b4) (Wr H1 (A0 H.size)∧∃ p5,cellH (setH H1 (A0 H.size) (pV none)) (A0 H.size)=some (pV p5)∧Q (.tuple #[.agg #[pV p5],iV 2]) (setH H1 (A0 H.size) (pV none))) (Wr (H1.push (.cells #[pV none] 131)) (A0 H1.size)∧∃ p6,cellH C1 (A0 H1.size)=some (pV p6)∧cS 245 #[.agg #[pV p6],iV n2] (fun v7 H2=>∃ b8,v7=.bool b8∧cond (!b8) (Wr H2 (A0 H.size)∧∃ p9,cellH (setH H2 (A0 H.size) (pV none)) (A0 H.size)=some (pV p9)∧Q (.tuple #[.agg #[pV p9],iV 130]) (setH H2 (A0 H.size) (pV none))) (∃ p10,cellH H2 (A0 H1.size)=some (pV p10)∧Wr H2 (A0 H.size)∧∃ p11,cellH (setH H2 (A0 H.size) (pV p10)) (A0 H.size)=some (pV p11)∧Q (.tuple #[.agg #[pV p11],iV 0]) (setH H2 (A0 H.size) (pV p10)))) C1)) (H.push (.cells #[pV none] 131))
theorem k177_ok {p1:Option Addr}{n2:Int} (h:k177 p1 n2 Q H):callS PP 177 #[.pointer p1,.int .i64 n2] Q H :=
 okF Tryz.func177 rfl h
abbrev n_k178:Nat:=178
def k178 (p1:Option Addr) (n2:Int) (Q:QT) (H:Heap):Prop :=
 ∃ p3,cellH (H.push (.cells #[pV p1] 131)) (A0 H.size)=some (pV p3)∧cS 75 #[.agg #[pV p3],iV n2] (fun v4 H1=>∃ n5,v4=iV n5∧∃(I6:IT) (μ6:MT),I6 [lV none 0 0,iV 0] H1∧∀ w7 H2,I6 w7 H2→∀ _g:Nat→Value,∃ a8 l8 c8 n9,w7=[lV a8 l8 c8,iV n9]∧cond (decide (n9<n5)) (∃ p10,cellH H2 (A0 H.size)=some (pV p10)∧cS 176 #[.agg #[pV p10],iV n2,iV n9] (fun v11 H3=>∃ s12,v11=sV s12∧evS PP (Builtin.append_ #[37,37] 37 #[lV a8 l8 c8,lV (some (A0 H3.size)) 1 1]) (fun v13 H4=>∃ a14 l14 c14,v13=lV a14 l14 c14∧I6 [lV a14 l14 c14,iV (wW (n9+1))] H4∧μ6 [lV a14 l14 c14,iV (wW (n9+1))] H4<μ6 w7 H2) (H3.push (.cells #[sV s12] 9))) H2) (Q (lV a8 l8 c8) H2)) (H.push (.cells #[pV p1] 131))
theorem k178_ok {p1:Option Addr}{n2:Int} (h:k178 p1 n2 Q H):callS PP 178 #[.agg #[.pointer p1],.int .i64 n2] Q H :=
 callS_of good Tryz.func178 rfl (Ls:=fun | 3=>some [(5,37),(10,3)] | _=>none) (by kernel_rfl) h
abbrev n_k179:Nat:=179
def k179 (p1:Option Addr) (n2:Int) (n3:Int) (Q:QT) (H:Heap):Prop :=
 ∃ p4,cellH (H.push (.cells #[pV p1] 131)) (A0 H.size)=some (pV p4)∧cS 181 #[.agg #[pV p4],iV n2,iV n3] (fun v5 H1=>∃ n6,v5=iV n6∧cS 246 #[iV n6] (fun v7 H2=>∃ n8 n9,v7=.tuple #[iV n8,iV n9]∧Q (iV n8) H2) H1) (H.push (.cells #[pV p1] 131))
theorem k179_ok {p1:Option Addr}{n2:Int}{n3:Int} (h:k179 p1 n2 n3 Q H):callS PP 179 #[.agg #[.pointer p1],.int .i64 n2,.int .i64 n3] Q H :=
 okF Tryz.func179 rfl h
abbrev n_k180:Nat:=180
def k180 (p1:Option Addr) (n2:Int) (Q:QT) (H:Heap):Prop :=
 ∃ p3,cellH (H.push (.cells #[pV p1] 131)) (A0 H.size)=some (pV p3)∧cS 76 #[.agg #[pV p3],iV n2,iV 1] (fun v4 H1=>∃ n5,v4=iV n5∧cond (n5 != 1) (Q (iV n5) H1) (Q (iV 0) H1)) (H.push (.cells #[pV p1] 131))
theorem k180_ok {p1:Option Addr}{n2:Int} (h:k180 p1 n2 Q H):callS PP 180 #[.agg #[.pointer p1],.int .i64 n2] Q H :=
 okF Tryz.func180 rfl h
abbrev n_k181:Nat:=181
def k181 (p1:Option Addr) (n2:Int) (n3:Int) (Q:QT) (H:Heap):Prop :=
 ∃ p4,cellH (H.push (.cells #[pV p1] 131)) (A0 H.size)=some (pV p4)∧∃ q5,p4=some q5∧∃ p6,cellH (H.push (.cells #[pV p1] 131)) q5=some (pV p6)∧cS 20 #[pV p6] (fun v7 H1=>∃ p8,v7=pV p8∧cS 233 #[pV p8,iV n2,iV n3] (fun v9 H2=>∃ n10 n11,v9=.tuple #[iV n10,iV n11]∧Q (iV n10) H2) H1) (H.push (.cells #[pV p1] 131))
theorem k181_ok {p1:Option Addr}{n2:Int}{n3:Int} (h:k181 p1 n2 n3 Q H):callS PP 181 #[.agg #[.pointer p1],.int .i64 n2,.int .i64 n3] Q H :=
 okF Tryz.func181 rfl h
abbrev n_k188:Nat:=188
def k188 (p1:Option Addr) (n2:Int) (Q:QT) (H:Heap):Prop :=
 callS PP 177 #[pV p1,iV n2] (fun v3 H1=>∃ p4:Option Addr,shH (setH (H1.push (.cells #[pV none] 131)) (A0 H1.size) (pV p4)) fun C1=>∃ n5,v3=.tuple #[.agg #[pV p4],iV n5]∧Wr (H1.push (.cells #[pV none] 131)) (A0 H1.size)∧cond (n5 != 0) (Q (.tuple #[iV 0,iV n5]) C1) (∃ p6,cellH C1 (A0 H1.size)=some (pV p6)∧cS 179 #[.agg #[pV p6],iV n2,iV 6] (fun v7 H2=>∃ n8,v7=iV n8∧Q (.tuple #[iV n8,iV 0]) H2) C1)) H
theorem k188_ok {p1:Option Addr}{n2:Int} (h:k188 p1 n2 Q H):callS PP 188 #[.pointer p1,.int .i64 n2] Q H :=
 okF Tryz.func188 rfl h
abbrev n_k190:Nat:=190
def k190 (p1:Option Addr) (n2:Int) (Q:QT) (H:Heap):Prop :=
 callS PP 177 #[pV p1,iV n2] (fun v3 H1=>∃ p4:Option Addr,shH (setH (H1.push (.cells #[pV none] 131)) (A0 H1.size) (pV p4)) fun C1=>∃ n5,v3=.tuple #[.agg #[pV p4],iV n5]∧Wr (H1.push (.cells #[pV none] 131)) (A0 H1.size)∧cond (n5 != 0) (Q (.tuple #[iV 0,iV n5]) C1) (∃ p6,cellH C1 (A0 H1.size)=some (pV p6)∧cS 180 #[.agg #[pV p6],iV n2] (fun v7 H2=>∃ n8,v7=iV n8∧Q (.tuple #[iV n8,iV 0]) H2) C1)) H
theorem k190_ok {p1:Option Addr}{n2:Int} (h:k190 p1 n2 Q H):callS PP 190 #[.pointer p1,.int .i64 n2] Q H :=
 okF Tryz.func190 rfl h
abbrev n_k202:Nat:=202
def k202 (p1:Option Addr) (n2:Int) (Q:QT) (H:Heap):Prop :=
 cond (n2 == 0) (Q (lV none 0 0) (H.push (.cells #[pV p1] 131))) (∃ p3,cellH (H.push (.cells #[pV p1] 131)) (A0 H.size)=some (pV p3)∧∃ p4,cellH (H.push (.cells #[pV p1] 131)) (A0 H.size)=some (pV p4)∧∃ p5,cellH (H.push (.cells #[pV p1] 131)) (A0 H.size)=some (pV p5)∧∃ p6,cellH (H.push (.cells #[pV p1] 131)) (A0 H.size)=some (pV p6)∧cS 180 #[.agg #[pV p4],iV n2] (fun v7 H1=>∃ n8,v7=iV n8∧((cellH H1 (A0 H.size)=some (pV p6)∧True)∧((cellH H1 (A0 H.size)=some (pV p5)∧True)∧((cellH H1 (A0 H.size)=some (pV p3)∧True)∧True)))∧cS 202 #[.agg #[pV p3],iV n8] (fun v9 H2=>∃ a10 l10 c10,v9=lV a10 l10 c10∧((cellH H2 (A0 H.size)=some (pV p6)∧True)∧((cellH H2 (A0 H.size)=some (pV p5)∧True)∧True))∧cS 76 #[.agg #[pV p6],iV n2,iV 2] (fun v11 H3=>∃ n12,v11=iV n12∧((cellH H3 (A0 H.size)=some (pV p5)∧True)∧True)∧cS 178 #[.agg #[pV p5],iV n12] (fun v13 H4=>∃ a14 l14 c14,v13=lV a14 l14 c14∧True∧evS PP (Builtin.append_ #[37,37] 37 #[lV a10 l10 c10,lV a14 l14 c14]) (fun v15 H5=>∃ a16 l16 c16,v15=lV a16 l16 c16∧True∧Q (lV a16 l16 c16) H5) H4) H3) H2) H1) (H.push (.cells #[pV p1] 131)))
theorem k202_ok {p1:Option Addr}{n2:Int} (h:k202 p1 n2 Q H):callS PP 202 #[.agg #[.pointer p1],.int .i64 n2] Q H :=
 okF Tryz.func202 rfl h
abbrev n_k206:Nat:=206
def k206 (p1:Option Addr) (n2:Int) (a3:Option Addr) (l3:Nat) (_c3:Nat) (Q:QT) (H:Heap):Prop :=
 ∃ q4,p1=some q4∧∃ p5,cellH H q4=some (pV p5)∧∃ q6,p5=some q6∧∃ p7,cellH H q6=some (pV p7)∧cS 50 #[iV n2] (fun v8 H1=>∃ n9,v8=iV n9∧((cellH H1 q6=some (pV p7)∧True)∧((cellH H1 q4=some (pV p5)∧True)∧True))∧cS 238 #[pV p7,iV n9,iV (l3:Int),iV 0] (fun v10 H2=>∃ n11 n12,v10=.tuple #[iV n11,iV n12]∧True∧cond (n12 != 0) (Q (.tuple #[iV 0,iV n12]) H2) (cS 183 #[iV n11] (fun v13 H3=>∃ n14 n15,v13=.tuple #[iV n14,iV n15]∧∃(I16:IT) (μ16:MT),I16 [iV 0] H3∧∀ w17 H4,I16 w17 H4→∀ _g:Nat→Value,∃ n18,w17=[iV n18]∧cond (decide (n18<(l3:Int))) (((0:Int)≤n18∧n18<(l3:Int))∧∃ q19,a3=some q19∧∃ n20,cellH H4 (q19.add (Int.toNat n18*1))=some (iV n20)∧∃ q21,p1=some q21∧∃ p22,cellH H4 q21=some (pV p22)∧∃ q23,p22=some q23∧∃ p24,cellH H4 q23=some (pV p24)∧cS 20 #[pV p24] (fun v25 H5=>∃ p26,v25=pV p26∧cS 140 #[pV p26,iV n14,iV n18,iV n20] (fun v27 H6=>∃ n28,v27=iV n28∧I16 [iV (wW (n18+1))] H6∧μ16 [iV (wW (n18+1))] H6<μ16 w17 H4) H5) H4) (∃ q29,p1=some q29∧∃ p30,cellH H4 q29=some (pV p30)∧∃ q31,p30=some q31∧∃ p32,cellH H4 q31=some (pV p32)∧cS 51 #[pV p32,lV (some (A0 H4.size)) 1 1] (fun v33 H7=>∃ n34,v33=iV n34∧Q (.tuple #[iV n11,iV n34]) H7) (H4.push (.cells #[iV n11] 36)))) H2)) H1) H
theorem k206_ok {p1:Option Addr}{n2:Int}{a3:Option Addr}{l3:Nat}{c3:Nat} (h:k206 p1 n2 a3 l3 c3 Q H):callS PP 206 #[.pointer p1,.int .i64 n2,.slice a3 l3 c3] Q H :=
 callS_of good Tryz.func206 rfl (Ls:=fun | 6=>some [(40,3)] | _=>none) (by kernel_rfl) h
abbrev n_k245:Nat:=245
def k245 (p1:Option Addr) (n2:Int) (Q:QT) (H:Heap):Prop :=
 ∃ p3,cellH (H.push (.cells #[pV p1] 131)) (A0 H.size)=some (pV p3)∧cS 179 #[.agg #[pV p3],iV n2,iV 6] (fun v4 H1=>∃ n5,v4=iV n5∧∃ p6,cellH H1 (A0 H.size)=some (pV p6)∧cS 74 #[.agg #[pV p6],iV 0] (fun v7 H2=>∃ n8,v7=iV n8∧cond (decide (n2 > 0)) (cond (decide (n5 ≥ 1)) (∃ p9,cellH H2 (A0 H.size)=some (pV p9)∧cS 75 #[.agg #[pV p9],iV n8] (fun v10 H3=>∃ n11,v10=iV n11∧cond (decide (n5≤n11)) (∃ p12,cellH H3 (A0 H.size)=some (pV p12)∧cS 76 #[.agg #[pV p12],iV n8,iV (wW (n5-1))] (fun v13 H4=>∃ n14,v13=iV n14∧Q (.bool (n14 == n2)) H4) H3) (Q (.bool false) H3)) H2) (Q (.bool false) H2)) (Q (.bool false) H2)) H1) (H.push (.cells #[pV p1] 131))
theorem k245_ok {p1:Option Addr}{n2:Int} (h:k245 p1 n2 Q H):callS PP 245 #[.agg #[.pointer p1],.int .i64 n2] Q H :=
 okF Tryz.func245 rfl h
end Go.Proofs.YtmkdkplipbocjaaGreatDoor
namespace Kw
open Go
def KV.addC (v:KV) (c:CV) (d:Int):KV:={ v with cls:=v.cls++[c],clsA:=d }
def KV.addG (v:KV) (n:Nat) (d:Int):KV:={ v with glob:=v.glob++[(n,4)],globA:=d }
theorem KS.fresh {s:SP}{v:KV} (h:KS s v){o:Int} (hn:¬ Reaches s.h s.roots o):∀ p∈v.roles,p.1≠o:=fun p hp he=>hn (he ▸ h.reach p hp)
theorem keeps_roots {s s':SP}{v:KV} (h:KS s v) (h':KS s' v){l:List Int} (e:s'.stack=s.stack++l):∀ w∈s.roots,w∈s'.roots:=by
 intro w hw
 rw [h.roots] at hw
 rw [h'.roots,e]
 simp only [List.mem_cons,List.mem_append] at hw ⊢
 rcases hw with h | h
 ·exact .inl h
 ·exact .inr (.inl h)
theorem up_arr {s:SP}{v:KV} (h:KS s v){j:Nat} (hj:j<v.cls.length):1≤(v.cls[j]).oop∧(v.cls[j]).oop≤65536:=by
 have:=(h.view.cls hj).bnd h.wf.h
 exact ⟨this.1,this.2.1⟩
theorem clsSlots_words {n up l:Int}{k:Nat} (hn:isW n) (hu:isW (4*up)) (hl:isW l) (hk:k≤1000):∀ w∈clsSlots n up l k,isW w:=by
 intro w hw
 simp only [clsSlots,List.mem_cons,List.not_mem_nil,or_false] at hw
 rcases hw with rfl | rfl | rfl | rfl | rfl | rfl | rfl
 ·exact hn
 ·exact hu
 ·exact hl
 ·decide
 ·decide
 ·decide
 ·unfold isW;have:=kind_cases (2*((k:Int)+1)+1);omega
theorem clsW_words {s:SP}{v:KV} (h:KS s v):∀ w∈v.clsW,isW w:=fun w hw=>(h.view.all.bnd h.wf.h).2.2.2 w hw
theorem globW_words {s:SP}{v:KV} (h:KS s v):∀ w∈globW v.glob,isW w:=fun w hw=>(h.view.globs.bnd h.wf.h).2.2.2 w hw
theorem kDef3_ok {s:SP}{v:KV}{t:TB} (hk:KS s v) (hst:s.stack.length<65000){c l:Int}{n:Nat}{ns:List Nat}{j:Nat} (hj:j<v.cls.length) (hlt:v.cls.length<256)
  (hc1:1≤c) (hc2:c≤65536) (hcr:Reaches s.h s.roots c) (hlr:Reaches s.h s.roots l) (hca:Arr s.h c (clsSlots (symW n) (v.cls[j]).oop (4*l) v.cls.length)) (hla:Arr s.h l (ns.map symW))
  (hcf:∀ p∈v.roles,p.1≠c) (hlf:ns=[]∧l=18∨∀ p∈v.roles,p.1≠l) (hcl:c≠l) :
  KeepsB s.h (kDef3 s t v.clsW (4*c)).2.1.h (fun k=>Reaches s.h s.roots k∧k≠19)∧(kDef3 s t v.clsW (4*c)).2.2=t∧(∃ m,(kDef3 s t v.clsW (4*c)).2.1.stack=s.stack++m∧m.length≤1) ∧
  ((kDef3 s t v.clsW (4*c)).1.2≠0→KS (kDef3 s t v.clsW (4*c)).2.1 v∧KeepsB s.h (kDef3 s t v.clsW (4*c)).2.1.h (Reaches s.h s.roots)) ∧
  ((kDef3 s t v.clsW (4*c)).1.2=0→(kDef3 s t v.clsW (4*c)).1.1=c∧∃ d,KS (kDef3 s t v.clsW (4*c)).2.1 (v.addC ⟨c,n,(v.cls[j]).oop,ns,l,18,18,[],[],0⟩ d)):=by
 have hws:∀ w∈v.clsW++[4*c],isW w:=fun w hw=>by
  rcases List.mem_append.1 hw with hw | hw
  ·exact clsW_words hk w hw
  ·simp only [List.mem_singleton] at hw;rw [hw];exact isW_obj hc1 hc2
 obtain ⟨h1,h2,⟨m,h3,h3'⟩,h4⟩:=array_ok hk (by omega) hws
 unfold kDef3
 by_cases he:(s.array (v.clsW++[4*c])).1.2=0
 ·rw [if_neg (by simpa using he)]
  obtain ⟨d,e1,d1,d2,hda,hdr,hdn⟩:=h4 he
  have hdn:¬ Reaches s.h s.roots d:=by
   rcases hdn with h | h
   ·simp at h
   ·exact h
  rw [e1]
  generalize (s.array (v.clsW++[4*c])).2=s1 at *
  obtain ⟨g1,g2,g3,g4,g5,g6,g7⟩:=setRoot_keeps h1 (i:=0) (w:=4*d) (by decide) (by decide) (isW_obj d1 d2)
  generalize (s1.setRoot 0 (4*d)).2=s2 at *
  have hdf:∀ p∈v.roles,p.1≠d:=hk.fresh hdn
  have r19:((19,v.rootW):Role)∈v.roles:=by simp [KV.roles]
  have r18:((18,[]):Role)∈v.roles:=by simp [KV.roles]
  have hc19:c≠19:=fun e=>hcf _ r19 e.symm
  have hd19:d≠19:=fun e=>hdf _ r19 e.symm
  have hl19:l≠19:=by
   rcases hlf with ⟨_,h⟩ | h
   ·omega
   ·exact fun e=>h _ r19 e.symm
  have hc18:c≠18:=fun e=>hcf _ r18 e.symm
  have hdc:d≠c:=fun e=>hdn (e ▸ hcr)
  have hdl:d≠l:=fun e=>hdn (e ▸ hlr)
  have h2k:KeepsB s.h s2.h fun k=>Reaches s.h s.roots k∧k≠19:=(h2.mono fun k hk=>hk.1).trans (g2.mono fun k hk=>hk.2)
  have hne:=sep_head hk.view hk.sep
  refine ⟨h2k,rfl,⟨m,by rw [g6,h3],h3'⟩,fun h=>absurd rfl h,fun _=>⟨by show 4*c / 4=c;omega,d,g3,g7,g5,g4,?_,?_,?_⟩⟩
  ·
   refine View.of ?_ ?_ ?_ ?_ ?_ ?_
   ·simpa [KV.rootW,KV.addC] using g1
   ·have:=hda.keep g2 hd19
    simpa [KV.addC,KV.clsW] using this
   ·exact (h1.view.globs).keep g2 (hne (v.globA,globW v.glob) (by simp))
   ·exact (h1.view.nil).keep g2 (by decide)
   ·exact (h1.view.empty).keep g2 (by decide)
   ·intro p hp
    simp only [KV.addC,croles_append,List.mem_append,Nat.zero_add,croles,List.append_nil] at hp
    rcases hp with hp | hp
    ·exact (h1.view p (by simp [KV.roles,hp])).keep g2 (hne p (by simp [hp]))
    ·simp only [crole,List.mem_cons,List.not_mem_nil,or_false] at hp
     rcases hp with rfl | rfl | rfl | rfl
     ·have:=hca.keep h2k ⟨hcr,hc19⟩
      simpa [CV.slots,clsSlots] using this
     ·exact hla.keep h2k ⟨hlr,hl19⟩
     ·exact (h1.view.empty).keep g2 (by decide)
     ·exact (h1.view.empty).keep g2 (by decide)
  ·
   have hs:=hk.sep
   unfold Sep at hs ⊢
   simp only [KV.roles,KV.addC,croles_append,croles,List.append_nil,Nat.zero_add] at hs ⊢
   rw [List.pairwise_cons,List.pairwise_cons] at hs
   obtain ⟨hs1,hs2,hs3⟩:=hs
   have new:∀ q∈crole ⟨c,n,(v.cls[j]).oop,ns,l,18,18,[],[],0⟩ v.cls.length,q.1=c∨q.1=l∨q.1=18:=by
    intro q hq
    simp only [crole,List.mem_cons,List.not_mem_nil,or_false] at hq
    rcases hq with rfl | rfl | rfl | rfl <;> simp
   refine List.pairwise_cons.2 ⟨fun q hq he=>?_,List.pairwise_cons.2 ⟨fun q hq he=>?_,?_⟩⟩
   ·
    exfalso
    simp only [List.mem_cons,List.mem_append] at hq
    rcases hq with rfl | rfl | rfl | rfl | hq | hq
    ·exact hd19 he.symm
    ·exact hne (v.globA,globW v.glob) (by simp) he.symm
    ·simp at he
    ·simp at he
    ·exact hne q (by simp [hq]) he.symm
    ·rcases new q hq with h | h | h
     ·exact hc19 (by rw [←h];exact he.symm)
     ·exact hl19 (by rw [←h];exact he.symm)
     ·rw [h] at he;simp at he
   ·exfalso
    simp only [List.mem_cons,List.mem_append] at hq
    rcases hq with rfl | rfl | rfl | hq | hq
    ·exact hdf (v.globA,globW v.glob) (by simp [KV.roles]) he.symm
    ·exact hdf (1,[]) (by simp [KV.roles]) he.symm
    ·exact hdf (18,[]) (by simp [KV.roles]) he.symm
    ·exact hdf q (by simp [KV.roles,hq]) he.symm
    ·rcases new q hq with h | h | h
     ·exact hdc (by rw [←h];exact he)
     ·exact hdl (by rw [←h];exact he)
     ·exact hdf (18,[]) r18 (by rw [←h];exact he.symm)
   ·show ((v.globA,globW v.glob) :: (1,[]) :: (18,[]) :: (croles v.cls 0++_)).Pairwise _
    rw [←List.cons_append,←List.cons_append,←List.cons_append]
    refine List.pairwise_append.2 ⟨hs3,?_,fun p hp q hq he=>?_⟩
    ·simp only [crole]
     refine List.pairwise_cons.2 ⟨fun q hq he=>?_,List.pairwise_cons.2 ⟨fun q hq he=>?_,List.pairwise_cons.2 ⟨fun q hq he=>rfl,List.pairwise_cons.2 ⟨fun q hq he=>rfl,List.Pairwise.nil⟩⟩⟩⟩
     ·exfalso
      simp only [List.mem_cons,List.not_mem_nil,or_false] at hq
      rcases hq with rfl | rfl | rfl
      ·exact hcl he
      ·exact hc18 he
      ·exact hc18 he
     ·rcases hlf with ⟨h,_⟩ | h
      ·simp [h]
      ·exfalso
       simp only [List.mem_cons,List.not_mem_nil,or_false] at hq
       rcases hq with rfl | rfl
       ·exact h _ r18 he.symm
       ·exact h _ r18 he.symm
    ·have hpr:p∈v.roles:=by
      simp only [KV.roles]
      exact List.mem_cons_of_mem _ (List.mem_cons_of_mem _ hp)
     have em:p.1=18→p.2=[]:=fun h=>by
      have:=hk.view p hpr
      rw [h] at this
      exact this.uniq hk.view.empty
     rcases new q hq with h | h | h
     ·exact absurd (he.trans h) (hcf p hpr)
     ·rcases hlf with ⟨_,h'⟩ | h'
      ·exact em (by rw [he,h,h'])
      ·exact absurd (he.trans h) (h' p hpr)
     ·exact em (he.trans h)
  ·
   have hsh:=hk.shape
   have hm0:=hsh.many0
   constructor
   ·exact hsh.rest
   ·simp only [KV.addC,List.length_append];omega
   ·simp only [KV.addC,List.length_append,List.length_cons,List.length_nil];omega
   ·exact hsh.globs
   ·intro h0
    have h0':0<v.cls.length:=by omega
    simp only [KV.addC,List.getElem_append_left h0']
    exact hsh.up0 h0'
   ·intro i hi hpos
    simp only [KV.addC,List.length_append,List.length_cons,List.length_nil] at hi
    by_cases hlt':i<v.cls.length
    ·obtain ⟨j',hj',h5,h6⟩:=hsh.ups i hlt' hpos
     refine ⟨j',by simp only [KV.addC,List.length_append];omega,h5,?_⟩
     simp only [KV.addC,List.getElem_append_left hlt',List.getElem_append_left hj']
     exact h6
    ·have hie:i=v.cls.length:=by omega
     subst hie
     refine ⟨j,by simp only [KV.addC,List.length_append];omega,hj,?_⟩
     simp only [KV.addC,List.getElem_append_left hj]
     rw [List.getElem_append_right (Nat.le_refl _)]
     simp
   ·intro i hi h14
    have hlt':i<v.cls.length:=by omega
    simp only [KV.addC,List.getElem_append_left hlt']
    exact hsh.kern i hlt' h14
   ·intro x hx
    simp only [KV.addC,List.mem_append,List.mem_singleton] at hx
    rcases hx with hx | rfl
    ·exact hsh.lay x hx
    ·simp
 ·rw [if_pos (by simpa using he)]
  exact ⟨h2.mono fun k hk=>hk.1,rfl,⟨m,h3,h3'⟩,fun _=>⟨h1,h2⟩,fun h=>absurd h he⟩
structure DefR (s:SP) (v:KV) (t:TB) (j:Nat) (name:ByteArray) (own:List ByteArray) (R:(Int × Int) × SP × TB):Prop where
 wft:WFT R.2.2
 most:R.2.2.most=t.most
 pre:∃ l,R.2.2.texts=t.texts++l
 stack:∃ m,R.2.1.stack=s.stack++m∧m.length≤3
 bad:R.1.2≠0→KS R.2.1 v∧KeepsB s.h R.2.1.h (Reaches s.h s.roots)
 good:R.1.2=0→∃ c n ns l d,∃ hj:j<v.cls.length,R.1.1=c∧KS R.2.1 (v.addC ⟨c,n,(v.cls[j]).oop,ns,l,18,18,[],[],0⟩ d)∧R.2.2.texts[n]?=some name∧ns.map (fun n=>R.2.2.texts[n]?)=own.map some
 keep:KeepsB s.h R.2.1.h (fun k=>Reaches s.h s.roots k∧k≠19)
theorem kDef1_ok {s:SP}{v:KV}{t:TB} (hk:KS s v) (hst:s.stack.length<60000){n:Nat}{ns:List Nat}{j:Nat} (hj:j<v.cls.length) (hlt:v.cls.length<256) (hwt:WFT t) (hn:n<t.texts.length) (hns:∀ n∈ns,n<t.texts.length)
  {name:ByteArray}{own:List ByteArray} (e1:t.texts[n]?=some name) (e2:ns.map (fun n=>t.texts[n]?)=own.map some) :
  DefR s v t j name own (kDef1 s t v.clsW (symW n) (v.cls[j]).oop (ns.map symW)):=by
 have hws:∀ w∈ns.map symW,isW w:=fun w hw=>by
  obtain ⟨x,hx,rfl⟩:=List.mem_map.1 hw
  exact isW_sym hwt (hns x hx)
 obtain ⟨a1,a2,⟨m1,a3,a3'⟩,a4⟩:=array_ok hk (by omega) hws
 unfold kDef1
 by_cases he:(s.array (ns.map symW)).1.2=0
 ·rw [if_neg (by simpa using he)]
  obtain ⟨l,el,l1,l2,hla,hlr,hlf⟩:=a4 he
  rw [el]
  generalize (s.array (ns.map symW)).2=s1 at *
  have hl1:s1.stack.length<64000:=by rw [a3,List.length_append];omega
  have hup:=up_arr hk hj
  have hcw:v.clsW.length=v.cls.length:=by simp [KV.clsW]
  obtain ⟨b1,b2,b3,b4⟩:=make_ok a1 (by omega) (cls:=12) (by decide) (ws:=clsSlots (symW n) (v.cls[j]).oop (4*l) v.clsW.length) (clsSlots_words (isW_sym hwt hn) (isW_obj hup.1 hup.2) (isW_obj l1 l2) (by omega))
  have hrs:∀ k,Reaches s.h s.roots k→Reaches s1.h s1.roots k:=fun k hk'=>Reaches.mono hk.wf.h a2 (keeps_roots hk a1 a3) hk'
  unfold kDef2
  by_cases hf:(s1.make 12 (clsSlots (symW n) (v.cls[j]).oop (4*l) v.clsW.length)).1.2=0
  ·rw [if_neg (by simpa using hf)]
   obtain ⟨c,ec,est,c1,c2,hca,hcn⟩:=b4 hf
   rw [ec]
   generalize (s1.make 12 (clsSlots (symW n) (v.cls[j]).oop (4*l) v.clsW.length)).2=s2 at *
   have hrs2:∀ k,Reaches s1.h s1.roots k→Reaches s2.h s2.roots k:=fun k hk'=>Reaches.mono a1.wf.h b2 (keeps_roots a1 b1 est) hk'
   have hcr:Reaches s2.h s2.roots c:=Reaches.of_root c1 c2 hca.there (by rw [b1.roots,est];simp)
   have hlf':ns=[]∧l=18∨∀ p∈v.roles,p.1≠l:=by
    rcases hlf with h | h
    ·have hnil:ns=[]:=by simpa using h
     subst hnil
     left
     refine ⟨rfl,?_⟩
     have:(s.array (([]:List Nat).map symW)).1.1=72:=by simp [SP.array]
     omega
    ·exact .inr (hk.fresh h)
   obtain ⟨d1,d2,⟨m,d3,d3'⟩,d4,d5⟩:=kDef3_ok (t:=t) b1 (by rw [est,List.length_append];simp;omega) (c:=c) (l:=l) (n:=n) (ns:=ns) hj hlt c1 c2 hcr (hrs2 l hlr) (by rw [hcw] at hca;exact hca) (hla.keep b2 hlr) (a1.fresh hcn) hlf' (fun e=>hcn (e ▸ hlr))
   generalize kDef3 s2 t v.clsW (4*c)=R at *
   refine ⟨by rw [d2];exact hwt,by rw [d2],⟨[],by rw [d2];simp⟩,⟨m1++[4*c]++m,by rw [d3,est,a3];simp,by simp;omega⟩,fun h=>?_,fun h=>?_,((a2.trans (b2.mono hrs)).mono fun k hk'=>hk'.1).trans (d1.mono fun k hk'=>⟨hrs2 k (hrs k hk'.1),hk'.2⟩)⟩
   ·exact ⟨(d4 h).1,(a2.trans (b2.mono hrs)).trans ((d4 h).2.mono fun k hk'=>hrs2 k (hrs k hk'))⟩
   ·obtain ⟨e3,d,e4⟩:=d5 h
    rw [d2]
    exact ⟨c,n,ns,l,d,hj,e3,e4,e1,e2⟩
  ·rw [if_pos (by simpa using hf)]
   exact ⟨hwt,rfl,⟨[],by simp⟩,⟨m1,by rw [(b3 hf).1,a3],by omega⟩,fun _=>⟨b1,a2.trans (b2.mono hrs)⟩,fun h=>absurd h hf,(a2.trans (b2.mono hrs)).mono fun k hk'=>hk'.1⟩
 ·rw [if_pos (by simpa using he)]
  exact ⟨hwt,rfl,⟨[],by simp⟩,⟨m1,a3,by omega⟩,fun _=>⟨a1,a2⟩,fun h=>absurd h he,a2.mono fun k hk'=>hk'.1⟩
theorem kDef_ok {s:SP}{v:KV}{t:TB} (hk:KS s v) (hst:s.stack.length<60000){j:Nat} (hj:j<v.cls.length) (hlt:v.cls.length<256) (hwt:WFT t) (name:ByteArray) (own:List ByteArray) :
  DefR s v t j name own (kDef s t v.clsW name (v.cls[j]).oop own):=by
 unfold kDef
 have p1:=add_pre t name
 have w1:=add_wft hwt name
 by_cases h1:(t.add name).1.2=0
 ·rw [if_neg (by simpa using h1)]
  obtain ⟨n,e1,e2,_⟩:=add_ok name h1
  generalize (t.add name).2=t1 at *
  have p2:=addAll_pre t1 [] own
  have w2:=addAll_wft w1 [] own
  have pre:∃ l,(t1.addAll [] own).2.texts=t.texts++l:=by
   obtain ⟨l,e⟩:=p1.2
   obtain ⟨l',e'⟩:=p2.2
   exact ⟨l++l',by rw [e',e];simp⟩
  by_cases h2:(t1.addAll [] own).1.2=0
  ·rw [if_neg (by simpa using h2)]
   obtain ⟨ns,e3,e4⟩:=addAll_ok [] own h2
   rw [e3,e1]
   generalize (t1.addAll [] own).2=t2 at *
   have e5:t2.texts[n]?=some name:=by
    obtain ⟨l',e'⟩:=p2.2
    rw [e',List.getElem?_append_left (tx_some e2).2,e2]
   have hns:∀ n∈ns,n<t2.texts.length:=fun n hn=>by
    have:t2.texts[n]?∈own.map some:=by rw [←e4];exact List.mem_map.2 ⟨n,hn,rfl⟩
    obtain ⟨s,_,hs⟩:=List.mem_map.1 this
    exact (tx_some hs.symm).2
   have:=kDef1_ok hk hst hj hlt w2 (tx_some e5).2 hns e5 e4
   have hpre:∃ l,(kDef1 s t2 v.clsW (symW n) (v.cls[j]).oop (ns.map symW)).2.2.texts=t.texts++l:=by
    obtain ⟨l,e⟩:=pre
    obtain ⟨l',e'⟩:=this.pre
    exact ⟨l++l',e'.trans (by rw [e];simp)⟩
   exact { this with most:=this.most.trans (p2.1.trans p1.1),pre:=hpre }
  ·rw [if_pos (by simpa using h2)]
   exact ⟨w2,p2.1.trans p1.1,pre,⟨[],by simp,by simp⟩,fun _=>⟨hk,KeepsB.refl _ _⟩,fun h=>absurd h h2,KeepsB.refl _ _⟩
 ·rw [if_pos (by simpa using h1)]
  exact ⟨w1,p1.1,p1.2,⟨[],by simp,by simp⟩,fun _=>⟨hk,KeepsB.refl _ _⟩,fun h=>absurd h h1,KeepsB.refl _ _⟩
end Kw
namespace Kw
open Go
structure GlobR (s:SP) (v:KV) (t:TB) (name:ByteArray) (R:Int × SP × TB):Prop where
 wft:WFT R.2.2
 most:R.2.2.most=t.most
 pre:∃ l,R.2.2.texts=t.texts++l
 stack:∃ m,R.2.1.stack=s.stack++m∧m.length≤3
 bad:R.1≠0→KS R.2.1 v∧KeepsB s.h R.2.1.h (Reaches s.h s.roots)
 good:R.1=0→∃ n d,KS R.2.1 (v.addG n d)∧R.2.2.texts[n]?=some name
 keep:KeepsB s.h R.2.1.h (fun k=>Reaches s.h s.roots k∧k≠19)
theorem kGlob1_ok {s:SP}{v:KV}{t:TB} (hk:KS s v) (hst:s.stack.length<60000){n:Nat} (hlt:v.glob.length<256) (hwt:WFT t) (hn:n<t.texts.length){name:ByteArray} (e1:t.texts[n]?=some name) :
  GlobR s v t name (kGlob1 s t (globW v.glob) (symW n)):=by
 have hws:∀ w∈globW v.glob++[symW n,4],isW w:=fun w hw=>by
  rcases List.mem_append.1 hw with hw | hw
  ·exact globW_words hk w hw
  ·simp only [List.mem_cons,List.not_mem_nil,or_false] at hw
   rcases hw with rfl | rfl
   ·exact isW_sym hwt hn
   ·decide
 obtain ⟨h1,h2,⟨m,h3,h3'⟩,h4⟩:=array_ok hk (by omega) hws
 unfold kGlob1
 by_cases he:(s.array (globW v.glob++[symW n,4])).1.2=0
 ·rw [if_neg (by simpa using he)]
  obtain ⟨d,ed,d1,d2,hda,hdr,hdn⟩:=h4 he
  have hdn:¬ Reaches s.h s.roots d:=by
   rcases hdn with h | h
   ·simp at h
   ·exact h
  rw [ed]
  generalize (s.array (globW v.glob++[symW n,4])).2=s1 at *
  obtain ⟨g1,g2,g3,g4,g5,g6,g7⟩:=setRoot_keeps h1 (i:=1) (w:=4*d) (by decide) (by decide) (isW_obj d1 d2)
  generalize (s1.setRoot 1 (4*d)).2=s2 at *
  have hdf:∀ p∈v.roles,p.1≠d:=hk.fresh hdn
  have hd19:d≠19:=fun e=>hdf (19,v.rootW) (by simp [KV.roles]) e.symm
  have hne:=sep_head hk.view hk.sep
  refine ⟨hwt,rfl,⟨[],by simp⟩,⟨m,by rw [g6,h3],by omega⟩,fun h=>absurd rfl h,fun _=>⟨n,d,⟨g3,g7,g5,g4,?_,?_,?_⟩,e1⟩,(h2.mono fun k hk'=>hk'.1).trans (g2.mono fun k hk'=>hk'.2)⟩
  ·refine View.of ?_ ?_ ?_ ?_ ?_ ?_
   ·simpa [KV.rootW,KV.addG] using g1
   ·exact (h1.view.all).keep g2 (hne (v.clsA,v.clsW) (by simp))
   ·have:=hda.keep g2 hd19
    simpa [KV.addG,globW_append,globW] using this
   ·exact (h1.view.nil).keep g2 (by decide)
   ·exact (h1.view.empty).keep g2 (by decide)
   ·intro p hp
    exact (h1.view p (by simp only [KV.addG] at hp;simp [KV.roles,hp])).keep g2 (hne p (by simp only [KV.addG] at hp;simp [hp]))
  ·have hs:=hk.sep
   unfold Sep at hs ⊢
   simp only [KV.roles,KV.addG] at hs ⊢
   rw [List.pairwise_cons,List.pairwise_cons,List.pairwise_cons] at hs
   obtain ⟨hs1,hs2,hs3,hs4⟩:=hs
   refine List.pairwise_cons.2 ⟨fun q hq he=>?_,List.pairwise_cons.2 ⟨fun q hq he=>?_,List.pairwise_cons.2 ⟨fun q hq he=>?_,hs4⟩⟩⟩
   ·exfalso
    simp only [List.mem_cons] at hq
    rcases hq with rfl | rfl | hq
    ·exact hne (v.clsA,v.clsW) (by simp) he.symm
    ·exact hd19 he.symm
    ·exact hne q (by simp only [List.mem_cons];exact .inr (.inr hq)) he.symm
   ·rcases List.mem_cons.1 hq with rfl | hq
    ·exact absurd he (hdf (v.clsA,v.clsW) (by simp [KV.roles]))
    ·exact hs2 q (List.mem_cons_of_mem _ hq) he
   ·exact absurd he.symm (hdf q (by simp only [KV.roles];exact List.mem_cons_of_mem _ (List.mem_cons_of_mem _ (List.mem_cons_of_mem _ hq))))
  ·exact { hk.shape with globs:=by simp only [KV.addG,List.length_append,List.length_cons,List.length_nil];omega }
 ·rw [if_pos (by simpa using he)]
  exact ⟨hwt,rfl,⟨[],by simp⟩,⟨m,h3,by omega⟩,fun _=>⟨h1,h2⟩,fun h=>absurd h he,h2.mono fun k hk'=>hk'.1⟩
theorem kGlob_ok {s:SP}{v:KV}{t:TB} (hk:KS s v) (hst:s.stack.length<60000) (hlt:v.glob.length<256) (hwt:WFT t) (name:ByteArray) :
  GlobR s v t name (kGlob s t (globW v.glob) name):=by
 unfold kGlob
 have p1:=add_pre t name
 have w1:=add_wft hwt name
 by_cases h1:(t.add name).1.2=0
 ·rw [if_neg (by simpa using h1)]
  obtain ⟨n,e1,e2,_⟩:=add_ok name h1
  rw [e1]
  generalize (t.add name).2=t1 at *
  have:=kGlob1_ok hk hst hlt w1 (tx_some e2).2 e2
  have hpre:∃ l,(kGlob1 s t1 (globW v.glob) (symW n)).2.2.texts=t.texts++l:=by
   obtain ⟨l,e⟩:=p1.2
   obtain ⟨l',e'⟩:=this.pre
   exact ⟨l++l',e'.trans (by rw [e];simp)⟩
  exact { this with most:=this.most.trans p1.1,pre:=hpre }
 ·rw [if_pos (by simpa using h1)]
  exact ⟨w1,p1.1,p1.2,⟨[],by simp,by simp⟩,fun _=>⟨hk,KeepsB.refl _ _⟩,fun h=>absurd h h1,KeepsB.refl _ _⟩
structure KAll (s:SP) (t:TB) (v:KV):Prop where
 ks:KS s v
 names:KNames v t
 stack:s.stack=[]
theorem drop_all {s:SP}{m:List Int} (h:s.stack=m):(s.drop ((s.stack.length:Int)-0)).2={ s with stack:=[] }:=by
 unfold SP.drop
 rw [if_neg (by omega)]
 simp
theorem KS.nostack {s:SP}{v:KV} (h:KS s v):KS { s with stack:=[] } v:=⟨{ h.wf with many:=by simp,words:=by simp },h.gc,h.op,h.king,h.view,h.sep,h.shape⟩
theorem KS.marks {s:SP}{v:KV} (h:KS s v) (k:Int):KS { s with h:=(s.h.marks k).2 } v :=
 ⟨{ h.wf with h:=marks_wf h.wf.h k },marks_gc h.gc k,h.op,h.king,h.view.keep (marks_keeps k) fun _ _=>trivial,h.sep,h.shape⟩
theorem kDefine_ok {s:SP}{v:KV}{t:TB} (h:KAll s t v){j:Nat} (hj:j<v.cls.length) (hlt:v.cls.length<256){name:ByteArray}{own:List ByteArray} (hf:∀ c∈v.cls,tx t c.name≠name) :
  ((kDefine s t v.clsW name (v.cls[j]).oop own).1.2≠0→(kDefine s t v.clsW name (v.cls[j]).oop own).1.1=0∧KAll (kDefine s t v.clsW name (v.cls[j]).oop own).2.1 (kDefine s t v.clsW name (v.cls[j]).oop own).2.2 v∧(kDefine s t v.clsW name (v.cls[j]).oop own).2.2=t ∧
   KeepsB s.h (kDefine s t v.clsW name (v.cls[j]).oop own).2.1.h (Reaches s.h s.roots)) ∧
  ((kDefine s t v.clsW name (v.cls[j]).oop own).1.2=0→∃ n ns l d,KAll (kDefine s t v.clsW name (v.cls[j]).oop own).2.1 (kDefine s t v.clsW name (v.cls[j]).oop own).2.2 (v.addC ⟨(kDefine s t v.clsW name (v.cls[j]).oop own).1.1,n,(v.cls[j]).oop,ns,l,18,18,[],[],0⟩ d) ∧
   (∃ m,(kDefine s t v.clsW name (v.cls[j]).oop own).2.2.texts=t.texts++m)∧tx (kDefine s t v.clsW name (v.cls[j]).oop own).2.2 n=name∧ns.map (tx (kDefine s t v.clsW name (v.cls[j]).oop own).2.2)=own):=by
 obtain ⟨hk,hn,hst⟩:=h
 have D:=kDef_ok hk (by rw [hst];simp) hj hlt hn.wf name own
 unfold kDefine
 generalize kDef s t v.clsW name (v.cls[j]).oop own=R at D ⊢
 obtain ⟨m,hm,hm'⟩:=D.stack
 have hd:=drop_all (s:=R.2.1) (m:=R.2.1.stack) rfl
 simp only [hst,List.length_nil]
 by_cases he:R.1.2=0
 ·refine ⟨fun h=>absurd he h,fun _=>?_⟩
  obtain ⟨c,n,ns,l,d,_,e1,e2,e3,e4⟩:=D.good he
  unfold kEnd
  rw [if_pos he,if_pos he]
  simp only [Int.natCast_zero,hd]
  have hg:=hn.grow D.wft D.pre
  have t1:=tx_some e3
  have t2:ns.map (tx R.2.2)=own:=by
   have h2:∀ (ns:List Nat) (own:List ByteArray),ns.map (fun n=>R.2.2.texts[n]?)=own.map some→ns.map (tx R.2.2)=own:=by
    intro ns
    induction ns with
    | nil=>intro own h;simp only [List.map_nil] at h;simpa using h.symm
    | cons a ns ih =>
     intro own h
     cases own with
     | nil=>simp at h
     | cons b own =>
      simp only [List.map_cons,List.cons.injEq] at h
      rw [List.map_cons,(tx_some h.1).1,ih own h.2]
   exact h2 ns own e4
  have t3:∀ x∈ns,x<R.2.2.texts.length:=fun x hx=>by
   have:R.2.2.texts[x]?∈own.map some:=by rw [←e4];exact List.mem_map.2 ⟨x,hx,rfl⟩
   obtain ⟨_,_,hs⟩:=List.mem_map.1 this
   exact (tx_some hs.symm).2
  refine ⟨n,ns,l,d,⟨by rw [e1];exact e2.nostack,?_,rfl⟩,D.pre,t1.1,t2⟩
  refine ⟨D.wft,fun x hx=>?_,fun x hx=>?_,hg.glob,?_⟩
  ·simp only [KV.addC,List.mem_append,List.mem_singleton] at hx
   rcases hx with hx | rfl
   ·exact hg.name x hx
   ·exact t1.2
  ·simp only [KV.addC,List.mem_append,List.mem_singleton] at hx
   rcases hx with hx | rfl
   ·exact hg.own x hx
   ·exact t3
  ·simp only [KV.addC,List.map_append,List.map_cons,List.map_nil]
   rw [List.nodup_append]
   refine ⟨hg.nodup,by simp,fun a ha b hb hab=>?_⟩
   simp only [List.mem_singleton] at hb
   subst hb
   subst hab
   obtain ⟨x,hx,hxn⟩:=List.mem_map.1 ha
   have:=hf x hx
   rw [←tx_pre D.pre (hn.name x hx),hxn] at this
   exact this t1.1
 ·refine ⟨fun _=>?_,fun h=>absurd h he⟩
  obtain ⟨b1,b2⟩:=D.bad he
  unfold kEnd
  rw [if_neg he,if_neg he]
  simp only [Int.natCast_zero,hd]
  have hb:=back_pre D.most D.pre
  rw [hb]
  by_cases h24:R.1.2=24
  ·rw [if_pos h24]
   exact ⟨trivial,⟨b1.nostack,hn,rfl⟩,rfl,b2⟩
  ·rw [if_neg h24]
   exact ⟨trivial,⟨b1.nostack.marks _,hn,rfl⟩,rfl,b2.trans ((marks_keeps _).mono fun _ _=>trivial)⟩
theorem kGlobal_ok {s:SP}{v:KV}{t:TB} (h:KAll s t v) (hlt:v.glob.length<256){name:ByteArray} :
  ((kGlobal s t (globW v.glob) name).1≠0→KAll (kGlobal s t (globW v.glob) name).2.1 (kGlobal s t (globW v.glob) name).2.2 v∧(kGlobal s t (globW v.glob) name).2.2=t∧KeepsB s.h (kGlobal s t (globW v.glob) name).2.1.h (Reaches s.h s.roots)) ∧
  ((kGlobal s t (globW v.glob) name).1=0→∃ n d,KAll (kGlobal s t (globW v.glob) name).2.1 (kGlobal s t (globW v.glob) name).2.2 (v.addG n d)∧(∃ m,(kGlobal s t (globW v.glob) name).2.2.texts=t.texts++m)∧tx (kGlobal s t (globW v.glob) name).2.2 n=name):=by
 obtain ⟨hk,hn,hst⟩:=h
 have D:=kGlob_ok hk (by rw [hst];simp) hlt hn.wf name
 unfold kGlobal
 generalize kGlob s t (globW v.glob) name=R at D ⊢
 have hd:=drop_all (s:=R.2.1) (m:=R.2.1.stack) rfl
 simp only [hst,List.length_nil]
 by_cases he:R.1=0
 ·refine ⟨fun h=>absurd he h,fun _=>?_⟩
  obtain ⟨n,d,e1,e2⟩:=D.good he
  unfold kEnd
  rw [if_pos he]
  simp only [Int.natCast_zero,hd]
  have hg:=hn.grow D.wft D.pre
  have t1:=tx_some e2
  refine ⟨n,d,⟨e1.nostack,{ hg with glob:=fun p hp=>?_ },rfl⟩,D.pre,t1.1⟩
  simp only [KV.addG,List.mem_append,List.mem_singleton] at hp
  rcases hp with hp | rfl
  ·exact hg.glob p hp
  ·exact t1.2
 ·refine ⟨fun _=>?_,fun h=>absurd h he⟩
  obtain ⟨b1,b2⟩:=D.bad he
  unfold kEnd
  rw [if_neg he]
  simp only [Int.natCast_zero,hd]
  have hb:=back_pre D.most D.pre
  rw [hb]
  by_cases h24:R.1=24
  ·rw [if_pos h24]
   exact ⟨⟨b1.nostack,hn,rfl⟩,rfl,b2⟩
  ·rw [if_neg h24]
   exact ⟨⟨b1.nostack.marks _,hn,rfl⟩,rfl,b2.trans ((marks_keeps _).mono fun _ _=>trivial)⟩
theorem KAll.marks {s:SP}{t:TB}{v:KV} (h:KAll s t v) (k:Int):KAll { s with h:=(s.h.marks k).2 } t v:=⟨h.ks.marks k,h.names,h.stack⟩
theorem KAll.collect {s:SP}{t:TB}{v:KV} (h:KAll s t v):KAll s.collect.2 t v:=by
 have hr:=collect_rest s
 exact ⟨⟨collect_wf h.ks.wf,collect_gc h.ks.gc,hr.2.2.trans h.ks.op,hr.1.trans h.ks.king,h.ks.view.keep (collect_keeps h.ks.wf.h) h.ks.reach,h.ks.sep,h.ks.shape⟩,h.names,hr.2.1.trans h.stack⟩
def KV.setG (v:KV) (i:Nat) (w:Int):KV:={ v with glob:=v.glob.set i ((v.glob.getD i (0,0)).1,w) }
theorem KAll.setG {s:SP}{t:TB}{v:KV} (h:KAll s t v){i:Nat} (hi:i<v.glob.length){w:Int} (hw:isW w) :
  (s.h.put v.globA (2*(i:Int)+1) w).1=0∧KAll { s with h:=(s.h.put v.globA (2*(i:Int)+1) w).2 } t (v.setG i w):=by
 obtain ⟨hk,hn,hst⟩:=h
 have hga:=hk.view.globs
 have hlen:=globW_len v.glob
 obtain ⟨p1,p2⟩:=put_arr hga (i:=2*(i:Int)+1) (w:=w) (by omega) (by omega) hw
 have pk:=put_keeps (r:=s.h) v.globA (2*(i:Int)+1) w
 have e0:(2*(i:Int)+1).toNat=2*i+1:=by omega
 rw [e0,globW_set hi] at p1
 have eg:v.glob.set i (v.glob[i].1,w)=(v.setG i w).glob:=by simp [KV.setG,hi]
 rw [eg] at p1
 have hs:=hk.sep
 have hne:(globW v.glob)≠[]:=fun e=>by rw [e] at hlen;simp at hlen;omega
 unfold Sep at hs
 simp only [KV.roles] at hs
 rw [List.pairwise_cons,List.pairwise_cons,List.pairwise_cons] at hs
 obtain ⟨hs1,hs2,hs3,hs4⟩:=hs
 have o1:(19:Int)≠v.globA:=fun e=>by
  have:=hs1 (v.globA,globW v.glob) (by simp) e
  simp [KV.rootW] at this
 have o2:v.clsA≠v.globA:=fun e=>by
  have:=hs2 (v.globA,globW v.glob) (by simp) e
  have hm:=hk.shape.many0
  simp only [KV.clsW,List.map_eq_nil_iff] at this
  rw [this] at hm;simp at hm
 have o3:∀ q∈(1,[]) :: (18,[]) :: croles v.cls 0,q.1≠v.globA:=fun q hq e=>hne (hs3 q hq e.symm)
 refine ⟨p2,⟨{ hk.wf with h:=put_wf hk.wf.h _ _ _ },put_gc hk.gc _ _ _,hk.op,hk.king,?_,?_,?_⟩,?_,hst⟩
 ·refine View.of ?_ ?_ p1 ?_ ?_ ?_
  ·exact (hk.view.root).keep pk o1
  ·exact (hk.view.all).keep pk o2
  ·exact (hk.view.nil).keep pk (o3 (1,[]) (by simp))
  ·exact (hk.view.empty).keep pk (o3 (18,[]) (by simp))
  ·intro p hp
   exact (hk.view p (by simp only [KV.setG] at hp;simp [KV.roles,hp])).keep pk (o3 p (by simp only [KV.setG] at hp;simp [hp]))
 ·unfold Sep
  simp only [KV.roles,KV.setG]
  refine List.pairwise_cons.2 ⟨fun q hq he=>?_,List.pairwise_cons.2 ⟨fun q hq he=>?_,List.pairwise_cons.2 ⟨fun q hq he=>?_,hs4⟩⟩⟩
  ·rcases List.mem_cons.1 hq with rfl | hq
   ·exact hs1 (v.clsA,v.clsW) (by simp) he
   ·rcases List.mem_cons.1 hq with rfl | hq
    ·exact absurd he o1
    ·exact hs1 q (by simp only [List.mem_cons];exact .inr (.inr (by simpa using hq))) he
  ·rcases List.mem_cons.1 hq with rfl | hq
   ·exact absurd he o2
   ·exact hs2 q (List.mem_cons_of_mem _ hq) he
  ·exact absurd he.symm (o3 q hq)
 ·exact { hk.shape with globs:=by simp only [KV.setG,List.length_set];exact hk.shape.globs }
 ·refine { hn with glob:=fun p hp=>?_ }
  simp only [KV.setG] at hp
  rcases List.mem_or_eq_of_mem_set hp with hp | rfl
  ·exact hn.glob p hp
  ·simp only [List.getD_eq_getElem?_getD,List.getElem?_eq_getElem hi,Option.getD_some]
   exact hn.glob _ (List.getElem_mem hi)
end Kw
namespace Kw
open Go
def oopW (w:Int):Int:=if kindW w=3 then w / 4 else 0
def numW (w:Int):Int:=if kindW w=1 then w / 2 else 0
def textW (t:TB) (w:Int):ByteArray:=if kindW w=2 then tx t (w / 4).toNat else ⟨#[]⟩
def kslot (r:RH) (o i:Int):Int:=(r.at o i).1
def koop (r:RH) (o i:Int):Int:=oopW (kslot r o i)
def knum (r:RH) (o i:Int):Int:=numW (kslot r o i)
def ktext (r:RH) (t:TB) (o i:Int):ByteArray:=textW t (kslot r o i)
def ksize (r:RH) (o:Int):Int:=(r.size o).1
theorem oopW_obj {o:Int} (h0:1≤o) (h1:o≤65536):oopW (4*o)=o:=by
 unfold oopW
 have:=kind_cases (4*o)
 rw [if_pos (by omega)];omega
theorem numW_int {n:Int} (h0:-1073741824≤n) (h1:n≤1073741823):numW (2*n+1)=n:=by
 unfold numW
 have:=kind_cases (2*n+1)
 rw [if_pos (by omega)];omega
theorem textW_sym {t:TB} (hw:WFT t){n:Nat} (h:n<t.texts.length):textW t (symW n)=tx t n:=by
 unfold textW symW
 have h1:=hw.m1
 have h2:=hw.len
 have:=kind_cases (4*(n:Int)+2)
 rw [if_pos (by omega)]
 congr 1;omega
theorem Arr.kslot {r:RH}{o:Int}{ws:List Int} (h:Arr r o ws){i:Nat} (hi:i<ws.length):kslot r o i=ws[i]:=by
 unfold Kw.kslot
 rw [h.at (by omega) (by omega)]
 simp
theorem Arr.ksize {r:RH}{o:Int}{ws:List Int} (h:Arr r o ws):ksize r o=ws.length:=by unfold Kw.ksize;rw [h.size]
theorem size_nonneg {r:RH} (o:Int):0≤ksize r o:=by
 unfold ksize RH.size
 cases objAt r.objs o with
 | none=>exact Int.le_refl 0
 | some x=>exact Int.natCast_nonneg _
theorem size_le {r:RH} (hw:WFH r) (o:Int):ksize r o≤8192:=by
 unfold ksize RH.size
 cases ho:objAt r.objs o with
 | none=>exact Int.le_of_lt (by decide)
 | some x=>have:=(hw.objs.good x (objAt_some ho).1).many;simp only;omega
def kwords (r:RH) (o:Int):List Int:=(List.range (ksize r o).toNat).map fun i:Nat=>kslot r o i
theorem Arr.kwords {r:RH}{o:Int}{ws:List Int} (h:Arr r o ws):kwords r o=ws:=by
 unfold Kw.kwords
 rw [h.ksize,Int.toNat_natCast]
 apply List.ext_getElem (by simp)
 intro i h1 h2
 simp only [List.getElem_map,List.getElem_range]
 exact h.kslot h2
section
variable {s:SP}{v:KV}{t:TB}
theorem KS.root0 (h:KS s v):koop s.h 19 0=v.clsA:=by
 have hb:=h.view.all.bnd h.wf.h
 have hr:=h.view.root
 unfold koop
 rw [show (0:Int)=((0:Nat):Int) from rfl,hr.kslot (by simp [KV.rootW])]
 exact oopW_obj hb.1 hb.2.1
theorem KS.root1 (h:KS s v):koop s.h 19 1=v.globA:=by
 have hb:=h.view.globs.bnd h.wf.h
 have hr:=h.view.root
 unfold koop
 rw [show (1:Int)=((1:Nat):Int) from rfl,hr.kslot (by simp [KV.rootW])]
 exact oopW_obj hb.1 hb.2.1
theorem KS.size0 (h:KS s v):ksize s.h v.clsA=v.cls.length:=by rw [h.view.all.ksize];simp [KV.clsW]
theorem KS.size1 (h:KS s v):ksize s.h v.globA=2*v.glob.length:=by rw [h.view.globs.ksize,globW_len];simp
theorem KS.clsAt (h:KS s v){i:Nat} (hi:i<v.cls.length):kslot s.h v.clsA i=4*(v.cls[i]).oop∧koop s.h v.clsA i=(v.cls[i]).oop:=by
 have hb:=(h.view.cls hi).bnd h.wf.h
 have e:kslot s.h v.clsA i=4*(v.cls[i]).oop:=by rw [h.view.all.kslot (by simpa [KV.clsW] using hi)];simp [KV.clsW]
 exact ⟨e,by unfold koop;rw [e];exact oopW_obj hb.1 hb.2.1⟩
theorem KS.globAt (h:KS s v){i:Nat} (hi:i<v.glob.length):kslot s.h v.globA (2*i:Nat)=symW v.glob[i].1∧kslot s.h v.globA (2*i+1:Nat)=v.glob[i].2:=by
 have hg:=globW_get hi
 have hl:=globW_len v.glob
 refine ⟨?_,?_⟩
 ·rw [h.view.globs.kslot (by omega)]
  have:=hg.1
  rw [List.getElem?_eq_getElem (by omega)] at this
  simpa using this
 ·rw [h.view.globs.kslot (by omega)]
  have:=hg.2
  rw [List.getElem?_eq_getElem (by omega)] at this
  simpa using this
theorem KS.c0 (h:KS s v){i:Nat} (hi:i<v.cls.length):kslot s.h (v.cls[i]).oop 0=symW (v.cls[i]).name:=(h.view.cls hi).kslot (i:=0) (by simp [CV.slots])
theorem KS.c1 (h:KS s v){i:Nat} (hi:i<v.cls.length):kslot s.h (v.cls[i]).oop 1=4*(v.cls[i]).up:=(h.view.cls hi).kslot (i:=1) (by simp [CV.slots])
theorem KS.c2 (h:KS s v){i:Nat} (hi:i<v.cls.length):kslot s.h (v.cls[i]).oop 2=4*(v.cls[i]).ownA:=(h.view.cls hi).kslot (i:=2) (by simp [CV.slots])
theorem KS.c3 (h:KS s v){i:Nat} (hi:i<v.cls.length):kslot s.h (v.cls[i]).oop 3=4*(v.cls[i]).selA:=(h.view.cls hi).kslot (i:=3) (by simp [CV.slots])
theorem KS.c4 (h:KS s v){i:Nat} (hi:i<v.cls.length):kslot s.h (v.cls[i]).oop 4=4*(v.cls[i]).metA:=(h.view.cls hi).kslot (i:=4) (by simp [CV.slots])
theorem KS.c5 (h:KS s v){i:Nat} (hi:i<v.cls.length):kslot s.h (v.cls[i]).oop 5=2*(v.cls[i]).lay+1:=(h.view.cls hi).kslot (i:=5) (by simp [CV.slots])
theorem KS.c6 (h:KS s v){i:Nat} (hi:i<v.cls.length):kslot s.h (v.cls[i]).oop 6=2*((i:Int)+1)+1:=(h.view.cls hi).kslot (i:=6) (by simp [CV.slots])
theorem KS.upB (h:KS s v){i:Nat} (hi:i<v.cls.length):1≤(v.cls[i]).up∧(v.cls[i]).up≤65536:=by
 by_cases h0:i=0
 ·subst h0;rw [(h.shape.up0 hi).1];decide
 ·obtain ⟨j,hj,_,e⟩:=h.shape.ups i hi (by omega)
  rw [←e]
  have:=(h.view.cls hj).bnd h.wf.h
  exact ⟨this.1,this.2.1⟩
theorem KS.up (h:KS s v){i:Nat} (hi:i<v.cls.length):koop s.h (v.cls[i]).oop 1=(v.cls[i]).up:=by
 unfold koop;rw [h.c1 hi];exact oopW_obj (h.upB hi).1 (h.upB hi).2
theorem KS.up1 (h:KS s v){i:Nat} (hi:i<v.cls.length):(v.cls[i]).up=1↔i=0:=by
 constructor
 ·intro e
  by_cases h0:i=0
  ·exact h0
  ·obtain ⟨j,hj,_,e'⟩:=h.shape.ups i hi (by omega)
   exact absurd (e'.trans e) (h.view.ne1 hj)
 ·rintro rfl;exact (h.shape.up0 hi).1
theorem KS.ownO (h:KS s v){i:Nat} (hi:i<v.cls.length):koop s.h (v.cls[i]).oop 2=(v.cls[i]).ownA:=by
 have hb:=(h.view.own hi).bnd h.wf.h
 unfold koop;rw [h.c2 hi];exact oopW_obj hb.1 hb.2.1
theorem KS.num (h:KS s v){i:Nat} (hi:i<v.cls.length):knum s.h (v.cls[i]).oop 6=(i:Int)+1:=by
 have:=h.shape.many1
 unfold knum;rw [h.c6 hi];exact numW_int (by omega) (by omega)
theorem KAll.name (h:KAll s t v){i:Nat} (hi:i<v.cls.length):ktext s.h t (v.cls[i]).oop 0=tx t (v.cls[i]).name:=by
 unfold ktext;rw [h.ks.c0 hi];exact textW_sym h.names.wf (h.names.name _ (List.getElem_mem hi))
theorem KAll.gname (h:KAll s t v){i:Nat} (hi:i<v.glob.length):ktext s.h t v.globA (2*i:Nat)=tx t v.glob[i].1:=by
 unfold ktext;rw [(h.ks.globAt hi).1];exact textW_sym h.names.wf (h.names.glob _ (List.getElem_mem hi))
theorem KAll.ownT (h:KAll s t v){i:Nat} (hi:i<v.cls.length){j:Nat} (hj:j<(v.cls[i]).own.length):ktext s.h t (v.cls[i]).ownA j=tx t (v.cls[i]).own[j]:=by
 unfold ktext
 rw [(h.ks.view.own hi).kslot (i:=j) (by simpa using hj)]
 simp only [List.getElem_map]
 exact textW_sym h.names.wf (h.names.own _ (List.getElem_mem hi) _ (List.getElem_mem hj))
theorem KS.ownL (h:KS s v){i:Nat} (hi:i<v.cls.length):ksize s.h (v.cls[i]).ownA=(v.cls[i]).own.length:=by rw [(h.view.own hi).ksize];simp
end
def plK (v:KV) (o:Int):Option Nat:=v.cls.findIdx? fun c=>decide (c.oop=o)
theorem plK_some {v:KV}{o:Int}{i:Nat} (h:plK v o=some i):∃ hi:i<v.cls.length,(v.cls[i]).oop=o:=by
 unfold plK at h
 rw [List.findIdx?_eq_some_iff_getElem] at h
 obtain ⟨hi,h1,_⟩:=h
 exact ⟨hi,by simpa using h1⟩
theorem plK_none {v:KV}{o:Int} (h:plK v o=none):∀ i (hi:i<v.cls.length),(v.cls[i]).oop≠o:=by
 unfold plK at h
 rw [List.findIdx?_eq_none_iff] at h
 intro i hi
 simpa using h _ (List.getElem_mem hi)
theorem KS.idx {s:SP}{v:KV} (h:KS s v){i:Nat} (hi:i<v.cls.length):plK v (v.cls[i]).oop=some i:=by
 cases hx:plK v (v.cls[i]).oop with
 | none=>exact absurd rfl (plK_none hx i hi)
 | some j =>
  obtain ⟨hj,e⟩:=plK_some hx
  rw [h.view.inj hj hi e]
def findK (v:KV) (t:TB) (name:ByteArray):Int × Int:=match v.cls.findIdx? (fun c=>decide (tx t c.name=name)) with
 | some i=>((v.cls.getD i ⟨0,0,0,[],0,0,0,[],[],0⟩).oop,0)
 | none=>(0,130)
def numberedK (v:KV) (n:Int):Int × Int:=if h:1≤n∧n≤v.cls.length then ((v.cls[(n-1).toNat]'(by omega)).oop,0) else (0,130)
def superK (v:KV) (i:Nat):Int:=match v.cls[i]? with
 | some c=>if c.up=1 then 0 else c.up
 | none=>0
def upIdx (v:KV) (i:Nat):Option Nat:=plK v (superK v i)
def fieldsK (v:KV) (i:Nat):List Nat:=match v.cls[i]? with
 | none=>[]
 | some c=>match upIdx v i with
  | some j=>if j<i then fieldsK v j++c.own else c.own
  | none=>c.own
termination_by i
theorem KS.upI {s:SP}{v:KV} (h:KS s v){i:Nat} (hi:i<v.cls.length):(i=0∧superK v i=0∧upIdx v i=none)∨(∃ j,∃ hj:j<v.cls.length,j<i∧superK v i=(v.cls[j]).oop∧(v.cls[i]).up=(v.cls[j]).oop∧upIdx v i=some j):=by
 have e:superK v i=if (v.cls[i]).up=1 then 0 else (v.cls[i]).up:=by unfold superK;rw [List.getElem?_eq_getElem hi]
 by_cases h0:i=0
 ·left
  have hu:(v.cls[i]).up=1:=(h.up1 hi).2 h0
  rw [if_pos hu] at e
  refine ⟨h0,e,?_⟩
  unfold Kw.upIdx
  rw [e]
  cases hx:plK v 0 with
  | none=>rfl
  | some j =>
   obtain ⟨hj,e'⟩:=plK_some hx
   have:=((h.view.cls hj).bnd h.wf.h).1
   omega
 ·right
  obtain ⟨j,hj,hlt,e'⟩:=h.shape.ups i hi (by omega)
  have hu:(v.cls[i]).up≠1:=fun hx=>h0 ((h.up1 hi).1 hx)
  rw [if_neg hu] at e
  refine ⟨j,hj,hlt,by rw [e,e'],e'.symm,?_⟩
  unfold Kw.upIdx
  rw [e,←e']
  exact h.idx hj
theorem KS.fields0 {s:SP}{v:KV} (h:KS s v) (h0:0<v.cls.length):fieldsK v 0=(v.cls[0]).own:=by
 rw [fieldsK,List.getElem?_eq_getElem h0]
 rcases h.upI h0 with ⟨_,_,e⟩ | ⟨j,_,hlt,_⟩
 ·simp only [e]
 ·omega
theorem KS.fieldsS {s:SP}{v:KV} (h:KS s v){i j:Nat} (hi:i<v.cls.length) (hj:j<i) (e:Kw.upIdx v i=some j):fieldsK v i=fieldsK v j++(v.cls[i]).own:=by
 rw [fieldsK,List.getElem?_eq_getElem hi]
 simp only [e,if_pos hj]
structure CI where
 name:ByteArray
 sup:ByteArray
 own:List ByteArray
 lay:Int
def infoK (v:KV) (t:TB) (i:Nat):CI:=match v.cls[i]? with
 | some c=>⟨tx t c.name,match upIdx v i with
  | some j=>match v.cls[j]? with
   | some d=>tx t d.name
   | none=>⟨#[]⟩
  | none=>⟨#[]⟩,c.own.map (tx t),c.lay⟩
 | none=>⟨⟨#[]⟩,⟨#[]⟩,[],0⟩
def globsK (v:KV) (t:TB):List ByteArray:=v.glob.map fun p=>tx t p.1
def valueK (v:KV) (i:Int):Int × Int:=if h:0≤i∧i<v.glob.length then ((v.glob[i.toNat]'(by omega)).2,0) else (0,1)
end Kw
namespace Kw
open Go
def setValueK (s:SP) (v:KV) (n w:Int):Int × SP:=if n<0∨(v.glob.length:Int)≤n then (1,s) else if ¬ isW w then (10,s) else ((s.h.put v.globA (2*n+1) w).1,{ s with h:=(s.h.put v.globA (2*n+1) w).2 })
theorem fields_len {s:SP}{v:KV} (h:KS s v):∀ i:Nat,i<v.cls.length→(fieldsK v i).length≤8192*(i+1):=by
 intro i
 induction i using Nat.strongRecOn with
 | ind i ih =>
  intro hi
  have hb:(v.cls[i]).own.length≤8192:=by have:=((h.view.own hi).bnd h.wf.h).2.2.1;simpa using this
  rcases h.upI hi with ⟨h0,_,_⟩ | ⟨j,hj,hlt,_,_,e⟩
  ·subst h0;rw [h.fields0 hi];omega
  ·rw [h.fieldsS hi hlt e,List.length_append]
   have:=ih j hlt hj
   omega
end Kw
namespace Go.Proofs.YtmkdkplipbocjaaGreatDoor
open Kw
theorem locB {H:Heap}{x v:Value}{t:TypeId}{fr:Nat × Nat}:setH (H.push (.cells #[x] t fr)) ⟨H.size,0,none⟩ v=H.push (.cells #[v] t fr):=by
 rw [setH_push];rfl
theorem Fr.late {H H2:Heap} (h:Fr [] H H2){b o:Nat}{v:Value} (hb:H.size≤b):Fr [] H (setH H2 ⟨b,o,none⟩ v) :=
 ⟨Nat.le_trans h.1 (Fr.set (F:=[b]) (H:=H2) (a:=⟨b,o,none⟩) (v:=v) (by simp)).1,fun c hc _=>by rw [setH_ne (by simp only;omega)];exact h.2 c hc (by simp)⟩
def PK (H:Heap) (b:Nat) (F:Foot) (s:SP) (t:TB):Prop:=∃ sb tb F1 F2,F=b :: (F1++F2)∧b∉F1∧b∉F2∧Disj F1 F2∧b≠g_word_kinds∧g_word_kinds∉F2 ∧
 Blk H b #[.pointer (some ⟨sb,0,none⟩),.pointer (some ⟨tb,0,none⟩)]∧PSp H sb F1 s∧PTb H tb F2 t
theorem PK.lt {H:Heap}{b:Nat}{F:Foot}{s:SP}{t:TB} (h:PK H b F s t):∀ x∈F,x<H.size:=by
 obtain ⟨sb,tb,F1,F2,rfl,h1,h2,h3,k1,k2,hB,hS,hT⟩:=h
 intro x hx
 rcases List.mem_cons.1 hx with rfl | hx
 ·exact hB.lt
 ·rcases List.mem_append.1 hx with hx | hx
  ·exact hS.lt x hx
  ·exact hT.lt x hx
theorem PK.bmem {H:Heap}{b:Nat}{F:Foot}{s:SP}{t:TB} (h:PK H b F s t):b∈F:=by obtain ⟨_,_,_,_,rfl,_⟩:=h;simp
theorem PK.kinds {H:Heap}{b:Nat}{F:Foot}{s:SP}{t:TB} (h:PK H b F s t):Kinds H:=by obtain ⟨_,_,_,_,_,_,_,_,_,_,_,hS,_⟩:=h;exact hS.kinds
theorem PK.gk {H:Heap}{b:Nat}{F:Foot}{s:SP}{t:TB} (h:PK H b F s t):g_word_kinds∉F:=by
 obtain ⟨sb,tb,F1,F2,rfl,h1,h2,h3,k1,k2,hB,hS,hT⟩:=h
 simp only [List.mem_cons,List.mem_append,not_or]
 exact ⟨fun e=>k1 e.symm,hS.gk,k2⟩
theorem PK.fr {H H':Heap}{b:Nat}{F G:Foot}{s:SP}{t:TB} (h:PK H b F s t) (hf:Fr G H H') (hd:Disj F G) (hg:g_word_kinds∉G):PK H' b F s t:=by
 obtain ⟨sb,tb,F1,F2,rfl,h1,h2,h3,k1,k2,hB,hS,hT⟩:=h
 exact ⟨sb,tb,F1,F2,rfl,h1,h2,h3,k1,k2,hB.fr hf (hd b (by simp)),hS.fr hf (hd.mono (fun x hx=>by simp [hx]) fun _ h=>h) hg,hT.fr hf (hd.mono (fun x hx=>by simp [hx]) fun _ h=>h)⟩
theorem PK.nil {H H':Heap}{b:Nat}{F:Foot}{s:SP}{t:TB} (h:PK H b F s t) (hf:Fr [] H H'):PK H' b F s t:=h.fr hf (Disj.nil_right _) (by simp)
theorem PK.wfs {H:Heap}{b:Nat}{F:Foot}{s:SP}{t:TB} (h:PK H b F s t):WFS s:=by obtain ⟨_,_,_,_,_,_,_,_,_,_,_,hS,_⟩:=h;exact hS.wf
theorem PK.wft {H:Heap}{b:Nat}{F:Foot}{s:SP}{t:TB} (h:PK H b F s t):WFT t:=by obtain ⟨_,_,_,_,_,_,_,_,_,_,_,_,hT⟩:=h;exact hT.wf
theorem PK.sp {H:Heap}{b:Nat}{F:Foot}{s:SP}{t:TB} (h:PK H b F s t):∃ sb F1,cellH H ⟨b,0,none⟩=some (.pointer (some ⟨sb,0,none⟩))∧PSp H sb F1 s∧(∀ x∈F1,x∈F)∧b∉F1 ∧
  (∀ H' F1' s',PSp H' sb F1' s'→Up F1 H F1' H'→∃ F',PK H' b F' s' t∧Up F H F' H')∧(∀ H' s',PSp H' sb F1 s'→Fr F1 H H'→PK H' b F s' t):=by
 have hlt:=h.lt
 have hgl:=h.kinds.lt
 obtain ⟨sb,tb,F1,F2,rfl,h1,h2,h3,k1,k2,hB,hS,hT⟩:=h
 refine ⟨sb,F1,hB.cell 0,hS,fun x hx=>by simp [hx],h1,fun H' F1' s' hS' hu=>⟨b :: (F1'++F2),⟨sb,tb,F1',F2,rfl,fun hx=>?_,h2,fun x hx hx2=>?_,k1,k2,hB.fr hu.1 h1,hS',hT.fr hu.1 h3.symm⟩,hu.1.mono fun x hx=>by simp [hx],fun x hx=>?_⟩,fun H' s' hS' hf=>⟨sb,tb,F1,F2,rfl,h1,h2,h3,k1,k2,hB.fr hf h1,hS',hT.fr hf h3.symm⟩⟩
 ·rcases hu.2 b hx with h4 | h4
  ·exact h1 h4
  ·have:=hlt b (by simp);omega
 ·rcases hu.2 x hx with h4 | h4
  ·exact h3 x h4 hx2
  ·have:=hlt x (by simp [hx2]);omega
 ·rcases List.mem_cons.1 hx with rfl | hx
  ·exact .inl (by simp)
  ·rcases List.mem_append.1 hx with hx | hx
   ·exact (hu.2 x hx).imp (fun h4=>by simp [h4]) id
   ·exact .inl (by simp [hx])
theorem PK.tb {H:Heap}{b:Nat}{F:Foot}{s:SP}{t:TB} (h:PK H b F s t):∃ tb F2,cellH H ⟨b,1,none⟩=some (.pointer (some ⟨tb,0,none⟩))∧PTb H tb F2 t∧(∀ x∈F2,x∈F)∧b∉F2 ∧
  (∀ H' F2' t',PTb H' tb F2' t'→Up F2 H F2' H'→∃ F',PK H' b F' s t'∧Up F H F' H')∧(∀ H' t',PTb H' tb F2 t'→Fr F2 H H'→PK H' b F s t'):=by
 have hlt:=h.lt
 have hgl:=h.kinds.lt
 obtain ⟨sb,tb,F1,F2,rfl,h1,h2,h3,k1,k2,hB,hS,hT⟩:=h
 have hgS:=hS.gk
 refine ⟨tb,F2,hB.cell 1,hT,fun x hx=>by simp [hx],h2,fun H' F2' t' hT' hu=>⟨b :: (F1++F2'),⟨sb,tb,F1,F2',rfl,h1,fun hx=>?_,fun x hx hx2=>?_,k1,fun hx=>?_,hB.fr hu.1 h2,hS.fr hu.1 h3 k2,hT'⟩,hu.1.mono fun x hx=>by simp [hx],fun x hx=>?_⟩,fun H' t' hT' hf=>⟨sb,tb,F1,F2,rfl,h1,h2,h3,k1,k2,hB.fr hf h2,hS.fr hf h3 k2,hT'⟩⟩
 ·rcases hu.2 b hx with h4 | h4
  ·exact h2 h4
  ·have:=hlt b (by simp);omega
 ·rcases hu.2 x hx2 with h4 | h4
  ·exact h3 x hx h4
  ·have:=hlt x (by simp [hx]);omega
 ·rcases hu.2 _ hx with h4 | h4
  ·exact k2 h4
  ·omega
 ·rcases List.mem_cons.1 hx with rfl | hx
  ·exact .inl (by simp)
  ·rcases List.mem_append.1 hx with hx | hx
   ·exact .inl (by simp [hx])
   ·exact (hu.2 x hx).imp (fun h4=>by simp [h4]) id
abbrev rd (b:Nat):Value:=.agg #[.pointer (some ⟨b,0,none⟩)]
section
variable {H:Heap}{b:Nat}{F:Foot}{s:SP}{t:TB}{Q:QT}
theorem there_c (hK:PK H b F s t) (h:Q (.bool true) H):callS PP n_k73 #[.pointer (some ⟨b,0,none⟩)] Q H:=by
 obtain ⟨sb,F1,hc,_⟩:=hK.sp
 apply k73_ok
 unfold k73 pV
 exact ⟨_,rfl,_,hc,h⟩
theorem slot_k (hK:PK H b F s t){o i:Int} (h:∀ H',Fr [] H H'→Q (.int .i64 (kslot s.h o i)) H'):callS PP n_k181 #[rd b,.int .i64 o,.int .i64 i] Q H:=by
 apply k181_ok
 unfold k181 A0 iV pV cS
 have hf:Fr [] H (H.push (.cells #[.pointer (some ⟨b,0,none⟩)] 131)):=Fr.push _ _ _
 obtain ⟨sb,F1,hc,hS,_⟩:=(hK.nil hf).sp
 refine ⟨_,(Blk.new _ _ _).cell 0,_,rfl,_,hc,psHeap_c hS fun hb F2 hR _ _=>⟨_,rfl,hat_c hR ⟨_,_,rfl,h _ hf⟩⟩⟩
theorem oop_k (hK:PK H b F s t){o i:Int} (h:∀ H',Fr [] H H'→Q (.int .i64 (koop s.h o i)) H'):callS PP n_k76 #[rd b,.int .i64 o,.int .i64 i] Q H:=by
 apply k76_ok
 unfold k76 A0 iV pV cS
 have hf:Fr [] H (H.push (.cells #[.pointer (some ⟨b,0,none⟩)] 131)):=Fr.push _ _ _
 have hK1:=hK.nil hf
 refine ⟨_,(Blk.new _ _ _).cell 0,slot_k hK1 fun H' hf'=>⟨_,rfl,oop_c (hK1.nil hf').kinds ?_⟩⟩
 have:=h H' (hf.trans hf')
 unfold koop oopW at this
 unfold ofW
 split
 ·rename_i hk;rw [if_pos hk] at this;exact ⟨_,_,rfl,this⟩
 ·rename_i hk;rw [if_neg hk] at this;exact ⟨_,_,rfl,this⟩
theorem num_k (hK:PK H b F s t){o i:Int} (h:∀ H',Fr [] H H'→Q (.int .i64 (knum s.h o i)) H'):callS PP n_k179 #[rd b,.int .i64 o,.int .i64 i] Q H:=by
 apply k179_ok
 unfold k179 A0 iV pV cS
 have hf:Fr [] H (H.push (.cells #[.pointer (some ⟨b,0,none⟩)] 131)):=Fr.push _ _ _
 have hK1:=hK.nil hf
 refine ⟨_,(Blk.new _ _ _).cell 0,slot_k hK1 fun H' hf'=>⟨_,rfl,num_c (hK1.nil hf').kinds ?_⟩⟩
 have:=h H' (hf.trans hf')
 unfold knum numW at this
 unfold ofW
 split
 ·rename_i hk;rw [if_pos hk] at this;exact ⟨_,_,rfl,this⟩
 ·rename_i hk;rw [if_neg hk] at this;exact ⟨_,_,rfl,this⟩
theorem text_k (hK:PK H b F s t){o i:Int} (h:∀ H',Fr [] H H'→Q (.string (ktext s.h t o i)) H'):callS PP n_k176 #[rd b,.int .i64 o,.int .i64 i] Q H:=by
 apply k176_ok
 unfold k176 A0 iV pV sV cS
 have hf:Fr [] H (H.push (.cells #[.pointer (some ⟨b,0,none⟩)] 131)):=Fr.push _ _ _
 have hK1:=hK.nil hf
 refine ⟨_,(Blk.new _ _ _).cell 0,slot_k hK1 fun H' hf'=>⟨_,rfl,symOf_c (hK1.nil hf').kinds ?_⟩⟩
 have hB':=(Blk.new H #[.pointer (some ⟨b,0,none⟩)] 131).fr hf' (by simp)
 have:=h H' (hf.trans hf')
 unfold ktext textW at this
 unfold ofW
 split
 ·rename_i hk
  rw [if_pos hk] at this
  refine ⟨_,_,rfl,?_⟩
  simp only [show ((0:Int) != 0)=false from rfl,cond_false]
  obtain ⟨tb,F2,hc,hT,_⟩:=(hK1.nil hf').tb
  refine ⟨_,hB'.cell 0,_,rfl,_,hc,ptText_c hT ?_⟩
  unfold textV
  by_cases hlt:0≤kslot s.h o i / 4∧kslot s.h o i / 4<t.texts.length
  ·rw [dif_pos hlt]
   refine ⟨_,_,rfl,?_⟩
   have e:t.texts[(kslot s.h o i / 4).toNat]'(by omega)=tx t (kslot s.h o i / 4).toNat:=by
    unfold tx
    rw [List.getD_eq_getElem?_getD,List.getElem?_eq_getElem (by omega)];rfl
   rw [e];exact this
  ·rw [dif_neg hlt]
   refine ⟨_,_,rfl,?_⟩
   have hk':=kind_cases (kslot s.h o i)
   have e:tx t (kslot s.h o i / 4).toNat=⟨#[]⟩:=by
    unfold tx
    rw [List.getD_eq_getElem?_getD,List.getElem?_eq_none (by omega)];rfl
   rw [e] at this;exact this
 ·rename_i hk
  rw [if_neg hk] at this
  exact ⟨_,_,rfl,this⟩
theorem size_k (hK:PK H b F s t){o:Int} (h:∀ H',Fr [] H H'→Q (.int .i64 (ksize s.h o)) H'):callS PP n_k75 #[rd b,.int .i64 o] Q H:=by
 apply k75_ok
 unfold k75 A0 iV pV cS
 have hf:Fr [] H (H.push (.cells #[.pointer (some ⟨b,0,none⟩)] 131)):=Fr.push _ _ _
 obtain ⟨sb,F1,hc,hS,_⟩:=(hK.nil hf).sp
 refine ⟨_,(Blk.new _ _ _).cell 0,_,rfl,_,hc,psHeap_c hS fun hb F2 hR _ _=>⟨_,rfl,hsize_c hR ⟨_,_,_,rfl,h _ hf⟩⟩⟩
theorem root_k (hK:PK H b F s t){i:Int} (h:∀ H',Fr [] H H'→Q (.int .i64 (koop s.h 19 i)) H'):callS PP n_k74 #[rd b,.int .i64 i] Q H:=by
 apply k74_ok
 unfold k74 A0 iV pV cS
 have hf:Fr [] H (H.push (.cells #[.pointer (some ⟨b,0,none⟩)] 131)):=Fr.push _ _ _
 exact ⟨_,(Blk.new _ _ _).cell 0,oop_k (hK.nil hf) fun H' hf'=>⟨_,rfl,h _ (hf.trans hf')⟩⟩
theorem super_k (hK:PK H b F s t){o:Int} (h:∀ H',Fr [] H H'→Q (.int .i64 (if koop s.h o 1=1 then 0 else koop s.h o 1)) H'):callS PP n_k180 #[rd b,.int .i64 o] Q H:=by
 apply k180_ok
 unfold k180 A0 iV pV cS
 have hf:Fr [] H (H.push (.cells #[.pointer (some ⟨b,0,none⟩)] 131)):=Fr.push _ _ _
 refine ⟨_,(Blk.new _ _ _).cell 0,oop_k (hK.nil hf) fun H' hf'=>⟨_,rfl,?_⟩⟩
 have:=h _ (hf.trans hf')
 rw [bneI,cond_dec]
 refine ite_i (fun h1=>?_) fun h1=>?_
 ·rw [if_neg h1] at this;exact this
 ·rw [if_pos (Classical.byContradiction h1)] at this;exact this
def ktexts (r:RH) (t:TB) (o:Int):List ByteArray:=(List.range (ksize r o).toNat).map fun i:Nat=>ktext r t o i
theorem texts_k (hK:PK H b F s t){o:Int} (h:∀ a l c G H',Own 1 H' a l c (strsV (ktexts s.h t o)) G→Fr [] H H'→(∀ x∈G,H.size≤x)→Q (.slice a l c) H'):callS PP n_k178 #[rd b,.int .i64 o] Q H:=by
 have hs1:sliceInfo PP 37=some (1,16,some (.string (⟨#[]⟩:ByteArray))):=by kernel_rfl
 have hn0:=size_nonneg (r:=s.h) o
 have hn1:=size_le hK.wfs.h o
 apply k178_ok
 unfold k178 A0 iV wW pV sV lV cS
 have hf:Fr [] H (H.push (.cells #[.pointer (some ⟨b,0,none⟩)] 131)):=Fr.push _ _ _
 refine ⟨_,(Blk.new _ _ _).cell 0,size_k (hK.nil hf) fun H0 hf0=>⟨_,rfl,?_⟩⟩
 have hB0:=(Blk.new H #[.pointer (some ⟨b,0,none⟩)] 131).fr hf0 (by simp)
 refine ⟨fun w H'=>∃(i:Nat) (a:Option Addr) (l' c:Nat) (G:Foot),w=[.slice a l' c,.int .i64 i]∧(i:Int)≤ksize s.h o∧Own 1 H' a l' c (strsV ((ktexts s.h t o).take i)) G∧Fr [] H0 H'∧(∀ x∈G,H0.size≤x),fun w _=>match w with
  | [_,.int _ i]=>(ksize s.h o-i).toNat
  | _=>0,⟨0,none,0,0,[],rfl,hn0,by simpa [strsV] using Own.nil 1 H0,Fr.refl _ _,by simp⟩,?_⟩
 rintro w H1 ⟨i,a1,l1,c1,G,rfl,hi,ho,hf1,hG⟩ _
 have hlen:(ktexts s.h t o).length=(ksize s.h o).toNat:=by simp [ktexts]
 have hl1:l1=i:=by have:=ho.len;simp only [strsV,List.length_map,List.length_take] at this;omega
 have hF1:Fr [] H H1:=(hf.trans hf0).trans hf1
 refine ⟨_,_,_,_,rfl,?_⟩
 rw [cond_dec]
 refine ite_i (fun hlt=>?_) fun hlt=>?_
 ·have htk:(ktexts s.h t o).take (i+1)=(ktexts s.h t o).take i++[ktext s.h t o i]:=by
   rw [List.take_add_one,List.getElem?_eq_getElem (by omega)];simp [ktexts]
  have e:IntKind.wrap .i64 ((i:Int)+1)=((i+1:Nat):Int):=by rw [wrap64_id (by omega) (by omega)];omega
  refine ⟨_,(hB0.fr hf1 (by simp)).cell 0,text_k (hK.nil hF1) fun H2 hf2=>⟨_,rfl,?_⟩⟩
  refine evS_append1 hs1 rfl (by kernel_rfl) (ho.fr hf2 (by simp)) rfl (by simp [oneC]) (by omega) (by decide) (by decide) fun a' c' G2 H3 g1 g2 g3=>⟨_,_,_,rfl,?_⟩
  have hfr:=Up.fresh (hf1.trans hf2) g2 hG
  rw [e]
  refine ⟨⟨i+1,a',l1+1,c',G2,rfl,by omega,?_,hfr.1,hfr.2⟩,by simp;omega⟩
  rw [htk,strsV_append];exact g1
 ·rw [List.take_of_length_le (by omega)] at ho
  exact h _ _ _ _ H1 ho hF1 fun x hx=>Nat.le_trans (hf.trans hf0).1 (hG x hx)
end
variable {Q:QT}{H:Heap}
abbrev n_k11:Nat:=11
def k11 (n1:Int) (n2:Int) (Q:QT) (H:Heap):Prop :=
 callS PP 55 #[iV n1,iV n2] (fun v3 H1=>∃ p4 n5,v3=.tuple #[pV p4,iV n5]∧cond (n5 != 0) (Q (.tuple #[pV none,iV n5]) H1) (cS 56 #[iV 4096] (fun v6 H2=>∃ p7 n8,v6=.tuple #[pV p7,iV n8]∧∃(I9:IT) (μ9:MT),I9 [iV 1] (H2.push (.cells #[pV p4,pV p7] 104))∧∀ w10 H3,I9 w10 H3→∀ _g:Nat→Value,∃ n11,w10=[iV n11]∧cond (decide (n11≤20)) (cS 57 #[iV n11] (fun v12 H4=>∃ n13 n14,v12=.tuple #[iV n13,iV n14]∧∃ q15,p4=some q15∧∃ p16,cellH H4 q15=some (pV p16)∧cS 59 #[iV n13] (fun v17 H5=>∃ n18,v17=iV n18∧((cellH H5 q15=some (pV p16)∧True)∧True)∧cS 58 #[pV p16,iV n18,iV n14,iV 0] (fun v19 H6=>∃ n20 n21,v19=.tuple #[iV n20,iV n21]∧True∧cond (n21 != 0) (Q (.tuple #[pV none,iV n21]) H6) (I9 [iV (wW (n11+1))] H6∧μ9 [iV (wW (n11+1))] H6<μ9 w10 H3)) H5) H4) H3) (∃(I22:IT) (μ22:MT),I22 [iV 0] H3∧∀ w23 H7,I22 w23 H7→∀ _g:Nat→Value,∃ n24,w23=[iV n24]∧cond (decide (n24<14)) (((0:Int)≤n24∧n24<(14:Int))∧∃ s25,cellH H7 ((A0 0).add (Int.toNat n24*1))=some (sV s25)∧cS 60 #[pV p7,sV s25] (fun v26 H8=>∃ n27 n28,v26=.tuple #[iV n27,iV n28]∧cS 59 #[iV 4] (fun v29 H9=>∃ n30,v29=iV n30∧∃ J31:IT,(cond (n24 == 0) (cS 59 #[iV 1] (fun v32 H10=>∃ n33,v32=iV n33∧J31 [iV n33] H10) H9) (J31 [iV n30] H9))∧∀ w34 H11,J31 w34 H11→∀ _g:Nat→Value,∃ n35,w34=[iV n35]∧cS 62 #[iV n24] (fun v36 H12=>∃ n37,v36=iV n37∧cS 59 #[iV 18] (fun v38 H13=>∃ n39,v38=iV n39∧cS 59 #[iV 18] (fun v40 H14=>∃ n41,v40=iV n41∧cS 59 #[iV 18] (fun v42 H15=>∃ n43,v42=iV n43∧cS 63 #[iV 0] (fun v44 H16=>∃ n45,v44=iV n45∧cS 63 #[iV (wW (n24+1))] (fun v46 H17=>∃ n47,v46=iV n47∧cS 61 #[pV (some (A0 H2.size)),iV (wW (4+n24)),lV (some (A0 H17.size)) 7 7] (fun v48 H18=>v48=.tuple #[]∧∃ q49,p4=some q49∧∃ p50,cellH H18 q49=some (pV p50)∧cS 59 #[iV (wW (4+n24))] (fun v51 H19=>∃ n52,v51=iV n52∧((cellH H19 q49=some (pV p50)∧True)∧True)∧cS 64 #[pV p50,iV 20,iV n24,iV n52] (fun v53 H20=>∃ n54,v53=iV n54∧True∧I22 [iV (wW (n24+1))] H20∧μ22 [iV (wW (n24+1))] H20<μ22 w23 H7) H19) H18) (H17.push (.cells #[iV n37,iV n35,iV n39,iV n41,iV n43,iV n45,iV n47] 36))) H16) H15) H14) H13) H12) H11) H8) H7) (cS 59 #[iV 20] (fun v55 H21=>∃ n56,v55=iV n56∧cS 59 #[iV 18] (fun v57 H22=>∃ n58,v57=iV n58∧cS 59 #[iV 18] (fun v59 H23=>∃ n60,v59=iV n60∧cS 59 #[iV 18] (fun v61 H24=>∃ n62,v61=iV n62∧cS 59 #[iV 1] (fun v63 H25=>∃ n64,v63=iV n64∧cS 59 #[iV 2] (fun v65 H26=>∃ n66,v65=iV n66∧cS 59 #[iV 3] (fun v67 H27=>∃ n68,v67=iV n68∧cS 59 #[iV 1] (fun v69 H28=>∃ n70,v69=iV n70∧cS 61 #[pV (some (A0 H2.size)),iV 19,lV (some (A0 H28.size)) 8 8] (fun v71 H29=>v71=.tuple #[]∧cS 65 #[pV p4,iV 19] (fun v72 H30=>∃ n73,v72=iV n73∧Q (.tuple #[pV (some (A0 H2.size)),iV 0]) H30) H29) (H28.push (.cells #[iV n56,iV n58,iV n60,iV n62,iV n64,iV n66,iV n68,iV n70] 36))) H27) H26) H25) H24) H23) H22) H21) H7))) H1)) H
theorem k11_ok {n1:Int}{n2:Int} (h:k11 n1 n2 Q H):callS PP 11 #[.int .i64 n1,.int .i64 n2] Q H :=
 callS_of good Tryz.func11 rfl (Ls:=fun | 7=>some [(11,3)] | 14=>some [(16,3)] | 1020=>some [(17,36)] | _=>none) (by kernel_rfl) h
abbrev n_k27:Nat:=27
def k27 (p1:Option Addr) (s2:ByteArray) (Q:QT) (H:Heap):Prop :=
 callS PP 114 #[sV s2] (fun v3 H1=>∃ b4,v3=.bool b4∧cond (!b4) (Q (iV 133) H1) (cS 115 #[pV p1,sV s2] (fun v5 H2=>∃ b6,v5=.bool b6∧cond b6 (Q (iV 131) H2) (cS 78 #[pV p1] (fun v7 H3=>∃ a8 l8 c8,v7=lV a8 l8 c8∧cond (decide ((l8:Int) ≥ 256)) (Q (iV 138) H3) (cS 116 #[pV p1] (fun v9 H4=>∃ p10,v9=pV p10∧cS 117 #[pV p1,lV (some (A0 H4.size)) 1 1] (fun v11 H5=>∃ a12 l12 c12 n13,v11=.tuple #[lV a12 l12 c12,iV n13]∧cond (n13 == 0) (∃ J14:IT,(((0:Int)≤0∧0<(l12:Int))∧∃ q15,a12=some q15∧∃ n16,cellH H5 (q15.add (Int.toNat 0*1))=some (iV n16)∧(cS 120 #[pV p1,iV 19,iV 1] (fun v17 H6=>∃ n18,v17=iV n18∧((cellH H6 (q15.add (Int.toNat 0*1))=some (iV n16)∧True)∧True)∧(cS 119 #[iV n18] (fun v19 H7=>∃ n20,v19=iV n20∧((cellH H7 (q15.add (Int.toNat 0*1))=some (iV n16)∧True)∧True)∧(cS 118 #[pV p1,iV n20] (fun v21 H8=>∃ a22 l22 c22,v21=lV a22 l22 c22∧((cellH H8 (q15.add (Int.toNat 0*1))=some (iV n16)∧True)∧True)∧True∧evS PP (Builtin.append_ #[108,108] 108 #[lV a22 l22 c22,lV (some (A0 H8.size)) 1 1]) (fun v23 H9=>∃ a24 l24 c24,v23=lV a24 l24 c24∧True∧J14 [lV a24 l24 c24] H9) (H8.push (.cells #[iV n16] 36))) H7)∧(True∧cS 118 #[pV p1,iV n20] (fun v25 H10=>∃ a26 l26 c26,v25=lV a26 l26 c26∧True∧evS PP (Builtin.append_ #[108,108] 108 #[lV a26 l26 c26,lV (some (A0 H7.size)) 1 1]) (fun v27 H11=>∃ a28 l28 c28,v27=lV a28 l28 c28∧True∧J14 [lV a28 l28 c28] H11) H10) (H7.push (.cells #[iV n16] 36)))) H6)∧(True∧cS 119 #[iV n18] (fun v29 H12=>∃ n30,v29=iV n30∧True∧cS 118 #[pV p1,iV n30] (fun v31 H13=>∃ a32 l32 c32,v31=lV a32 l32 c32∧True∧evS PP (Builtin.append_ #[108,108] 108 #[lV a32 l32 c32,lV (some (A0 H6.size)) 1 1]) (fun v33 H14=>∃ a34 l34 c34,v33=lV a34 l34 c34∧True∧J14 [lV a34 l34 c34] H14) H13) H12) (H6.push (.cells #[iV n16] 36)))) H5)∧(True∧cS 120 #[pV p1,iV 19,iV 1] (fun v35 H15=>∃ n36,v35=iV n36∧True∧cS 119 #[iV n36] (fun v37 H16=>∃ n38,v37=iV n38∧True∧cS 118 #[pV p1,iV n38] (fun v39 H17=>∃ a40 l40 c40,v39=lV a40 l40 c40∧True∧evS PP (Builtin.append_ #[108,108] 108 #[lV a40 l40 c40,lV (some (A0 H5.size)) 1 1]) (fun v41 H18=>∃ a42 l42 c42,v41=lV a42 l42 c42∧True∧J14 [lV a42 l42 c42] H18) H17) H16) H15) (H5.push (.cells #[iV n16] 36))))∧∀ w43 H19,J14 w43 H19→∀ _g:Nat→Value,∃ a44 l44 c44,w43=[lV a44 l44 c44]∧cS 59 #[iV 1] (fun v45 H20=>∃ n46,v45=iV n46∧evS PP (Builtin.append_ #[108,108] 108 #[lV a44 l44 c44,lV (some (A0 H20.size)) 1 1]) (fun v47 H21=>∃ a48 l48 c48,v47=lV a48 l48 c48∧cS 121 #[pV p1,iV 11,lV a48 l48 c48] (fun v49 H22=>∃ n50 n51,v49=.tuple #[iV n50,iV n51]∧cond (n51 == 0) (∃ q52,p1=some q52∧∃ p53,cellH H22 q52=some (pV p53)∧cS 122 #[pV p53,iV 1,iV n50] (fun v54 H23=>∃ n55,v54=iV n55∧cS 123 #[pV p1,pV p10,iV n51] (fun v56 H24=>∃ n57,v56=iV n57∧Q (iV n57) H24) H23) H22) (cS 123 #[pV p1,pV p10,iV n51] (fun v58 H25=>∃ n59,v58=iV n59∧Q (iV n59) H25) H22)) H21) (H20.push (.cells #[iV n46] 36))) H19) (cS 123 #[pV p1,pV p10,iV n13] (fun v60 H26=>∃ n61,v60=iV n61∧Q (iV n61) H26) H5)) (H4.push (.cells #[sV s2] 9))) H3)) H2)) H1)) H
theorem k27_ok {p1:Option Addr}{s2:ByteArray} (h:k27 p1 s2 Q H):callS PP 27 #[.pointer p1,.string s2] Q H :=
 callS_of good Tryz.func27 rfl (Ls:=fun | 1012=>some [(9,108)] | _=>none) (by kernel_rfl) h
abbrev n_k40:Nat:=40
def k40 (p1:Option Addr) (Q:QT) (H:Heap):Prop :=
 callS PP 120 #[pV p1,iV 19,iV 0] (fun v2 H1=>∃ n3,v2=iV n3∧cS 119 #[iV n3] (fun v4 H2=>∃ n5,v4=iV n5∧cS 118 #[pV p1,iV n5] (fun v6 H3=>∃ a7 l7 c7,v6=lV a7 l7 c7∧∃(I8:IT) (μ8:MT),I8 [lV none 0 0,iV 0] H3∧∀ w9 H4,I8 w9 H4→∀ _g:Nat→Value,∃ a10 l10 c10 n11,w9=[lV a10 l10 c10,iV n11]∧cond (decide (n11<(l7:Int))) (((0:Int)≤n11∧n11<(l7:Int))∧∃ q12,a7=some q12∧∃ n13,cellH H4 (q12.add (Int.toNat n11*1))=some (iV n13)∧cS 119 #[iV n13] (fun v14 H5=>∃ n15,v14=iV n15∧evS PP (Builtin.append_ #[66,66] 66 #[lV a10 l10 c10,lV (some (A0 H5.size)) 1 1]) (fun v16 H6=>∃ a17 l17 c17,v16=lV a17 l17 c17∧I8 [lV a17 l17 c17,iV (wW (n11+1))] H6∧μ8 [lV a17 l17 c17,iV (wW (n11+1))] H6<μ8 w9 H4) (H5.push (.cells #[iV n15] 3))) H4) (Q (lV a10 l10 c10) H4)) H2) H1) H
theorem k40_ok {p1:Option Addr} (h:k40 p1 Q H):callS PP 40 #[.pointer p1] Q H :=
 callS_of good Tryz.func40 rfl (Ls:=fun | 4=>some [(4,66),(5,3)] | _=>none) (by kernel_rfl) h
abbrev n_k61:Nat:=61
def k61 (p1:Option Addr) (n2:Int) (a3:Option Addr) (l3:Nat) (_c3:Nat) (Q:QT) (H:Heap):Prop :=
 ∃(I4:IT) (μ4:MT),I4 [iV 0] H∧∀ w5 H1,I4 w5 H1→∀ _g:Nat→Value,∃ n6,w5=[iV n6]∧cond (decide (n6<(l3:Int))) (∃ q7,p1=some q7∧∃ p8,cellH H1 q7=some (pV p8)∧∃ q9,p8=some q9∧∃ p10,cellH H1 q9=some (pV p10)∧((0:Int)≤n6∧n6<(l3:Int))∧∃ q11,a3=some q11∧∃ n12,cellH H1 (q11.add (Int.toNat n6*1))=some (iV n12)∧cS 64 #[pV p10,iV n2,iV n6,iV n12] (fun v13 H2=>∃ n14,v13=iV n14∧True∧I4 [iV (wW (n6+1))] H2∧μ4 [iV (wW (n6+1))] H2<μ4 w5 H1) H1) (Q (.tuple #[]) H1)
theorem k61_ok {p1:Option Addr}{n2:Int}{a3:Option Addr}{l3:Nat}{c3:Nat} (h:k61 p1 n2 a3 l3 c3 Q H):callS PP 61 #[.pointer p1,.int .i64 n2,.slice a3 l3 c3] Q H :=
 callS_of good Tryz.func61 rfl (Ls:=fun | 1=>some [(6,3)] | _=>none) (by kernel_rfl) h
abbrev n_k78:Nat:=78
def k78 (p1:Option Addr) (Q:QT) (H:Heap):Prop :=
 callS PP 120 #[pV p1,iV 19,iV 1] (fun v2 H1=>∃ n3,v2=iV n3∧cS 119 #[iV n3] (fun v4 H2=>∃ n5,v4=iV n5∧cS 118 #[pV p1,iV n5] (fun v6 H3=>∃ a7 l7 c7,v6=lV a7 l7 c7∧∃(I8:IT) (μ8:MT),I8 [lV none 0 0,iV 0] H3∧∀ w9 H4,I8 w9 H4→∀ _g:Nat→Value,∃ a10 l10 c10 n11,w9=[lV a10 l10 c10,iV n11]∧cond (decide ((wW (n11+1))<(l7:Int))) (((0:Int)≤n11∧n11<(l7:Int))∧∃ q12,a7=some q12∧∃ n13,cellH H4 (q12.add (Int.toNat n11*1))=some (iV n13)∧cS 158 #[pV p1,iV n13] (fun v14 H5=>∃ s15,v14=sV s15∧evS PP (Builtin.append_ #[37,37] 37 #[lV a10 l10 c10,lV (some (A0 H5.size)) 1 1]) (fun v16 H6=>∃ a17 l17 c17,v16=lV a17 l17 c17∧I8 [lV a17 l17 c17,iV (wW (n11+2))] H6∧μ8 [lV a17 l17 c17,iV (wW (n11+2))] H6<μ8 w9 H4) (H5.push (.cells #[sV s15] 9))) H4) (Q (lV a10 l10 c10) H4)) H2) H1) H
theorem k78_ok {p1:Option Addr} (h:k78 p1 Q H):callS PP 78 #[.pointer p1] Q H :=
 callS_of good Tryz.func78 rfl (Ls:=fun | 4=>some [(4,37),(5,3)] | _=>none) (by kernel_rfl) h
abbrev n_k103:Nat:=103
def k103 (p1:Option Addr) (s2:ByteArray) (s3:ByteArray) (a4:Option Addr) (l4:Nat) (c4:Nat) (Q:QT) (H:Heap):Prop :=
 callS PP 208 #[pV p1,sV s2,sV s3,lV a4 l4 c4] (fun v5 H1=>∃ n6 n7,v5=.tuple #[iV n6,iV n7]∧cond (n7 != 0) (Q (.tuple #[iV 0,iV n7]) H1) (cS 116 #[pV p1] (fun v8 H2=>∃ p9,v8=pV p9∧cS 209 #[pV p1,sV s2,iV n6,lV a4 l4 c4] (fun v10 H3=>∃ n11 n12,v10=.tuple #[iV n11,iV n12]∧cS 123 #[pV p1,pV p9,iV n12] (fun v13 H4=>∃ n14,v13=iV n14∧cond (n14 != 0) (Q (.tuple #[iV 0,iV n14]) H4) (Q (.tuple #[iV n11,iV 0]) H4)) H3) H2) H1)) H
theorem k103_ok {p1:Option Addr}{s2:ByteArray}{s3:ByteArray}{a4:Option Addr}{l4:Nat}{c4:Nat} (h:k103 p1 s2 s3 a4 l4 c4 Q H):callS PP 103 #[.pointer p1,.string s2,.string s3,.slice a4 l4 c4] Q H :=
 okF Tryz.func103 rfl h
abbrev n_k105:Nat:=105
def k105 (p1:Option Addr) (n2:Int) (n3:Int) (Q:QT) (H:Heap):Prop :=
 callS PP 106 #[pV p1,iV n2] (fun v4 H1=>∃ n5 n6,v4=.tuple #[iV n5,iV n6]∧cond (n6 != 0) (Q (iV n6) H1) (cS 210 #[iV n3] (fun v7 H2=>∃ b8,v7=.bool b8∧cond (!b8) (Q (iV 10) H2) (∃ q9,p1=some q9∧∃ p10,cellH H2 q9=some (pV p10)∧∃ q11,p10=some q11∧∃ p12,cellH H2 q11=some (pV p12)∧cS 120 #[pV p1,iV 19,iV 1] (fun v13 H3=>∃ n14,v13=iV n14∧((cellH H3 q11=some (pV p12)∧True)∧((cellH H3 q9=some (pV p10)∧True)∧True))∧cS 119 #[iV n14] (fun v15 H4=>∃ n16,v15=iV n16∧((cellH H4 q11=some (pV p12)∧True)∧((cellH H4 q9=some (pV p10)∧True)∧True))∧cS 64 #[pV p12,iV n16,iV (wW ((wW (2*n2))+1)),iV n3] (fun v17 H5=>∃ n18,v17=iV n18∧True∧Q (iV n18) H5) H4) H3) H2)) H1)) H
theorem k105_ok {p1:Option Addr}{n2:Int}{n3:Int} (h:k105 p1 n2 n3 Q H):callS PP 105 #[.pointer p1,.int .i64 n2,.int .i64 n3] Q H :=
 okF Tryz.func105 rfl h
abbrev n_k106:Nat:=106
def k106 (p1:Option Addr) (n2:Int) (Q:QT) (H:Heap):Prop :=
 cond (decide (n2<0)) (Q (.tuple #[iV 0,iV 1]) H) (cS 78 #[pV p1] (fun v3 H1=>∃ a4 l4 c4,v3=lV a4 l4 c4∧cond (decide (n2 ≥ (l4:Int))) (Q (.tuple #[iV 0,iV 1]) H1) (cS 120 #[pV p1,iV 19,iV 1] (fun v5 H2=>∃ n6,v5=iV n6∧cS 119 #[iV n6] (fun v7 H3=>∃ n8,v7=iV n8∧cS 120 #[pV p1,iV n8,iV (wW ((wW (2*n2))+1))] (fun v9 H4=>∃ n10,v9=iV n10∧Q (.tuple #[iV n10,iV 0]) H4) H3) H2) H1)) H)
theorem k106_ok {p1:Option Addr}{n2:Int} (h:k106 p1 n2 Q H):callS PP 106 #[.pointer p1,.int .i64 n2] Q H :=
 okF Tryz.func106 rfl h
abbrev n_k110:Nat:=110
def k110 (p1:Option Addr) (s2:ByteArray) (Q:QT) (H:Heap):Prop :=
 callS PP 40 #[pV p1] (fun v3 H1=>∃ a4 l4 c4,v3=lV a4 l4 c4∧∃(I5:IT) (μ5:MT),I5 [iV 0] H1∧∀ w6 H2,I5 w6 H2→∀ _g:Nat→Value,∃ n7,w6=[iV n7]∧cond (decide (n7<(l4:Int))) (((0:Int)≤n7∧n7<(l4:Int))∧∃ q8,a4=some q8∧∃ n9,cellH H2 (q8.add (Int.toNat n7*1))=some (iV n9)∧cS 120 #[pV p1,iV n9,iV 0] (fun v10 H3=>∃ n11,v10=iV n11∧cS 158 #[pV p1,iV n11] (fun v12 H4=>∃ s13,v12=sV s13∧cond (strEq s13 s2) (((0:Int)≤n7∧n7<(l4:Int))∧∃ q14,a4=some q14∧∃ n15,cellH H4 (q14.add (Int.toNat n7*1))=some (iV n15)∧Q (.tuple #[iV n15,iV 0]) H4) (I5 [iV (wW (n7+1))] H4∧μ5 [iV (wW (n7+1))] H4<μ5 w6 H2)) H3) H2) (Q (.tuple #[iV 0,iV 130]) H2)) H
theorem k110_ok {p1:Option Addr}{s2:ByteArray} (h:k110 p1 s2 Q H):callS PP 110 #[.pointer p1,.string s2] Q H :=
 callS_of good Tryz.func110 rfl (Ls:=fun | 3=>some [(7,3)] | _=>none) (by kernel_rfl) h
abbrev n_k115:Nat:=115
def k115 (p1:Option Addr) (s2:ByteArray) (Q:QT) (H:Heap):Prop :=
 callS PP 110 #[pV p1,sV s2] (fun v3 H1=>∃ n4 n5,v3=.tuple #[iV n4,iV n5]∧cS 78 #[pV p1] (fun v6 H2=>∃ a7 l7 c7,v6=lV a7 l7 c7∧∃(I8:IT) (μ8:MT),I8 [iV 0] H2∧∀ w9 H3,I8 w9 H3→∀ _g:Nat→Value,∃ n10,w9=[iV n10]∧cond (decide (n10<(l7:Int))) (((0:Int)≤n10∧n10<(l7:Int))∧∃ q11,a7=some q11∧∃ s12,cellH H3 (q11.add (Int.toNat n10*1))=some (sV s12)∧cond (strEq s12 s2) (Q (.bool true) H3) (I8 [iV (wW (n10+1))] H3∧μ8 [iV (wW (n10+1))] H3<μ8 w9 H3)) (Q (.bool (n5 == 0)) H3)) H1) H
theorem k115_ok {p1:Option Addr}{s2:ByteArray} (h:k115 p1 s2 Q H):callS PP 115 #[.pointer p1,.string s2] Q H :=
 callS_of good Tryz.func115 rfl (Ls:=fun | 4=>some [(8,3)] | _=>none) (by kernel_rfl) h
abbrev n_k116:Nat:=116
def k116 (p1:Option Addr) (Q:QT) (H:Heap):Prop :=
 ∃ q2,p1=some q2∧∃ p3,cellH H (q2.add 1)=some (pV p3)∧∃ q4,p1=some q4∧∃ p5,cellH H q4=some (pV p5)∧∃ q6,p5=some q6∧∃ p7,cellH H q6=some (pV p7)∧∃ q8,p1=some q8∧∃ p9,cellH H q8=some (pV p9)∧∃ q10,p9=some q10∧∃ a11 l11 c11,cellH H (q10.add 2)=some (lV a11 l11 c11)∧cS 214 #[pV p3] (fun v12 H1=>∃ n13,v12=iV n13∧((cellH H1 (q10.add 2)=some (lV a11 l11 c11)∧True)∧((cellH H1 q8=some (pV p9)∧True)∧((cellH H1 q6=some (pV p7)∧True)∧((cellH H1 q4=some (pV p5)∧True)∧True))))∧cS 82 #[pV p7] (fun v14 H2=>∃ n15,v14=iV n15∧((cellH H2 (q10.add 2)=some (lV a11 l11 c11)∧True)∧((cellH H2 q8=some (pV p9)∧True)∧True))∧True∧Q (pV (some (A0 H2.size))) (H2.push (.cells #[iV n13,iV n15,iV (l11:Int)] 257))) H1) H
theorem k116_ok {p1:Option Addr} (h:k116 p1 Q H):callS PP 116 #[.pointer p1] Q H :=
 okF Tryz.func116 rfl h
abbrev n_k117:Nat:=117
def k117 (p1:Option Addr) (a2:Option Addr) (l2:Nat) (_c2:Nat) (Q:QT) (H:Heap):Prop :=
 ∃(I3:IT) (μ3:MT),I3 [lV none 0 0,iV 0] H∧∀ w4 H1,I3 w4 H1→∀ _g:Nat→Value,∃ a5 l5 c5 n6,w4=[lV a5 l5 c5,iV n6]∧cond (decide (n6<(l2:Int))) (∃ q7,p1=some q7∧∃ p8,cellH H1 (q7.add 1)=some (pV p8)∧((0:Int)≤n6∧n6<(l2:Int))∧∃ q9,a2=some q9∧∃ s10,cellH H1 (q9.add (Int.toNat n6*1))=some (sV s10)∧cS 60 #[pV p8,sV s10] (fun v11 H2=>∃ n12 n13,v11=.tuple #[iV n12,iV n13]∧True∧cond (n13 != 0) (Q (.tuple #[lV none 0 0,iV n13]) H2) (cS 62 #[iV n12] (fun v14 H3=>∃ n15,v14=iV n15∧evS PP (Builtin.append_ #[108,108] 108 #[lV a5 l5 c5,lV (some (A0 H3.size)) 1 1]) (fun v16 H4=>∃ a17 l17 c17,v16=lV a17 l17 c17∧I3 [lV a17 l17 c17,iV (wW (n6+1))] H4∧μ3 [lV a17 l17 c17,iV (wW (n6+1))] H4<μ3 w4 H1) (H3.push (.cells #[iV n15] 36))) H2)) H1) (Q (.tuple #[lV a5 l5 c5,iV 0]) H1)
theorem k117_ok {p1:Option Addr}{a2:Option Addr}{l2:Nat}{c2:Nat} (h:k117 p1 a2 l2 c2 Q H):callS PP 117 #[.pointer p1,.slice a2 l2 c2] Q H :=
 callS_of good Tryz.func117 rfl (Ls:=fun | 3=>some [(6,108),(7,3)] | _=>none) (by kernel_rfl) h
abbrev n_k118:Nat:=118
def k118 (p1:Option Addr) (n2:Int) (Q:QT) (H:Heap):Prop :=
 ∃ q3,p1=some q3∧∃ p4,cellH H q3=some (pV p4)∧∃ q5,p4=some q5∧∃ p6,cellH H q5=some (pV p6)∧cS 201 #[pV p6,iV n2] (fun v7 H1=>∃ n8 n9 n10,v7=.tuple #[iV n8,iV n9,iV n10]∧∃(I11:IT) (μ11:MT),I11 [lV none 0 0,iV 0] H1∧∀ w12 H2,I11 w12 H2→∀ _g:Nat→Value,∃ a13 l13 c13 n14,w12=[lV a13 l13 c13,iV n14]∧cond (decide (n14<n8)) (cS 120 #[pV p1,iV n2,iV n14] (fun v15 H3=>∃ n16,v15=iV n16∧evS PP (Builtin.append_ #[108,108] 108 #[lV a13 l13 c13,lV (some (A0 H3.size)) 1 1]) (fun v17 H4=>∃ a18 l18 c18,v17=lV a18 l18 c18∧I11 [lV a18 l18 c18,iV (wW (n14+1))] H4∧μ11 [lV a18 l18 c18,iV (wW (n14+1))] H4<μ11 w12 H2) (H3.push (.cells #[iV n16] 36))) H2) (Q (lV a13 l13 c13) H2)) H
theorem k118_ok {p1:Option Addr}{n2:Int} (h:k118 p1 n2 Q H):callS PP 118 #[.pointer p1,.int .i64 n2] Q H :=
 callS_of good Tryz.func118 rfl (Ls:=fun | 4=>some [(8,108),(9,3)] | _=>none) (by kernel_rfl) h
abbrev n_k120:Nat:=120
def k120 (p1:Option Addr) (n2:Int) (n3:Int) (Q:QT) (H:Heap):Prop :=
 ∃ q4,p1=some q4∧∃ p5,cellH H q4=some (pV p5)∧∃ q6,p5=some q6∧∃ p7,cellH H q6=some (pV p7)∧cS 215 #[pV p7,iV n2,iV n3] (fun v8 H1=>∃ n9 n10,v8=.tuple #[iV n9,iV n10]∧Q (iV n9) H1) H
theorem k120_ok {p1:Option Addr}{n2:Int}{n3:Int} (h:k120 p1 n2 n3 Q H):callS PP 120 #[.pointer p1,.int .i64 n2,.int .i64 n3] Q H :=
 okF Tryz.func120 rfl h
abbrev n_k121:Nat:=121
def k121 (p1:Option Addr) (n2:Int) (a3:Option Addr) (l3:Nat) (c3:Nat) (Q:QT) (H:Heap):Prop :=
 ∃ J4:IT,(cond (n2 == 11) (cond ((l3:Int) == 0) (cS 59 #[iV 18] (fun v5 H1=>∃ n6,v5=iV n6∧Q (.tuple #[iV n6,iV 0]) H1) H) (J4 [] H)) (J4 [] H))∧∀ w7 H2,J4 w7 H2→∀ _g:Nat→Value,w7=[]∧∃ q8,p1=some q8∧∃ p9,cellH H2 q8=some (pV p9)∧cS 59 #[iV n2] (fun v10 H3=>∃ n11,v10=iV n11∧((cellH H3 q8=some (pV p9)∧True)∧True)∧cS 216 #[pV p9,iV n11,iV (l3:Int),iV 0] (fun v12 H4=>∃ n13 n14,v12=.tuple #[iV n13,iV n14]∧True∧cond (n14 != 0) (Q (.tuple #[iV 0,iV n14]) H4) (cS 119 #[iV n13] (fun v15 H5=>∃ n16,v15=iV n16∧cS 61 #[pV p1,iV n16,lV a3 l3 c3] (fun v17 H6=>v17=.tuple #[]∧∃ q18,p1=some q18∧∃ p19,cellH H6 q18=some (pV p19)∧cS 217 #[pV p19,lV (some (A0 H6.size)) 1 1] (fun v20 H7=>∃ n21,v20=iV n21∧Q (.tuple #[iV n13,iV n21]) H7) (H6.push (.cells #[iV n13] 36))) H5) H4)) H3) H2
theorem k121_ok {p1:Option Addr}{n2:Int}{a3:Option Addr}{l3:Nat}{c3:Nat} (h:k121 p1 n2 a3 l3 c3 Q H):callS PP 121 #[.pointer p1,.int .i64 n2,.slice a3 l3 c3] Q H :=
 callS_of good Tryz.func121 rfl (Ls:=fun | 1003=>some [] | _=>none) (by kernel_rfl) h
abbrev n_k123:Nat:=123
def k123 (p1:Option Addr) (p2:Option Addr) (n3:Int) (Q:QT) (H:Heap):Prop :=
 ∃ q4,p1=some q4∧∃ p5,cellH H q4=some (pV p5)∧∃ q6,p1=some q6∧∃ p7,cellH H q6=some (pV p7)∧∃ q8,p7=some q8∧∃ a9 l9 c9,cellH H (q8.add 2)=some (lV a9 l9 c9)∧∃ q10,p2=some q10∧∃ n11,cellH H (q10.add 2)=some (iV n11)∧cS 218 #[pV p5,iV (wW ((l9:Int)-n11))] (fun v12 H1=>∃ n13,v12=iV n13∧True∧cond (n3 == 0) (Q (iV 0) H1) (∃ q14,p1=some q14∧∃ p15,cellH H1 (q14.add 1)=some (pV p15)∧∃ q16,p2=some q16∧∃ n17,cellH H1 q16=some (iV n17)∧cS 219 #[pV p15,iV n17] (fun v18 H2=>∃ n19,v18=iV n19∧True∧cond (n3 != 24) (∃ q20,p1=some q20∧∃ p21,cellH H2 q20=some (pV p21)∧∃ q22,p21=some q22∧∃ p23,cellH H2 q22=some (pV p23)∧∃ q24,p2=some q24∧∃ n25,cellH H2 (q24.add 1)=some (iV n25)∧cS 107 #[pV p23,iV n25] (fun v26 H3=>∃ n27,v26=iV n27∧True∧Q (iV n3) H3) H2) (Q (iV n3) H2)) H1)) H
theorem k123_ok {p1:Option Addr}{p2:Option Addr}{n3:Int} (h:k123 p1 p2 n3 Q H):callS PP 123 #[.pointer p1,.pointer p2,.int .i64 n3] Q H :=
 okF Tryz.func123 rfl h
abbrev n_k125:Nat:=125
def k125 (p1:Option Addr) (n2:Int) (Q:QT) (H:Heap):Prop :=
 callS PP 220 #[pV p1,iV n2] (fun v3 H1=>∃ n4,v3=iV n4∧cond (n4 == 0) (Q (.tuple #[lV none 0 0,iV 130]) H1) (cS 223 #[pV p1] (fun v5 H2=>∃ a6 l6 c6,v5=lV a6 l6 c6∧cS 222 #[lV a6 l6 c6,iV (wW (n4-1)),iV (-1),lV none 0 0] (fun v7 H3=>∃ a8 l8 c8,v7=lV a8 l8 c8∧Q (.tuple #[lV a8 l8 c8,iV 0]) H3) H2) H1)) H
theorem k125_ok {p1:Option Addr}{n2:Int} (h:k125 p1 n2 Q H):callS PP 125 #[.pointer p1,.int .i64 n2] Q H :=
 okF Tryz.func125 rfl h
abbrev n_k158:Nat:=158
def k158 (p1:Option Addr) (n2:Int) (Q:QT) (H:Heap):Prop :=
 cond ((Int.tmod n2 4) != 2) (Q (sV (⟨#[]⟩:ByteArray)) H) (∃ q3,p1=some q3∧∃ p4,cellH H (q3.add 1)=some (pV p4)∧cS 241 #[pV p4,iV (wW (Int.tdiv (wW (n2-2)) 4))] (fun v5 H1=>∃ s6 n7,v5=.tuple #[sV s6,iV n7]∧Q (sV s6) H1) H)
theorem k158_ok {p1:Option Addr}{n2:Int} (h:k158 p1 n2 Q H):callS PP 158 #[.pointer p1,.int .i64 n2] Q H :=
 okF Tryz.func158 rfl h
abbrev n_k189:Nat:=189
def k189 (p1:Option Addr) (n2:Int) (Q:QT) (H:Heap):Prop :=
 callS PP 220 #[pV p1,iV n2] (fun v3 H1=>∃ n4,v3=iV n4∧cond (n4 == 0) (Q (.tuple #[iV 0,iV 130]) H1) (Q (.tuple #[iV n4,iV 0]) H1)) H
theorem k189_ok {p1:Option Addr}{n2:Int} (h:k189 p1 n2 Q H):callS PP 189 #[.pointer p1,.int .i64 n2] Q H :=
 okF Tryz.func189 rfl h
abbrev n_k191:Nat:=191
def k191 (p1:Option Addr) (n2:Int) (Q:QT) (H:Heap):Prop :=
 callS PP 220 #[pV p1,iV n2] (fun v3 H1=>∃ n4,v3=iV n4∧cond (n4 == 0) (Q (.tuple #[iV 0,iV 130]) H1) (cS 224 #[pV p1,iV n2] (fun v5 H2=>∃ n6,v5=iV n6∧Q (.tuple #[iV n6,iV 0]) H2) H1)) H
theorem k191_ok {p1:Option Addr}{n2:Int} (h:k191 p1 n2 Q H):callS PP 191 #[.pointer p1,.int .i64 n2] Q H :=
 okF Tryz.func191 rfl h
abbrev n_k208:Nat:=208
def k208 (p1:Option Addr) (s2:ByteArray) (s3:ByteArray) (a4:Option Addr) (l4:Nat) (_c4:Nat) (Q:QT) (H:Heap):Prop :=
 callS PP 114 #[sV s2] (fun v5 H1=>∃ b6,v5=.bool b6∧cond (!b6) (Q (.tuple #[iV 0,iV 133]) H1) (cS 115 #[pV p1,sV s2] (fun v7 H2=>∃ b8,v7=.bool b8∧cond b8 (Q (.tuple #[iV 0,iV 131]) H2) (cS 110 #[pV p1,sV s3] (fun v9 H3=>∃ n10 n11,v9=.tuple #[iV n10,iV n11]∧cond (n11 != 0) (Q (.tuple #[iV 0,iV 130]) H3) (cS 220 #[pV p1,iV n10] (fun v12 H4=>∃ n13,v12=iV n13∧∃ J14:IT,(cond (decide (n13 > 1)) (cond (decide (n13≤14)) (Q (.tuple #[iV 0,iV 132]) H4) (J14 [] H4)) (J14 [] H4))∧∀ w15 H5,J14 w15 H5→∀ _g:Nat→Value,w15=[]∧cS 125 #[pV p1,iV n10] (fun v16 H6=>∃ a17 l17 c17 n18,v16=.tuple #[lV a17 l17 c17,iV n18]∧∃(I19:IT) (μ19:MT),I19 [iV 0] H6∧∀ w20 H7,I19 w20 H7→∀ _g:Nat→Value,∃ n21,w20=[iV n21]∧cond (decide (n21<(l4:Int))) (((0:Int)≤n21∧n21<(l4:Int))∧∃ q22,a4=some q22∧∃ s23,cellH H7 (q22.add (Int.toNat n21*1))=some (sV s23)∧cS 260 #[sV s23] (fun v24 H8=>∃ b25,v24=.bool b25∧cond (!b25) (Q (.tuple #[iV 0,iV 133]) H8) (∃(I26:IT) (μ26:MT),I26 [iV 0] H8∧∀ w27 H9,I26 w27 H9→∀ _g:Nat→Value,∃ n28,w27=[iV n28]∧cond (decide (n28<n21)) (((0:Int)≤n28∧n28<(l4:Int))∧∃ q29,a4=some q29∧∃ s30,cellH H9 (q29.add (Int.toNat n28*1))=some (sV s30)∧((0:Int)≤n21∧n21<(l4:Int))∧∃ q31,a4=some q31∧∃ s32,cellH H9 (q31.add (Int.toNat n21*1))=some (sV s32)∧cond (strEq s30 s32) (Q (.tuple #[iV 0,iV 134]) H9) (I26 [iV (wW (n28+1))] H9∧μ26 [iV (wW (n28+1))] H9<μ26 w27 H9)) (∃(I33:IT) (μ33:MT),I33 [iV 0] H9∧∀ w34 H10,I33 w34 H10→∀ _g:Nat→Value,∃ n35,w34=[iV n35]∧cond (decide (n35<(l17:Int))) (((0:Int)≤n35∧n35<(l17:Int))∧∃ q36,a17=some q36∧∃ s37,cellH H10 (q36.add (Int.toNat n35*1))=some (sV s37)∧((0:Int)≤n21∧n21<(l4:Int))∧∃ q38,a4=some q38∧∃ s39,cellH H10 (q38.add (Int.toNat n21*1))=some (sV s39)∧cond (strEq s37 s39) (Q (.tuple #[iV 0,iV 135]) H10) (I33 [iV (wW (n35+1))] H10∧μ33 [iV (wW (n35+1))] H10<μ33 w34 H10)) (I19 [iV (wW (n21+1))] H10∧μ19 [iV (wW (n21+1))] H10<μ19 w20 H7)))) H7) (cond (decide ((wW ((l17:Int)+(l4:Int))) > 32)) (Q (.tuple #[iV 0,iV 137]) H7) (cS 40 #[pV p1] (fun v40 H11=>∃ a41 l41 c41,v40=lV a41 l41 c41∧cond (decide ((l41:Int) ≥ 256)) (Q (.tuple #[iV 0,iV 138]) H11) (Q (.tuple #[iV n10,iV 0]) H11)) H7))) H5) H3)) H2)) H1)) H
theorem k208_ok {p1:Option Addr}{s2:ByteArray}{s3:ByteArray}{a4:Option Addr}{l4:Nat}{c4:Nat} (h:k208 p1 s2 s3 a4 l4 c4 Q H):callS PP 208 #[.pointer p1,.string s2,.string s3,.slice a4 l4 c4] Q H :=
 callS_of good Tryz.func208 rfl (Ls:=fun | 1011=>some [] | 13=>some [(15,3)] | 18=>some [(16,3)] | 23=>some [(17,3)] | _=>none) (by kernel_rfl) h
abbrev n_k209:Nat:=209
def k209 (p1:Option Addr) (s2:ByteArray) (n3:Int) (a4:Option Addr) (l4:Nat) (c4:Nat) (Q:QT) (H:Heap):Prop :=
 callS PP 117 #[pV p1,lV (some (A0 H.size)) 1 1] (fun v5 H1=>∃ a6 l6 c6 n7,v5=.tuple #[lV a6 l6 c6,iV n7]∧cond (n7 != 0) (Q (.tuple #[iV 0,iV n7]) H1) (cS 117 #[pV p1,lV a4 l4 c4] (fun v8 H2=>∃ a9 l9 c9 n10,v8=.tuple #[lV a9 l9 c9,iV n10]∧cond (n10 != 0) (Q (.tuple #[iV 0,iV n10]) H2) (cS 121 #[pV p1,iV 11,lV a9 l9 c9] (fun v11 H3=>∃ n12 n13,v11=.tuple #[iV n12,iV n13]∧cond (n13 != 0) (Q (.tuple #[iV 0,iV n13]) H3) (cS 120 #[pV p1,iV 19,iV 0] (fun v14 H4=>∃ n15,v14=iV n15∧cS 119 #[iV n15] (fun v16 H5=>∃ n17,v16=iV n17∧cS 118 #[pV p1,iV n17] (fun v18 H6=>∃ a19 l19 c19,v18=lV a19 l19 c19∧((0:Int)≤0∧0<(l6:Int))∧∃ q20,a6=some q20∧∃ n21,cellH H6 (q20.add (Int.toNat 0*1))=some (iV n21)∧cS 59 #[iV n3] (fun v22 H7=>∃ n23,v22=iV n23∧((cellH H7 (q20.add (Int.toNat 0*1))=some (iV n21)∧True)∧True)∧cS 59 #[iV 18] (fun v24 H8=>∃ n25,v24=iV n25∧((cellH H8 (q20.add (Int.toNat 0*1))=some (iV n21)∧True)∧True)∧cS 59 #[iV 18] (fun v26 H9=>∃ n27,v26=iV n27∧((cellH H9 (q20.add (Int.toNat 0*1))=some (iV n21)∧True)∧True)∧cS 63 #[iV 0] (fun v28 H10=>∃ n29,v28=iV n29∧((cellH H10 (q20.add (Int.toNat 0*1))=some (iV n21)∧True)∧True)∧cS 63 #[iV (wW ((l19:Int)+1))] (fun v30 H11=>∃ n31,v30=iV n31∧((cellH H11 (q20.add (Int.toNat 0*1))=some (iV n21)∧True)∧True)∧True∧cS 121 #[pV p1,iV 12,lV (some (A0 H11.size)) 7 7] (fun v32 H12=>∃ n33 n34,v32=.tuple #[iV n33,iV n34]∧True∧cond (n34 != 0) (Q (.tuple #[iV 0,iV n34]) H12) (evS PP (Builtin.append_ #[108,108] 108 #[lV a19 l19 c19,lV (some (A0 H12.size)) 1 1]) (fun v35 H13=>∃ a36 l36 c36,v35=lV a36 l36 c36∧cS 121 #[pV p1,iV 11,lV a36 l36 c36] (fun v37 H14=>∃ n38 n39,v37=.tuple #[iV n38,iV n39]∧cond (n39 != 0) (Q (.tuple #[iV 0,iV n39]) H14) (∃ q40,p1=some q40∧∃ p41,cellH H14 q40=some (pV p41)∧cS 122 #[pV p41,iV 0,iV n38] (fun v42 H15=>∃ n43,v42=iV n43∧cS 119 #[iV n33] (fun v44 H16=>∃ n45,v44=iV n45∧Q (.tuple #[iV n45,iV 0]) H16) H15) H14)) H13) (H12.push (.cells #[iV n33] 36)))) (H11.push (.cells #[iV n21,iV n23,iV n12,iV n25,iV n27,iV n29,iV n31] 36))) H10) H9) H8) H7) H6) H5) H4) H3)) H2)) H1)) (H.push (.cells #[sV s2] 9))
theorem k209_ok {p1:Option Addr}{s2:ByteArray}{n3:Int}{a4:Option Addr}{l4:Nat}{c4:Nat} (h:k209 p1 s2 n3 a4 l4 c4 Q H):callS PP 209 #[.pointer p1,.string s2,.int .i64 n3,.slice a4 l4 c4] Q H :=
 okF Tryz.func209 rfl h
abbrev n_k220:Nat:=220
def k220 (p1:Option Addr) (n2:Int) (Q:QT) (H:Heap):Prop :=
 callS PP 40 #[pV p1] (fun v3 H1=>∃ a4 l4 c4,v3=lV a4 l4 c4∧∃(I5:IT) (μ5:MT),I5 [iV 0] H1∧∀ w6 H2,I5 w6 H2→∀ _g:Nat→Value,∃ n7,w6=[iV n7]∧cond (decide (n7<(l4:Int))) (((0:Int)≤n7∧n7<(l4:Int))∧∃ q8,a4=some q8∧∃ n9,cellH H2 (q8.add (Int.toNat n7*1))=some (iV n9)∧cond (n9 == n2) (cond (decide (n2 > 0)) (Q (iV (wW (n7+1))) H2) (I5 [iV (wW (n7+1))] H2∧μ5 [iV (wW (n7+1))] H2<μ5 w6 H2)) (I5 [iV (wW (n7+1))] H2∧μ5 [iV (wW (n7+1))] H2<μ5 w6 H2)) (Q (iV 0) H2)) H
theorem k220_ok {p1:Option Addr}{n2:Int} (h:k220 p1 n2 Q H):callS PP 220 #[.pointer p1,.int .i64 n2] Q H :=
 callS_of good Tryz.func220 rfl (Ls:=fun | 3=>some [(6,3)] | _=>none) (by kernel_rfl) h
abbrev n_k221:Nat:=221
def k221 (p1:Option Addr) (n2:Int) (Q:QT) (H:Heap):Prop :=
 callS PP 120 #[pV p1,iV n2,iV 0] (fun v3 H1=>∃ n4,v3=iV n4∧cS 158 #[pV p1,iV n4] (fun v5 H2=>∃ s6,v5=sV s6∧cS 120 #[pV p1,iV n2,iV 2] (fun v7 H3=>∃ n8,v7=iV n8∧cS 119 #[iV n8] (fun v9 H4=>∃ n10,v9=iV n10∧cS 264 #[pV p1,iV n10] (fun v11 H5=>∃ a12 l12 c12,v11=lV a12 l12 c12∧cS 120 #[pV p1,iV n2,iV 5] (fun v13 H6=>∃ n14,v13=iV n14∧cS 265 #[iV n14] (fun v15 H7=>shH (H7.push (.cells #[sV (⟨#[]⟩:ByteArray),sV (⟨#[]⟩:ByteArray),lV none 0 0,iV 0] 121)) fun C8=>shH (setH C8 (A0 H7.size) (sV s6)) fun C3=>shH (setH C3 ((A0 H7.size).add 1) (sV (⟨#[]⟩:ByteArray))) fun C7=>∃ n16,v15=iV n16∧Wr C8 (A0 H7.size)∧Wr C3 ((A0 H7.size).add 1)∧Wr C7 ((A0 H7.size).add 2)∧Wr (setH C7 ((A0 H7.size).add 2) (lV a12 l12 c12)) ((A0 H7.size).add 3)∧cS 224 #[pV p1,iV n2] (fun v17 H8=>∃ n18,v17=iV n18∧cond (n18 != 0) (cS 120 #[pV p1,iV n18,iV 0] (fun v19 H9=>∃ n20,v19=iV n20∧cS 158 #[pV p1,iV n20] (fun v21 H10=>∃ s22:ByteArray,shH (setH H10 ((A0 H7.size).add 1) (sV s22)) fun C4=>v21=sV s22∧Wr H10 ((A0 H7.size).add 1)∧∃ s23,cellH C4 (A0 H7.size)=some (sV s23)∧∃ s24:ByteArray,shH (setH (setH C4 (A0 H.size) (sV s23)) ((A0 H.size).add 1) (sV s24)) fun C5=>cellH C4 ((A0 H7.size).add 1)=some (sV s24)∧∃ a25 l25 c25,cellH C4 ((A0 H7.size).add 2)=some (lV a25 l25 c25)∧∃ n26:Int,shH (setH (setH C5 ((A0 H.size).add 2) (lV a25 l25 c25)) ((A0 H.size).add 3) (iV n26)) fun C1=>cellH C4 ((A0 H7.size).add 3)=some (iV n26)∧Wr C4 (A0 H.size)∧Wr (setH C4 (A0 H.size) (sV s23)) ((A0 H.size).add 1)∧Wr C5 ((A0 H.size).add 2)∧Wr (setH C5 ((A0 H.size).add 2) (lV a25 l25 c25)) ((A0 H.size).add 3)∧∃ s27,cellH C1 (A0 H.size)=some (sV s27)∧∃ s28,cellH C1 ((A0 H.size).add 1)=some (sV s28)∧∃ a29 l29 c29,cellH C1 ((A0 H.size).add 2)=some (lV a29 l29 c29)∧∃ n30,cellH C1 ((A0 H.size).add 3)=some (iV n30)∧Q (.agg #[sV s27,sV s28,lV a29 l29 c29,iV n30]) C1) H9) H8) (∃ s31,cellH H8 (A0 H7.size)=some (sV s31)∧∃ s32:ByteArray,shH (setH (setH H8 (A0 H.size) (sV s31)) ((A0 H.size).add 1) (sV s32)) fun C6=>cellH H8 ((A0 H7.size).add 1)=some (sV s32)∧∃ a33 l33 c33,cellH H8 ((A0 H7.size).add 2)=some (lV a33 l33 c33)∧∃ n34:Int,shH (setH (setH C6 ((A0 H.size).add 2) (lV a33 l33 c33)) ((A0 H.size).add 3) (iV n34)) fun C2=>cellH H8 ((A0 H7.size).add 3)=some (iV n34)∧Wr H8 (A0 H.size)∧Wr (setH H8 (A0 H.size) (sV s31)) ((A0 H.size).add 1)∧Wr C6 ((A0 H.size).add 2)∧Wr (setH C6 ((A0 H.size).add 2) (lV a33 l33 c33)) ((A0 H.size).add 3)∧∃ s35,cellH C2 (A0 H.size)=some (sV s35)∧∃ s36,cellH C2 ((A0 H.size).add 1)=some (sV s36)∧∃ a37 l37 c37,cellH C2 ((A0 H.size).add 2)=some (lV a37 l37 c37)∧∃ n38,cellH C2 ((A0 H.size).add 3)=some (iV n38)∧Q (.agg #[sV s35,sV s36,lV a37 l37 c37,iV n38]) C2)) (setH (setH C7 ((A0 H7.size).add 2) (lV a12 l12 c12)) ((A0 H7.size).add 3) (iV n16))) H6) H5) H4) H3) H2) H1) (H.push (.cells #[sV (⟨#[]⟩:ByteArray),sV (⟨#[]⟩:ByteArray),lV none 0 0,iV 0] 121))
theorem k221_ok {p1:Option Addr}{n2:Int} (h:k221 p1 n2 Q H):callS PP 221 #[.pointer p1,.int .i64 n2] Q H :=
 okF Tryz.func221 rfl h
abbrev n_k223:Nat:=223
def k223 (p1:Option Addr) (Q:QT) (H:Heap):Prop :=
 callS PP 40 #[pV p1] (fun v2 H1=>∃ a3 l3 c3,v2=lV a3 l3 c3∧∃(I4:IT) (μ4:MT),I4 [lV none 0 0,iV 0] H1∧∀ w5 H2,I4 w5 H2→∀ _g:Nat→Value,∃ a6 l6 c6 n7,w5=[lV a6 l6 c6,iV n7]∧cond (decide (n7<(l3:Int))) (((0:Int)≤n7∧n7<(l3:Int))∧∃ q8,a3=some q8∧∃ n9,cellH H2 (q8.add (Int.toNat n7*1))=some (iV n9)∧cS 221 #[pV p1,iV n9] (fun v10 H3=>∃ s11 s12 a13 l13 c13 n14,v10=.agg #[sV s11,sV s12,lV a13 l13 c13,iV n14]∧evS PP (Builtin.append_ #[40,40] 40 #[lV a6 l6 c6,lV (some (A0 H3.size)) 1 1]) (fun v15 H4=>∃ a16 l16 c16,v15=lV a16 l16 c16∧I4 [lV a16 l16 c16,iV (wW (n7+1))] H4∧μ4 [lV a16 l16 c16,iV (wW (n7+1))] H4<μ4 w5 H2) (H3.push (.cells #[sV s11,sV s12,lV a13 l13 c13,iV n14] 121))) H2) (Q (lV a6 l6 c6) H2)) H
theorem k223_ok {p1:Option Addr} (h:k223 p1 Q H):callS PP 223 #[.pointer p1] Q H :=
 callS_of good Tryz.func223 rfl (Ls:=fun | 4=>some [(4,40),(5,3)] | _=>none) (by kernel_rfl) h
abbrev n_k224:Nat:=224
def k224 (p1:Option Addr) (n2:Int) (Q:QT) (H:Heap):Prop :=
 callS PP 120 #[pV p1,iV n2,iV 1] (fun v3 H1=>∃ n4,v3=iV n4∧cS 119 #[iV n4] (fun v5 H2=>∃ n6,v5=iV n6∧cond (n6 == 1) (Q (iV 0) H2) (Q (iV n6) H2)) H1) H
theorem k224_ok {p1:Option Addr}{n2:Int} (h:k224 p1 n2 Q H):callS PP 224 #[.pointer p1,.int .i64 n2] Q H :=
 okF Tryz.func224 rfl h
abbrev n_k264:Nat:=264
def k264 (p1:Option Addr) (n2:Int) (Q:QT) (H:Heap):Prop :=
 callS PP 118 #[pV p1,iV n2] (fun v3 H1=>∃ a4 l4 c4,v3=lV a4 l4 c4∧∃(I5:IT) (μ5:MT),I5 [lV none 0 0,iV 0] H1∧∀ w6 H2,I5 w6 H2→∀ _g:Nat→Value,∃ a7 l7 c7 n8,w6=[lV a7 l7 c7,iV n8]∧cond (decide (n8<(l4:Int))) (((0:Int)≤n8∧n8<(l4:Int))∧∃ q9,a4=some q9∧∃ n10,cellH H2 (q9.add (Int.toNat n8*1))=some (iV n10)∧cS 158 #[pV p1,iV n10] (fun v11 H3=>∃ s12,v11=sV s12∧evS PP (Builtin.append_ #[37,37] 37 #[lV a7 l7 c7,lV (some (A0 H3.size)) 1 1]) (fun v13 H4=>∃ a14 l14 c14,v13=lV a14 l14 c14∧I5 [lV a14 l14 c14,iV (wW (n8+1))] H4∧μ5 [lV a14 l14 c14,iV (wW (n8+1))] H4<μ5 w6 H2) (H3.push (.cells #[sV s12] 9))) H2) (Q (lV a7 l7 c7) H2)) H
theorem k264_ok {p1:Option Addr}{n2:Int} (h:k264 p1 n2 Q H):callS PP 264 #[.pointer p1,.int .i64 n2] Q H :=
 callS_of good Tryz.func264 rfl (Ls:=fun | 4=>some [(6,37),(7,3)] | _=>none) (by kernel_rfl) h
end Go.Proofs.YtmkdkplipbocjaaGreatDoor
