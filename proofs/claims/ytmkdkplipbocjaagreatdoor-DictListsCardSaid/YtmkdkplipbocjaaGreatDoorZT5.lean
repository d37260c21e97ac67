/- Lemmas for RDLists: functions of the program as predicate transformers, and their contracts. -/
import Derived.Test.YtmkdkplipbocjaaGreatDoorZT4
import Derived.Deep.DeepHandedRow
set_option linter.all false
set_option maxRecDepth 100000
set_option maxHeartbeats 4000000
namespace Go.Proofs.YtmkdkplipbocjaaGreatDoor
open Kw
structure DC (t:TB) (c:CV) (ns:List Nat):Prop where
 sel:c.sels=ns.map bD
 num:∀ n∈ns,n<t.texts.length
 srt:(ns.map (tx t)).Pairwise jn
 len:c.mets.length=ns.length
 obj:∀ w∈c.mets,∃ o,w=4*o∧1<=o∧o<=65536
 most:ns.length<=128
def KD (v:KV) (t:TB):Prop:=∀ c∈v.cls,∃ ns,DC t c ns
def bM (t:TB) (c:CV):List ByteArray:=c.sels.map (pP t)
theorem DC.texts {t:TB}{c:CV}{ns:List Nat} (h:DC t c ns) (hw:WFT t):bM t c=ns.map (tx t):=by
 unfold bM
 rw [h.sel,List.map_map]
 exact List.map_congr_left fun n hn=>jN hw (h.num n hn)
theorem DC.grow {t t':TB}{c:CV}{ns:List Nat} (h:DC t c ns) (hp:∃ l,t'.texts=t.texts++l):DC t' c ns:=by
 have e:ns.map (tx t')=ns.map (tx t):=List.map_congr_left fun n hn=>rl hp (h.num n hn)
 obtain ⟨l,hl⟩:=hp
 exact ⟨h.sel,fun n hn=>by have:=h.num n hn;rw [hl,List.length_append];omega,by rw [e];exact h.srt,h.len,h.obj,h.most⟩
theorem DC.empty {t:TB}{c:CV} (h1:c.sels=[]) (h2:c.mets=[]):DC t c []:=⟨h1,by simp,by simp,by simp [h2],by simp [h2],by simp⟩
structure Ext (v v':KV) (t t':TB):Prop where
 cls:∃ l,v'.cls=v.cls++l∧∀ c∈l,c.sels=[]∧c.mets=[]
 txt:∃ l,t'.texts=t.texts++l
theorem Ext.refl (v:KV) (t:TB):Ext v v t t:=⟨⟨[],by simp,by simp⟩,[],by simp⟩
theorem Ext.of_cls {v v':KV} (h:v'.cls=v.cls) (t:TB):Ext v v' t t:=⟨⟨[],by simp [h],by simp⟩,[],by simp⟩
theorem KD.ext {v v':KV}{t t':TB} (h:KD v t) (he:Ext v v' t t'):KD v' t':=fun c hc=>by
 obtain ⟨l,hl,hn⟩:=he.cls
 rw [hl] at hc
 rcases List.mem_append.1 hc with hc | hc
 ·obtain ⟨ns,hd⟩:=h c hc
  exact ⟨ns,hd.grow he.txt⟩
 ·exact ⟨[],DC.empty (hn c hc).1 (hn c hc).2⟩
theorem ox {s:SP}{v:KV}{t:TB} (hv:KAll s t v) (name sup:ByteArray) (own:List ByteArray):∃ v',KAll (bF s v t name sup own).2.1 (bF s v t name sup own).2.2 v'∧Ext v v' t (bF s v t name sup own).2.2:=by
 unfold bF
 by_cases h:(i9 v t name sup own).2=0
 ·rw [if_neg (by simpa using h)]
  obtain ⟨j,hj,ej,hlt,hno,_,_⟩:=mU hv h
  rw [ej]
  have A:=oF hv hj hlt (name:=name) (own:=own) hno
  by_cases he:(cO s t v.clsW name (v.cls[j]).oop own).1.2=0
  ·obtain ⟨n,ns,l,d,h1,h2,_⟩:=A.2 he
   exact ⟨_,h1,⟨[_],rfl,by simp⟩,h2⟩
  ·obtain ⟨_,h1,h2,_⟩:=A.1 he
   exact ⟨v,h1,⟨[],by simp,by simp⟩,[],by rw [h2];simp⟩
 ·rw [if_pos h];exact ⟨v,hv,Ext.refl v t⟩
theorem pg {s:SP}{v:KV}{t:TB} (hv:KAll s t v) (n w:Int):∃ v',KAll (eV s v n w).2 t v'∧Ext v v' t t:=by
 unfold eV
 split
 ·exact ⟨v,hv,Ext.refl v t⟩
 split
 ·exact ⟨v,hv,Ext.refl v t⟩
 ·rename_i h1 h2
  have:=(hv.setG (i:=n.toNat) (by omega) (w:=w) (Classical.byContradiction h2)).2
  have e:((n.toNat:Nat):Int)=n:=by omega
  rw [e] at this
  exact ⟨_,this,Ext.of_cls (v:=v) (v':=v.setG n.toNat w) rfl t⟩
theorem vQ {s:SP}{v:KV}{t:TB} (hv:KAll s t v) (x:ByteArray):KAll s (t.add x).2 v∧Ext v v t (t.add x).2 :=
 have hp:=(np t x).2
 ⟨⟨hv.ks,hv.names.grow (ib hv.names.wf x) hp,hv.stack⟩,⟨[],by simp,by simp⟩,hp⟩
theorem wm {s:SP}{v:KV}{t:TB} (hv:KAll s t v){c:Int} (hc:1<=c∧c<=65536) (n f:Int):KAll (s.alloc (4*c) n f).2 t v:=by
 have hr:=js s (4*c) n f
 have hk:=hv.ks
 exact ⟨⟨pz hk.wf _ _ _,pD hk.gc (by have:=bG (4*c);omega) _ _,hr.2.2.trans hk.op,hr.1.trans hk.king,hk.view.keep (lx hk.wf _ _ _) hk.reach,hk.sep,hk.shape⟩,hv.names,hr.2.1.trans hv.stack⟩
def iv (w:Int):List Int->Nat->Option Nat
 | [],_=>none
 | x :: l,j=>if x=w then some j else iv w l (j+1)
def jj (v:KV) (w:Int):Nat->Nat->Int × Int
 | 0,_=>(0,0)
 | f+1,i=>match v.cls[i]? with
  | none=>(0,0)
  | some c=>match iv w c.sels 0 with
   | some j=>(gY (c.mets.getD j 0),c.oop)
   | none=>match upIdx v i with
    | none=>(0,0)
    | some k=>jj v w f k
def cF (v:KV) (w:Int) (i:Nat):Int × Int:=jj v w (i+1) i
theorem uh {s:SP}{v:KV} (hk:KS s v) (w:Int):∀ (i:Nat),i<v.cls.length->∀ f,i+1<=f->jj v w f i=jj v w (i+1) i:=by
 intro i
 induction i using Nat.strongRecOn with
 | ind i ih =>
  intro hi f hf
  obtain ⟨f,rfl⟩:∃ g,f=g+1:=⟨f-1,by omega⟩
  unfold jj
  rw [List.getElem?_eq_getElem hi]
  simp only
  cases iv w (v.cls[i]).sels 0 with
  | some j=>rfl
  | none =>
   simp only
   rcases hk.upI hi with ⟨_,_,e⟩ | ⟨j,hj,hji,_,_,e⟩
   ·rw [e]
   ·rw [e]
    simp only
    rw [ih j hji hj f (by omega),ih j hji hj i (by omega)]
theorem kW {s:SP}{v:KV} (hk:KS s v) (w:Int){i:Nat} (hi:i<v.cls.length):cF v w i=match iv w (v.cls[i]).sels 0 with
  | some j=>(gY ((v.cls[i]).mets.getD j 0),(v.cls[i]).oop)
  | none=>match upIdx v i with
   | none=>(0,0)
   | some k=>cF v w k:=by
 unfold cF
 conv=>lhs;unfold jj
 rw [List.getElem?_eq_getElem hi]
 simp only
 cases iv w (v.cls[i]).sels 0 with
 | some j=>rfl
 | none =>
  simp only
  rcases hk.upI hi with ⟨_,_,e⟩ | ⟨j,hj,hji,_,_,e⟩
  ·rw [e]
  ·rw [e]
   simp only
   exact uh hk w j hj i (by omega)
theorem xh {w:Int}{l:List Int}{j:Nat} (h:w∉l):iv w l j=none:=by
 induction l generalizing j with
 | nil=>rfl
 | cons x l ih =>
  unfold iv
  rw [if_neg (fun e=>h (by simp [e]))]
  exact ih fun hm=>h (by simp [hm])
theorem qq {v:KV}{w:Int} (h:∀ c∈v.cls,w∉c.sels):∀ (f i:Nat),jj v w f i=(0,0)
 | 0,_=>rfl
 | f+1,i=>by
  unfold jj
  cases e:v.cls[i]? with
  | none=>rfl
  | some c =>
   simp only
   rw [xh (h c (List.mem_of_getElem? e))]
   simp only
   cases upIdx v i with
   | none=>rfl
   | some k=>exact qq h f k
theorem xt {v:KV}{t:TB} (h:KD v t){x:Int} (hx:x<0∨(t.texts.length:Int)<=x) (i:Nat):cF v (4*x+2) i=(0,0):=qq (fun c hc hm=>by
 obtain ⟨ns,hd⟩:=h c hc
 rw [hd.sel] at hm
 obtain ⟨n,hn,e⟩:=List.mem_map.1 hm
 have:=hd.num n hn
 unfold bD at e
 omega) _ _
theorem uX {v v':KV}{t t':TB} (he:Ext v v' t t'){o:Int}{i:Nat} (h:dZ v o=some i):dZ v' o=some i:=by
 obtain ⟨l,hl,_⟩:=he.cls
 unfold dZ at h ⊢
 rw [hl,List.findIdx?_append,h]
 rfl
theorem nv {s:SP}{v:KV} (h:KS s v):dZ v 0=none:=by
 cases hx:dZ v 0 with
 | none=>rfl
 | some j =>
  obtain ⟨hj,e⟩:=cd hx
  have:=((h.view.cls hj).bnd h.wf.h).1
  omega
theorem pM {s s':SP}{v v':KV}{t t':TB} (hk:KS s v) (hk':KS s' v') (he:Ext v v' t t') (w:Int):∀ (f i:Nat),i<v.cls.length->jj v' w f i=jj v w f i
 | 0,_,_=>rfl
 | f+1,i,hi=>by
  obtain ⟨l,hl,hn⟩:=he.cls
  have e:v'.cls[i]?=v.cls[i]?:=by rw [hl,List.getElem?_append_left hi]
  have es:eJ v' i=eJ v i:=by unfold eJ;rw [e]
  unfold jj
  rw [e,List.getElem?_eq_getElem hi]
  simp only
  cases iv w (v.cls[i]).sels 0 with
  | some j=>rfl
  | none =>
   simp only
   rcases hk.upI hi with ⟨_,e0,e1⟩ | ⟨j,hj,hji,_,_,e1⟩
   ·have e2:upIdx v' i=none:=by unfold upIdx;rw [es,e0];exact nv hk'
    rw [e1,e2]
   ·have e2:upIdx v' i=some j:=by unfold upIdx at e1 ⊢;rw [es];exact uX he e1
    rw [e1,e2]
    exact pM hk hk' he w f j hj
def dU {α:Type} (l:List α) (p:Nat) (x:α):List α:=l.take p++x :: l.drop p
noncomputable def iC (s:SP) (t:TB) (c:CV) (name:ByteArray) (m:Int):Int × SP:=match bV t.texts name with
 | none=>(61,s)
 | some n =>
  if (s.h.clsAt m).2≠0 then ((s.h.clsAt m).2,s)
  else if name∈bM t c then (0,{ s with h:=(s.h.put c.metA (bu (bM t c) name:Nat) (4*m)).2 })
  else if 128<=c.sels.length then (138,s)
  else de s c.oop [4*m] (dU c.sels (bu (bM t c) name) (bD n)) (dU c.mets (bu (bM t c) name) (4*m))
noncomputable def i5 (s:SP) (t:TB) (c:CV) (name:ByteArray):Int × SP :=
 if name∈bM t c then de s c.oop [] (c.sels.eraseIdx (bu (bM t c) name)) (c.mets.eraseIdx (bu (bM t c) name)) else (140,s)
noncomputable def Lo (t:TB) (c:CV) (name:ByteArray):Int × Int:=if name∈bM t c then (gY (c.mets.getD (bu (bM t c) name) 0),0) else (0,140)
def cB (t:TB) (c:CV):List (ByteArray × Int):=(bM t c).zip (c.mets.map gY)
theorem jB {l:List ByteArray}{s:ByteArray}{n:Nat} (h:bV l s=some n):l[n]?=some s:=by
 induction l generalizing n with
 | nil=>cases h
 | cons x l ih =>
  unfold bV at h
  by_cases hx:x=s
  ·rw [if_pos hx] at h;cases h;simp [hx]
  ·rw [if_neg hx] at h
   cases hm:bV l s with
   | none=>rw [hm] at h;cases h
   | some k=>rw [hm] at h;cases h;simpa using ih hm
theorem lQ {r:RH} (hw:WFH r){m:Int} (h:(r.clsAt m).2=0):1<=m∧m<=65536:=by
 unfold RH.clsAt at h
 cases ho:aH r.objs m with
 | none=>rw [ho] at h;simp at h
 | some o =>
  have h1:=aM ho
  have g:=hw.objs.good o h1.1
  have h4:=g.oop1
  have h5:=g.oop2
  have h6:=hw.o1
  omega
theorem tf {α β:Type} (l:List α) (m:List β) (n:Nat):(l.zip m).take n=(l.take n).zip (m.take n):=by unfold List.zip;exact List.take_zipWith
theorem sU {α β:Type} (l:List α) (m:List β) (n:Nat):(l.zip m).drop n=(l.drop n).zip (m.drop n):=by unfold List.zip;exact List.drop_zipWith
theorem CP {α β:Type}{l:List α}{m:List β} (hl:l.length=m.length) (p:Nat) (x:α) (y:β):(dU l p x).zip (dU m p y)=dU (l.zip m) p (x,y):=by
 unfold dU
 rw [List.zip_append (by simp [hl]),List.zip_cons_cons,tf,sU]
theorem fz {α:Type} (l:List α) (p:Nat) (x:α):(dU l p x).Perm (x :: l):=by
 unfold dU
 refine List.perm_middle.trans ?_
 rw [List.take_append_drop]
theorem nh {α:Type}{l:List α}{p:Nat}{x y:α} (h:y∈dU l p x):y=x∨y∈l:=by
 have:=(fz l p x).mem_iff.1 h
 simpa using this
theorem pH {l:List (ByteArray × Int)} (hn:(l.map (·.1)).Nodup){p:Nat} (hp:p<l.length):l.filter (fun e=>decide (e.1≠l[p].1))=l.eraseIdx p:=by
 induction l generalizing p with
 | nil=>simp at hp
 | cons a l ih =>
  simp only [List.map_cons,List.nodup_cons] at hn
  cases p with
  | zero =>
   simp only [List.getElem_cons_zero,List.eraseIdx_cons_zero]
   rw [List.filter_cons_of_neg (by simp)]
   refine List.filter_eq_self.2 fun e he=>?_
   simp only [decide_eq_true_eq]
   exact fun h=>hn.1 (List.mem_map.2 ⟨e,he,h⟩)
  | succ p =>
   have hp':p<l.length:=by simpa using hp
   simp only [List.getElem_cons_succ,List.eraseIdx_cons_succ]
   rw [List.filter_cons_of_pos (by
    simp only [decide_eq_true_eq]
    exact fun h=>hn.1 (List.mem_map.2 ⟨l[p],List.getElem_mem hp',h.symm⟩)),ih hn.2 hp']
theorem xG {α:Type}{l:List α}{p:Nat} (hp:p<l.length) (x:α):(l.set p x).Perm (x :: l.eraseIdx p):=by
 rw [List.set_eq_take_append_cons_drop,if_pos hp,List.eraseIdx_eq_take_drop_succ]
 exact List.perm_middle
structure DOK (t:TB) (c:CV) (l m:List Int) (E:List (ByteArray × Int)):Prop where
 dc:∀ a b,∃ ns,DC t (c.lists a b l m) ns
 ent:∀ a b,(cB t (c.lists a b l m)).Perm E
theorem nG {t:TB}{c:CV}{ns:List Nat} (h:DC t c ns) (hw:WFT t):((cB t c).map (·.1)).Nodup∧(cB t c).map (·.1)=bM t c:=by
 have e:(cB t c).map (·.1)=bM t c:=by
  unfold cB
  rw [List.map_fst_zip (by rw [h.texts hw,List.length_map,List.length_map,h.len];exact Nat.le_refl _)]
 refine ⟨?_,e⟩
 rw [e,h.texts hw]
 exact pQ h.srt
theorem pX {t:TB}{c:CV}{ns:List Nat} (h:DC t c ns) (hw:WFT t){name:ByteArray}{n:Nat} (hn:bV t.texts name=some n) (hno:name∉bM t c) (hl:c.sels.length<128){m:Int} (h1:1<=m) (h2:m<=65536) :
  DOK t c (dU c.sels (bu (bM t c) name) (bD n)) (dU c.mets (bu (bM t c) name) (4*m)) ((name,m) :: (cB t c).filter fun e=>decide (e.1≠name)):=by
 have ht:=h.texts hw
 obtain ⟨hnl,htx⟩:n<t.texts.length∧tx t n=name:=by
  have:=jB hn
  exact ⟨(cA this).2,(cA this).1⟩
 have es:dU c.sels (bu (bM t c) name) (bD n)=(dU ns (bu (bM t c) name) n).map bD:=by
  unfold dU
  rw [h.sel]
  simp
 have et:∀ p,(dU ns p n).map (tx t)=dU (ns.map (tx t)) p name:=fun p=>by
  unfold dU
  simp [htx]
 have hdc:∀ a b,DC t (c.lists a b (dU c.sels (bu (bM t c) name) (bD n)) (dU c.mets (bu (bM t c) name) (4*m))) (dU ns (bu (bM t c) name) n):=fun a b=>by
  refine ⟨es,fun x hx=>?_,?_,?_,fun w hw'=>?_,?_⟩
  ·rcases nh hx with rfl | hx
   ·exact hnl
   ·exact h.num x hx
  ·rw [et,ht]
   rw [ht] at hno
   exact ut h.srt hno
  ·show (dU c.mets _ _).length=_
   rw [(fz _ _ _).length_eq,(fz _ _ _).length_eq]
   simp [h.len]
  ·rcases nh hw' with rfl | hw'
   ·exact ⟨m,rfl,h1,h2⟩
   ·exact h.obj w hw'
  ·rw [(fz _ _ _).length_eq]
   have:c.sels.length=ns.length:=by rw [h.sel];simp
   simp;omega
 refine ⟨fun a b=>⟨_,hdc a b⟩,fun a b=>?_⟩
 have e1:bM t (c.lists a b (dU c.sels (bu (bM t c) name) (bD n)) (dU c.mets (bu (bM t c) name) (4*m)))=dU (bM t c) (bu (bM t c) name) name:=by
  rw [(hdc a b).texts hw,et,ht]
 have e2:(dU c.mets (bu (bM t c) name) (4*m)).map gY=dU (c.mets.map gY) (bu (bM t c) name) m:=by
  unfold dU
  simp [cK h1 h2]
 unfold cB
 rw [e1]
 show ((dU (bM t c) _ name).zip ((dU c.mets _ (4*m)).map gY)).Perm _
 rw [e2,CP (by rw [ht];simp [h.len])]
 refine (fz _ _ _).trans ?_
 have:((bM t c).zip (c.mets.map gY)).filter (fun e=>decide (e.1≠name))=(bM t c).zip (c.mets.map gY):=by
  refine List.filter_eq_self.2 fun e he=>?_
  simp only [decide_eq_true_eq]
  exact fun h=>hno (h ▸ (List.of_mem_zip he).1)
 rw [this]
theorem qT {t:TB}{c:CV}{ns:List Nat} (h:DC t c ns) (hw:WFT t){name:ByteArray} (hm:name∈bM t c):∃ hp:bu (bM t c) name<(cB t c).length,(cB t c)[bu (bM t c) name].1=name∧(cB t c)[bu (bM t c) name].2=gY (c.mets.getD (bu (bM t c) name) 0)∧bu (bM t c) name<c.mets.length∧bu (bM t c) name<c.sels.length:=by
 have ht:=h.texts hw
 have hs:(bM t c).Pairwise jn:=by rw [ht];exact h.srt
 have hg:=(gL hs).1 hm
 obtain ⟨hl,e⟩:=List.getElem?_eq_some_iff.1 hg
 have l1:(bM t c).length=c.sels.length:=by unfold bM;simp
 have l2:c.mets.length=c.sels.length:=by rw [h.len,h.sel];simp
 have hp:bu (bM t c) name<(cB t c).length:=by unfold cB;simp;omega
 refine ⟨hp,?_,?_,by omega,by omega⟩
 ·simp only [cB,List.getElem_zip];exact e
 ·simp only [cB,List.getElem_zip,List.getElem_map]
  have:bu (bM t c) name<c.mets.length:=by omega
  simp [this]
theorem BP {t:TB}{c:CV}{ns:List Nat} (h:DC t c ns) (hw:WFT t){name:ByteArray} (hm:name∈bM t c){m:Int} (h1:1<=m) (h2:m<=65536) :
  DOK t c c.sels (c.mets.set (bu (bM t c) name) (4*m)) ((name,m) :: (cB t c).filter fun e=>decide (e.1≠name)):=by
 obtain ⟨hp,e1,_,hpm,_⟩:=qT h hw hm
 have hdc:∀ a b,DC t (c.lists a b c.sels (c.mets.set (bu (bM t c) name) (4*m))) ns:=fun a b=>⟨h.sel,h.num,h.srt,by show (c.mets.set _ _).length=_;simp [h.len],fun w hw'=>by
  rcases List.mem_or_eq_of_mem_set hw' with hw' | rfl
  ·exact h.obj w hw'
  ·exact ⟨m,rfl,h1,h2⟩,h.most⟩
 refine ⟨fun a b=>⟨ns,hdc a b⟩,fun a b=>?_⟩
 have e3:cB t (c.lists a b c.sels (c.mets.set (bu (bM t c) name) (4*m)))=(cB t c).set (bu (bM t c) name) (name,m):=by
  unfold cB
  show (bM t c).zip ((c.mets.set _ (4*m)).map gY)=_
  rw [List.map_set,cK h1 h2]
  apply List.ext_getElem?
  intro j
  rw [List.getElem?_set]
  by_cases hj:bu (bM t c) name=j
  ·subst hj
   rw [if_pos rfl,if_pos (by unfold cB at hp;exact hp)]
   have h4:(bM t c)[bu (bM t c) name]?=some name:=by
    have:(bM t c)[bu (bM t c) name]'(by unfold cB at hp;simp at hp;omega)=name:=by simpa [cB] using e1
    rw [List.getElem?_eq_getElem (by unfold cB at hp;simp at hp;omega),this]
   have h5:((c.mets.map gY).set (bu (bM t c) name) m)[bu (bM t c) name]?=some m:=by rw [List.getElem?_set_self (by simpa using hpm)]
   rw [(List.getElem?_zip_eq_some (z:=(name,m))).2 ⟨h4,h5⟩]
  ·rw [if_neg hj]
   have:((c.mets.map gY).set (bu (bM t c) name) m)[j]?=(c.mets.map gY)[j]?:=List.getElem?_set_ne hj
   simp only [List.zip,List.getElem?_zipWith,this]
 rw [e3]
 refine (xG hp _).trans ?_
 have:=pH (nG h hw).1 hp
 rw [e1] at this
 rw [this]
theorem xf {t:TB}{c:CV}{ns:List Nat} (h:DC t c ns) (hw:WFT t){name:ByteArray} (hm:name∈bM t c) :
  DOK t c (c.sels.eraseIdx (bu (bM t c) name)) (c.mets.eraseIdx (bu (bM t c) name)) ((cB t c).filter fun e=>decide (e.1≠name)):=by
 obtain ⟨hp,e1,_,hpm,hps⟩:=qT h hw hm
 have hdc:∀ a b,DC t (c.lists a b (c.sels.eraseIdx (bu (bM t c) name)) (c.mets.eraseIdx (bu (bM t c) name))) (ns.eraseIdx (bu (bM t c) name)):=fun a b=>by
  have hsl:ns.length=c.sels.length:=by rw [h.sel];simp
  refine ⟨?_,fun x hx=>h.num x (List.mem_of_mem_eraseIdx hx),?_,?_,fun w hw'=>h.obj w (List.mem_of_mem_eraseIdx hw'),?_⟩
  ·show c.sels.eraseIdx _=_
   rw [h.sel,dq]
  ·rw [dq];exact h.srt.sublist (List.eraseIdx_sublist _ _)
  ·show (c.mets.eraseIdx _).length=_
   rw [List.length_eraseIdx,List.length_eraseIdx,h.len]
  ·have:=h.most
   rw [List.length_eraseIdx];split <;> omega
 refine ⟨fun a b=>⟨_,hdc a b⟩,fun a b=>?_⟩
 have e3:cB t (c.lists a b (c.sels.eraseIdx (bu (bM t c) name)) (c.mets.eraseIdx (bu (bM t c) name)))=(cB t c).eraseIdx (bu (bM t c) name):=by
  unfold cB
  show ((c.sels.eraseIdx _).map (pP t)).zip ((c.mets.eraseIdx _).map gY)=_
  rw [dq,dq]
  show ((bM t c).eraseIdx _).zip _=_
  simp only [List.eraseIdx_eq_take_drop_succ]
  have l1:(bM t c).length=(c.mets.map gY).length:=by unfold bM;rw [List.length_map,List.length_map,h.len,h.sel];simp
  rw [List.zip_append (by simp [l1]),tf,sU]
 rw [e3]
 have:=pH (nG h hw).1 hp
 rw [e1] at this
 rw [this]
variable {Q:QT}{H:aj}
abbrev vg:Nat:=34
def Qs (p1:Option Addr) (n2:Int) (s3:ByteArray) (n4:Int) (Q:QT) (H:aj):Prop :=
 ah PP 135 #[pV p1,iV n2] (fun v5 H1=>∃ a6 l6 c6 a7 l7 c7 n8,v5=.tuple #[lV a6 l6 c6,lV a7 l7 c7,iV n8]∧cond (n8 != 0) (Q (iV n8) H1) (∃ q9,p1=some q9∧∃ p10,ac H1 q9=some (pV p10)∧cS 26 #[pV p10] (fun v11 H2=>∃ p12,v11=pV p12∧cS 136 #[pV p12,sV s3] (fun v13 H3=>∃ n14 b15,v13=.tuple #[iV n14,.bool b15]∧cond (!b15) (Q (iV 61) H3) (∃ q16,p1=some q16∧∃ p17,ac H3 q16=some (pV p17)∧cS 19 #[pV p17] (fun v18 H4=>∃ p19,v18=pV p19∧cS 20 #[pV p19] (fun v20 H5=>∃ p21,v20=pV p21∧cS 137 #[pV p21,iV n4] (fun v22 H6=>∃ n23 n24,v22=.tuple #[iV n23,iV n24]∧cond (n24 != 0) (Q (iV n24) H6) (cS 138 #[iV n4] (fun v25 H7=>∃ n26 n27,v25=.tuple #[iV n26,iV n27]∧cS 139 #[pV p1,lV a6 l6 c6,sV s3] (fun v28 H8=>∃ n29 b30,v28=.tuple #[iV n29,.bool b30]∧cond b30 (cS 141 #[pV p1,iV n2,iV 4] (fun v31 H9=>∃ n32,v31=iV n32∧cS 140 #[pV p21,iV n32,iV n29,iV n26] (fun v33 H10=>∃ n34,v33=iV n34∧cS 142 #[pV p1] (fun v35 H11=>v35=.tuple #[]∧Q (iV 0) H11) H10) H9) H8) (cond (decide ((l6:Int) ≥ 128)) (Q (iV 138) H8) (cS 143 #[iV n14] (fun v36 H12=>∃ n37 n38,v36=.tuple #[iV n37,iV n38]∧cS 145 #[lV a6 l6 c6,iV n29,iV n37] (fun v39 H13=>∃ a40 l40 c40,v39=lV a40 l40 c40∧cS 145 #[lV a7 l7 c7,iV n29,iV n26] (fun v41 H14=>∃ a42 l42 c42,v41=lV a42 l42 c42∧cS 144 #[pV p1,iV n2,lV a40 l40 c40,lV a42 l42 c42,lV (some (A0 H14.size)) 1 1] (fun v43 H15=>∃ n44,v43=iV n44∧Q (iV n44) H15) (H14.push (.cells #[iV n26] 36))) H13) H12) H8))) H7) H6)) H5) H4) H3)) H2) H1)) H
theorem yz {p1:Option Addr}{n2:Int}{s3:ByteArray}{n4:Int} (h:Qs p1 n2 s3 n4 Q H):ah PP 34 #[.pointer p1,.int .i64 n2,.string s3,.int .i64 n4] Q H :=
 okF Tryz.func34 rfl h
abbrev yn:Nat:=35
def Rq (p1:Option Addr) (n2:Int) (s3:ByteArray) (n4:Int) (Q:QT) (H:aj):Prop :=
 ah PP 146 #[pV p1,iV n2] (fun v5 H1=>∃ a6 l6 c6 a7 l7 c7 n8,v5=.tuple #[lV a6 l6 c6,lV a7 l7 c7,iV n8]∧cond (n8 != 0) (Q (iV n8) H1) (∃ q9,p1=some q9∧∃ p10,ac H1 q9=some (pV p10)∧∃ q11,p10=some q11∧∃ p12,ac H1 (q11.add 1)=some (pV p12)∧cS 147 #[pV p12,sV s3] (fun v13 H2=>∃ n14 b15,v13=.tuple #[iV n14,.bool b15]∧cond (!b15) (Q (iV 61) H2) (∃ q16,p1=some q16∧∃ p17,ac H2 q16=some (pV p17)∧∃ q18,p17=some q18∧∃ p19,ac H2 q18=some (pV p19)∧∃ q20,p19=some q20∧∃ p21,ac H2 q20=some (pV p21)∧cS 148 #[pV p21,iV n4] (fun v22 H3=>∃ n23 n24,v22=.tuple #[iV n23,iV n24]∧cond (n24 != 0) (Q (iV n24) H3) (cS 149 #[pV p1,lV a6 l6 c6,sV s3] (fun v25 H4=>∃ n26 n27,v25=.tuple #[iV n26,iV n27]∧cond (decide (n26 ≥ 0)) (∃ q28,p1=some q28∧∃ p29,ac H4 q28=some (pV p29)∧∃ q30,p29=some q30∧∃ p31,ac H4 q30=some (pV p31)∧∃ q32,p31=some q32∧∃ p33,ac H4 q32=some (pV p33)∧∃ q34,p1=some q34∧∃ p35,ac H4 q34=some (pV p35)∧cS 120 #[pV p35,iV n2,iV 4] (fun v36 H5=>∃ n37,v36=iV n37∧((ac H5 q32=some (pV p33)∧True)∧((ac H5 q30=some (pV p31)∧True)∧((ac H5 q28=some (pV p29)∧True)∧True)))∧cS 119 #[iV n37] (fun v38 H6=>∃ n39,v38=iV n39∧((ac H6 q32=some (pV p33)∧True)∧((ac H6 q30=some (pV p31)∧True)∧((ac H6 q28=some (pV p29)∧True)∧True)))∧cS 59 #[iV n4] (fun v40 H7=>∃ n41,v40=iV n41∧((ac H7 q32=some (pV p33)∧True)∧((ac H7 q30=some (pV p31)∧True)∧((ac H7 q28=some (pV p29)∧True)∧True)))∧cS 64 #[pV p33,iV n39,iV n26,iV n41] (fun v42 H8=>∃ n43,v42=iV n43∧True∧∃ q44,p1=some q44∧Wr H8 (q44.add 1)∧Q (iV 0) (au H8 (q44.add 1) (lV none 0 0))) H7) H6) H5) H4) (cond (decide ((l6:Int) ≥ 128)) (Q (iV 138) H4) (cS 59 #[iV n4] (fun v45 H9=>∃ n46,v45=iV n46∧cS 151 #[lV a6 l6 c6,iV (-1),iV n27,iV (wW ((wW (4*n14))+2))] (fun v47 H10=>∃ a48 l48 c48,v47=lV a48 l48 c48∧cS 151 #[lV a7 l7 c7,iV (-1),iV n27,iV n46] (fun v49 H11=>∃ a50 l50 c50,v49=lV a50 l50 c50∧cS 150 #[pV p1,iV n2,lV a48 l48 c48,lV a50 l50 c50,iV n46] (fun v51 H12=>∃ n52,v51=iV n52∧Q (iV n52) H12) H11) H10) H9) H4))) H3)) H2)) H1)) H
theorem Kj {p1:Option Addr}{n2:Int}{s3:ByteArray}{n4:Int} (h:Rq p1 n2 s3 n4 Q H):ah PP 35 #[.pointer p1,.int .i64 n2,.string s3,.int .i64 n4] Q H :=
 okF Tryz.func35 rfl h
abbrev vE:Nat:=36
def QF (p1:Option Addr) (n2:Int) (s3:ByteArray) (Q:QT) (H:aj):Prop :=
 ah PP 135 #[pV p1,iV n2] (fun v4 H1=>∃ a5 l5 c5 a6 l6 c6 n7,v4=.tuple #[lV a5 l5 c5,lV a6 l6 c6,iV n7]∧cond (n7 != 0) (Q (iV n7) H1) (cS 139 #[pV p1,lV a5 l5 c5,sV s3] (fun v8 H2=>∃ n9 b10,v8=.tuple #[iV n9,.bool b10]∧cond (!b10) (Q (iV 140) H2) (cS 152 #[lV a5 l5 c5,iV n9] (fun v11 H3=>∃ a12 l12 c12,v11=lV a12 l12 c12∧cS 152 #[lV a6 l6 c6,iV n9] (fun v13 H4=>∃ a14 l14 c14,v13=lV a14 l14 c14∧cS 144 #[pV p1,iV n2,lV a12 l12 c12,lV a14 l14 c14,lV none 0 0] (fun v15 H5=>∃ n16,v15=iV n16∧Q (iV n16) H5) H4) H3) H2)) H1)) H
theorem zq {p1:Option Addr}{n2:Int}{s3:ByteArray} (h:QF p1 n2 s3 Q H):ah PP 36 #[.pointer p1,.int .i64 n2,.string s3] Q H :=
 okF Tryz.func36 rfl h
abbrev xQ:Nat:=37
def Rk (p1:Option Addr) (n2:Int) (s3:ByteArray) (Q:QT) (H:aj):Prop :=
 ah PP 146 #[pV p1,iV n2] (fun v4 H1=>∃ a5 l5 c5 a6 l6 c6 n7,v4=.tuple #[lV a5 l5 c5,lV a6 l6 c6,iV n7]∧cond (n7 != 0) (Q (iV n7) H1) (cS 149 #[pV p1,lV a5 l5 c5,sV s3] (fun v8 H2=>∃ n9 n10,v8=.tuple #[iV n9,iV n10]∧cond (decide (n9<0)) (Q (iV 140) H2) (cS 151 #[lV a5 l5 c5,iV n9,iV (-1),iV 0] (fun v11 H3=>∃ a12 l12 c12,v11=lV a12 l12 c12∧cS 151 #[lV a6 l6 c6,iV n9,iV (-1),iV 0] (fun v13 H4=>∃ a14 l14 c14,v13=lV a14 l14 c14∧cS 150 #[pV p1,iV n2,lV a12 l12 c12,lV a14 l14 c14,iV 0] (fun v15 H5=>∃ n16,v15=iV n16∧Q (iV n16) H5) H4) H3) H2)) H1)) H
theorem Fy {p1:Option Addr}{n2:Int}{s3:ByteArray} (h:Rk p1 n2 s3 Q H):ah PP 37 #[.pointer p1,.int .i64 n2,.string s3] Q H :=
 okF Tryz.func37 rfl h
abbrev yy:Nat:=41
def Qv (p1:Option Addr) (n2:Int) (Q:QT) (H:aj):Prop :=
 ah PP 135 #[pV p1,iV n2] (fun v3 H1=>∃ a4 l4 c4 a5 l5 c5 n6,v3=.tuple #[lV a4 l4 c4,lV a5 l5 c5,iV n6]∧∃(I7:IT) (μ7:MT),I7 [lV none 0 0,iV 0] H1∧∀ w8 H2,I7 w8 H2->∀ _g:Nat->Value,∃ a9 l9 c9 n10,w8=[lV a9 l9 c9,iV n10]∧cond (decide (n10<(l4:Int))) (((0:Int)<=n10∧n10<(l4:Int))∧∃ q11,a4=some q11∧∃ n12,ac H2 (q11.add (Int.toNat n10*1))=some (iV n12)∧cS 157 #[pV p1,iV n12] (fun v13 H3=>∃ s14,v13=sV s14∧bk PP (Builtin.append_ #[37,37] 37 #[lV a9 l9 c9,lV (some (A0 H3.size)) 1 1]) (fun v15 H4=>∃ a16 l16 c16,v15=lV a16 l16 c16∧I7 [lV a16 l16 c16,iV (wW (n10+1))] H4∧μ7 [lV a16 l16 c16,iV (wW (n10+1))] H4<μ7 w8 H2) (H3.push (.cells #[sV s14] 9))) H2) (Q (lV a9 l9 c9) H2)) H
theorem yH {p1:Option Addr}{n2:Int} (h:Qv p1 n2 Q H):ah PP 41 #[.pointer p1,.int .i64 n2] Q H :=
 aN good Tryz.func41 rfl (Ls:=fun | 4=>some [(8,37),(20,3)] | _=>none) (by kernel_rfl) h
abbrev D6:Nat:=42
def Rz (p1:Option Addr) (n2:Int) (Q:QT) (H:aj):Prop :=
 ah PP 146 #[pV p1,iV n2] (fun v3 H1=>∃ a4 l4 c4 a5 l5 c5 n6,v3=.tuple #[lV a4 l4 c4,lV a5 l5 c5,iV n6]∧∃(I7:IT) (μ7:MT),I7 [lV none 0 0,iV 0] H1∧∀ w8 H2,I7 w8 H2->∀ _g:Nat->Value,∃ a9 l9 c9 n10,w8=[lV a9 l9 c9,iV n10]∧cond (decide (n10<(l4:Int))) (∃ q11,p1=some q11∧∃ p12,ac H2 q11=some (pV p12)∧((0:Int)<=n10∧n10<(l4:Int))∧∃ q13,a4=some q13∧∃ n14,ac H2 (q13.add (Int.toNat n10*1))=some (iV n14)∧cS 158 #[pV p12,iV n14] (fun v15 H3=>∃ s16,v15=sV s16∧True∧True∧bk PP (Builtin.append_ #[37,37] 37 #[lV a9 l9 c9,lV (some (A0 H3.size)) 1 1]) (fun v17 H4=>∃ a18 l18 c18,v17=lV a18 l18 c18∧True∧I7 [lV a18 l18 c18,iV (wW (n10+1))] H4∧μ7 [lV a18 l18 c18,iV (wW (n10+1))] H4<μ7 w8 H2) (H3.push (.cells #[sV s16] 9))) H2) (Q (lV a9 l9 c9) H2)) H
theorem KY {p1:Option Addr}{n2:Int} (h:Rz p1 n2 Q H):ah PP 42 #[.pointer p1,.int .i64 n2] Q H :=
 aN good Tryz.func42 rfl (Ls:=fun | 4=>some [(8,37),(9,3)] | _=>none) (by kernel_rfl) h
abbrev zn:Nat:=129
def EI (p1:Option Addr) (Q:QT) (H:aj):Prop :=
 cond (Option.isNone p1) (Q (.tuple #[pV none,iV 2]) H) (Q (.tuple #[pV (some (⟨(H.push (.map #[] 0)).size,0,none⟩:Addr)),iV 0]) ((H.push (.map #[] 0)).push (.cells #[pV p1,.map (some H.size),iV 0] 196)))
theorem vT {p1:Option Addr} (h:EI p1 Q H):ah PP 129 #[.pointer p1] Q H :=
 okF Tryz.func129 rfl h
abbrev Fi:Nat:=130
def LI (p1:Option Addr) (Q:QT) (H:aj):Prop :=
 Q (pV (some (A0 H.size))) (H.push (.cells #[pV p1,lV none 0 0,iV 0] 206))
theorem Bg {p1:Option Addr} (h:LI p1 Q H):ah PP 130 #[.pointer p1] Q H :=
 okF Tryz.func130 rfl h
abbrev ue:Nat:=132
def GX (p1:Option Addr) (n2:Int) (n3:Int) (Q:QT) (H:aj):Prop :=
 ah PP 225 #[pV p1] (fun v4 H1=>∃ b5,v4=.bool b5∧cond (!b5) (Q (.tuple #[iV 0,iV 0]) H1) (∃ q6,p1=some q6∧∃ p7,ac H1 q6=some (pV p7)∧cS 188 #[pV p7,iV n2] (fun v8 H2=>∃ n9 n10,v8=.tuple #[iV n9,iV n10]∧cond (n10 != 0) (Q (.tuple #[iV 0,iV 0]) H2) (∃ q11,p1=some q11∧∃ r12:Option Nat,ac H2 (q11.add 1)=some (.map r12)∧bk PP (Instr.lookup 194 (.map r12) (.agg #[iV n2,iV n3]) true) (fun v13 H3=>∃ n14:Int,shH (au (H3.push (.cells #[iV 0,iV 0] 265)) (A0 H3.size) (iV n14)) fun C4=>∃ n15:Int,shH (au C4 ((A0 H3.size).add 1) (iV n15)) fun C1=>∃ b16,v13=.tuple #[.agg #[iV n14,iV n15],.bool b16]∧Wr (H3.push (.cells #[iV 0,iV 0] 265)) (A0 H3.size)∧Wr C4 ((A0 H3.size).add 1)∧cond b16 (∃ q17,p1=some q17∧∃ n18,ac C1 (q17.add 2)=some (iV n18)∧∃ q19,shH (au C1 (q19.add 2) (iV (wW (n18+1)))) fun C3=>p1=some q19∧Wr C1 (q19.add 2)∧∃ n20,ac C3 (A0 H3.size)=some (iV n20)∧∃ n21,ac C3 ((A0 H3.size).add 1)=some (iV n21)∧Q (.tuple #[iV n20,iV n21]) C3) (cS 226 #[pV p1,iV n2,iV n3] (fun v22 H4=>∃ n23:Int,shH (au (H4.push (.cells #[iV 0,iV 0] 265)) (A0 H4.size) (iV n23)) fun C5=>∃ n24:Int,shH (au C5 ((A0 H4.size).add 1) (iV n24)) fun C2=>v22=.agg #[iV n23,iV n24]∧Wr (H4.push (.cells #[iV 0,iV 0] 265)) (A0 H4.size)∧Wr C5 ((A0 H4.size).add 1)∧∃ q25,p1=some q25∧∃ r26:Option Nat,ac C2 (q25.add 1)=some (.map r26)∧∃ n27,ac C2 (A0 H4.size)=some (iV n27)∧∃ n28,ac C2 ((A0 H4.size).add 1)=some (iV n28)∧bk PP (Instr.mapUpdate 194 (.map r26) (.agg #[iV n2,iV n3]) (.agg #[iV n27,iV n28])) (fun _ H5=>True∧∃ n29,ac H5 (A0 H4.size)=some (iV n29)∧∃ n30,ac H5 ((A0 H4.size).add 1)=some (iV n30)∧Q (.tuple #[iV n29,iV n30]) H5) C2) C1)) H2)) H1)) H
theorem vC {p1:Option Addr}{n2:Int}{n3:Int} (h:GX p1 n2 n3 Q H):ah PP 132 #[.pointer p1,.int .i64 n2,.int .i64 n3] Q H :=
 okF Tryz.func132 rfl h
abbrev uf:Nat:=133
def Kg (p1:Option Addr) (n2:Int) (s3:ByteArray) (Q:QT) (H:aj):Prop :=
 ah PP 135 #[pV p1,iV n2] (fun v4 H1=>∃ a5 l5 c5 a6 l6 c6 n7,v4=.tuple #[lV a5 l5 c5,lV a6 l6 c6,iV n7]∧cond (n7 != 0) (Q (.tuple #[iV 0,iV n7]) H1) (cS 139 #[pV p1,lV a5 l5 c5,sV s3] (fun v8 H2=>∃ n9 b10,v8=.tuple #[iV n9,.bool b10]∧cond (!b10) (Q (.tuple #[iV 0,iV 140]) H2) (((0:Int)<=n9∧n9<(l6:Int))∧∃ q11,a6=some q11∧∃ n12,ac H2 (q11.add (Int.toNat n9*1))=some (iV n12)∧cS 183 #[iV n12] (fun v13 H3=>∃ n14 n15,v13=.tuple #[iV n14,iV n15]∧Q (.tuple #[iV n14,iV n15]) H3) H2)) H1)) H
theorem vD {p1:Option Addr}{n2:Int}{s3:ByteArray} (h:Kg p1 n2 s3 Q H):ah PP 133 #[.pointer p1,.int .i64 n2,.string s3] Q H :=
 okF Tryz.func133 rfl h
abbrev zG:Nat:=134
def E9 (p1:Option Addr) (Q:QT) (H:aj):Prop :=
 ah PP 225 #[pV p1] (fun v2 H1=>∃ b3,v2=.bool b3∧cond (!b3) (Q (iV 0) H1) (∃ q4,p1=some q4∧∃ n5,ac H1 (q4.add 2)=some (iV n5)∧Q (iV n5) H1)) H
theorem uS {p1:Option Addr} (h:E9 p1 Q H):ah PP 134 #[.pointer p1] Q H :=
 okF Tryz.func134 rfl h
abbrev yg:Nat:=135
def Fn (p1:Option Addr) (n2:Int) (Q:QT) (H:aj):Prop :=
 ah PP 225 #[pV p1] (fun v3 H1=>∃ b4,v3=.bool b4∧cond (!b4) (Q (.tuple #[lV none 0 0,lV none 0 0,iV 2]) H1) (∃ q5,p1=some q5∧∃ p6,ac H1 q5=some (pV p6)∧cS 188 #[pV p6,iV n2] (fun v7 H2=>∃ n8 n9,v7=.tuple #[iV n8,iV n9]∧cond (n9 != 0) (Q (.tuple #[lV none 0 0,lV none 0 0,iV n9]) H2) (cS 141 #[pV p1,iV n2,iV 3] (fun v10 H3=>∃ n11,v10=iV n11∧cS 227 #[pV p1,iV n11] (fun v12 H4=>∃ a13 l13 c13,v12=lV a13 l13 c13∧cS 141 #[pV p1,iV n2,iV 4] (fun v14 H5=>∃ n15,v14=iV n15∧cS 227 #[pV p1,iV n15] (fun v16 H6=>∃ a17 l17 c17,v16=lV a17 l17 c17∧Q (.tuple #[lV a13 l13 c13,lV a17 l17 c17,iV 0]) H6) H5) H4) H3) H2)) H1)) H
theorem vm {p1:Option Addr}{n2:Int} (h:Fn p1 n2 Q H):ah PP 135 #[.pointer p1,.int .i64 n2] Q H :=
 okF Tryz.func135 rfl h
abbrev Gr:Nat:=139
def ND (p1:Option Addr) (a2:Option Addr) (l2:Nat) (c2:Nat) (s3:ByteArray) (Q:QT) (H:aj):Prop :=
 shH ((H.push (.cells #[pV p1] 69)).push (.cells #[lV a2 l2 c2] 108)) fun C1=>∃ a4 l4 c4,ac (C1.push (.cells #[sV s3] 9)) (⟨(H.push (.cells #[pV p1] 69)).size,0,none⟩:Addr)=some (lV a4 l4 c4)∧cS 229 #[iV (l4:Int),.func (.func 230) #[] #[pV (some (A0 H.size)),pV (some (⟨(H.push (.cells #[pV p1] 69)).size,0,none⟩:Addr)),pV (some (A0 C1.size))]] (fun v5 H1=>∃ n6,v5=iV n6∧∃ a7 l7 c7,ac H1 (⟨(H.push (.cells #[pV p1] 69)).size,0,none⟩:Addr)=some (lV a7 l7 c7)∧cond (decide (n6<(l7:Int))) (∃ p8,ac H1 (A0 H.size)=some (pV p8)∧∃ a9 l9 c9,ac H1 (⟨(H.push (.cells #[pV p1] 69)).size,0,none⟩:Addr)=some (lV a9 l9 c9)∧((0:Int)<=n6∧n6<(l9:Int))∧∃ q10,a9=some q10∧∃ n11,ac H1 (q10.add (Int.toNat n6*1))=some (iV n11)∧∃ s12,ac H1 (A0 C1.size)=some (sV s12)∧cS 157 #[pV p8,iV n11] (fun v13 H2=>∃ s14,v13=sV s14∧((ac H2 (A0 C1.size)=some (sV s12)∧True)∧True)∧Q (.tuple #[iV n6,.bool (cQ s14 s12)]) H2) H1) (Q (.tuple #[iV n6,.bool false]) H1)) (C1.push (.cells #[sV s3] 9))
theorem Dc {p1:Option Addr}{a2:Option Addr}{l2:Nat}{c2:Nat}{s3:ByteArray} (h:ND p1 a2 l2 c2 s3 Q H):ah PP 139 #[.pointer p1,.slice a2 l2 c2,.string s3] Q H :=
 okF Tryz.func139 rfl h
abbrev Iw:Nat:=141
def P6 (p1:Option Addr) (n2:Int) (n3:Int) (Q:QT) (H:aj):Prop :=
 ∃ q4,p1=some q4∧∃ p5,ac H q4=some (pV p5)∧cS 19 #[pV p5] (fun v6 H1=>∃ p7,v6=pV p7∧cS 20 #[pV p7] (fun v8 H2=>∃ p9,v8=pV p9∧cS 233 #[pV p9,iV n2,iV n3] (fun v10 H3=>∃ n11 n12,v10=.tuple #[iV n11,iV n12]∧cS 183 #[iV n11] (fun v13 H4=>∃ n14 n15,v13=.tuple #[iV n14,iV n15]∧Q (iV n14) H4) H3) H2) H1) H
theorem Dk {p1:Option Addr}{n2:Int}{n3:Int} (h:P6 p1 n2 n3 Q H):ah PP 141 #[.pointer p1,.int .i64 n2,.int .i64 n3] Q H :=
 okF Tryz.func141 rfl h
abbrev EG:Nat:=142
def Mw (p1:Option Addr) (Q:QT) (H:aj):Prop :=
 ah PP 225 #[pV p1] (fun v2 H1=>∃ b3,v2=.bool b3∧cond b3 (∃ q4,p1=some q4∧∃ r5:Option Nat,ac H1 (q4.add 1)=some (.map r5)∧bk PP (Builtin.clear_ #[194] 0 #[.map r5]) (fun v6 H2=>Q (.tuple #[]) H2) H1) (Q (.tuple #[]) H1)) H
theorem AF {p1:Option Addr} (h:Mw p1 Q H):ah PP 142 #[.pointer p1] Q H :=
 okF Tryz.func142 rfl h
abbrev GM:Nat:=144
def Mz (p1:Option Addr) (n2:Int) (a3:Option Addr) (l3:Nat) (c3:Nat) (a4:Option Addr) (l4:Nat) (c4:Nat) (a5:Option Addr) (l5:Nat) (c5:Nat) (Q:QT) (H:aj):Prop :=
 ∃ q6,p1=some q6∧∃ p7,ac H q6=some (pV p7)∧cS 19 #[pV p7] (fun v8 H1=>∃ p9:Option Addr,shH (au (H1.push (.cells #[pV none] 47)) (A0 H1.size) (pV p9)) fun C2=>v8=pV p9∧Wr (H1.push (.cells #[pV none] 47)) (A0 H1.size)∧∃ p10,ac C2 (A0 H1.size)=some (pV p10)∧cS 83 #[pV p10] (fun v11 H2=>∃ a12:Option Addr,∃ l12:Nat,shH (au (H2.push (.cells #[iV 0] 3)) (A0 H2.size) (iV (l12:Int))) fun C1=>∃ c12,v11=lV a12 l12 c12∧Wr (H2.push (.cells #[iV 0] 3)) (A0 H2.size)∧∃ p13,ac C1 (A0 H1.size)=some (pV p13)∧cS 51 #[pV p13,lV a5 l5 c5] (fun v14 H3=>∃ n15,v14=iV n15∧cond (n15 != 0) (iJ PP 234 #[pV (some (A0 H1.size)),pV (some (A0 H2.size))] (fun H4=>Q (iV n15) H4) H3) (∃(I16:IT) (μ16:MT),I16 [lV none 0 0,iV 0] (H3.push (.cells #[lV a3 l3 c3,lV a4 l4 c4] 108))∧∀ w17 H5,I16 w17 H5->∀ _g:Nat->Value,∃ a18 l18 c18 n19,w17=[lV a18 l18 c18,iV n19]∧cond (decide (n19<(2:Int))) (((0:Int)<=n19∧n19<(2:Int))∧∃ q20,(some (A0 H3.size))=some q20∧∃ a21 l21 c21,ac H5 (q20.add (Int.toNat n19*1))=some (lV a21 l21 c21)∧cS 235 #[pV p1,lV a21 l21 c21] (fun v22 H6=>∃ n23 n24,v22=.tuple #[iV n23,iV n24]∧cond (n24 != 0) (iJ PP 234 #[pV (some (A0 H1.size)),pV (some (A0 H2.size))] (fun H7=>Q (iV n24) H7) H6) (bk PP (Builtin.append_ #[108,108] 108 #[lV a18 l18 c18,lV (some (A0 H6.size)) 1 1]) (fun v25 H8=>∃ a26 l26 c26,v25=lV a26 l26 c26∧I16 [lV a26 l26 c26,iV (wW (n19+1))] H8∧μ16 [lV a26 l26 c26,iV (wW (n19+1))] H8<μ16 w17 H5) (H6.push (.cells #[iV n23] 36)))) H5) (∃ p27,ac H5 (A0 H1.size)=some (pV p27)∧((0:Int)<=0∧0<(l18:Int))∧∃ q28,a18=some q28∧∃ n29,ac H5 (q28.add (Int.toNat 0*1))=some (iV n29)∧cS 20 #[pV p27] (fun v30 H9=>∃ p31,v30=pV p31∧((ac H9 (q28.add (Int.toNat 0*1))=some (iV n29)∧True)∧True)∧cS 140 #[pV p31,iV n2,iV 3,iV n29] (fun v32 H10=>∃ n33,v32=iV n33∧True∧∃ p34,ac H10 (A0 H1.size)=some (pV p34)∧((0:Int)<=1∧1<(l18:Int))∧∃ q35,a18=some q35∧∃ n36,ac H10 (q35.add (Int.toNat 1*1))=some (iV n36)∧cS 20 #[pV p34] (fun v37 H11=>∃ p38,v37=pV p38∧((ac H11 (q35.add (Int.toNat 1*1))=some (iV n36)∧True)∧True)∧cS 140 #[pV p38,iV n2,iV 4,iV n36] (fun v39 H12=>∃ n40,v39=iV n40∧True∧cS 142 #[pV p1] (fun v41 H13=>v41=.tuple #[]∧iJ PP 234 #[pV (some (A0 H1.size)),pV (some (A0 H2.size))] (fun H14=>Q (iV 0) H14) H13) H12) H11) H10) H9) H5))) C1) C2) H
theorem BZ {p1:Option Addr}{n2:Int}{a3:Option Addr}{l3:Nat}{c3:Nat}{a4:Option Addr}{l4:Nat}{c4:Nat}{a5:Option Addr}{l5:Nat}{c5:Nat} (h:Mz p1 n2 a3 l3 c3 a4 l4 c4 a5 l5 c5 Q H):ah PP 144 #[.pointer p1,.int .i64 n2,.slice a3 l3 c3,.slice a4 l4 c4,.slice a5 l5 c5] Q H :=
 qi good Tryz.func144 rfl (Ls:=fun | 9=>some [(14,108),(38,3)] | _=>none) (mk:=false) (by kernel_rfl) h
abbrev GS:Nat:=145
def N6 (a1:Option Addr) (l1:Nat) (c1:Nat) (n2:Int) (n3:Int) (Q:QT) (H:aj):Prop :=
 ((0:Int)<=n2∧n2<=(c1:Int))∧((0:Int)<=n2∧n2<=(l1:Int))∧(bk PP (Builtin.append_ #[108,108] 108 #[lV none 0 0,lV a1 (Int.toNat n2) c1]) (fun v4 H1=>∃ a5 l5 c5,v4=lV a5 l5 c5∧True∧True∧bk PP (Builtin.append_ #[108,108] 108 #[lV a5 l5 c5,lV (some (A0 H1.size)) 1 1]) (fun v6 H2=>∃ a7 l7 c7,v6=lV a7 l7 c7∧True∧bk PP (Builtin.append_ #[108,108] 108 #[lV a7 l7 c7,lV (gl a1 c1 n2 1) (l1-Int.toNat n2) (c1-Int.toNat n2)]) (fun v8 H3=>∃ a9 l9 c9,v8=lV a9 l9 c9∧True∧Q (lV a9 l9 c9) H3) H2) (H1.push (.cells #[iV n3] 36))) H)∧(True∧bk PP (Builtin.append_ #[108,108] 108 #[lV none 0 0,lV a1 (Int.toNat n2) c1]) (fun v10 H4=>∃ a11 l11 c11,v10=lV a11 l11 c11∧True∧bk PP (Builtin.append_ #[108,108] 108 #[lV a11 l11 c11,lV (some (A0 H.size)) 1 1]) (fun v12 H5=>∃ a13 l13 c13,v12=lV a13 l13 c13∧True∧bk PP (Builtin.append_ #[108,108] 108 #[lV a13 l13 c13,lV (gl a1 c1 n2 1) (l1-Int.toNat n2) (c1-Int.toNat n2)]) (fun v14 H6=>∃ a15 l15 c15,v14=lV a15 l15 c15∧True∧Q (lV a15 l15 c15) H6) H5) H4) (H.push (.cells #[iV n3] 36)))
theorem DI {a1:Option Addr}{l1:Nat}{c1:Nat}{n2:Int}{n3:Int} (h:N6 a1 l1 c1 n2 n3 Q H):ah PP 145 #[.slice a1 l1 c1,.int .i64 n2,.int .i64 n3] Q H :=
 okF Tryz.func145 rfl h
abbrev Kd:Nat:=146
def Lu (p1:Option Addr) (n2:Int) (Q:QT) (H:aj):Prop :=
 ∃ q3,p1=some q3∧∃ p4,ac H q3=some (pV p4)∧cS 189 #[pV p4,iV n2] (fun v5 H1=>∃ n6 n7,v5=.tuple #[iV n6,iV n7]∧cond (n7 != 0) (Q (.tuple #[lV none 0 0,lV none 0 0,iV n7]) H1) (∃ q8,p1=some q8∧∃ p9,ac H1 q8=some (pV p9)∧∃ q10,p1=some q10∧∃ p11,ac H1 q10=some (pV p11)∧∃ q12,p1=some q12∧∃ p13,ac H1 q12=some (pV p13)∧∃ q14,p1=some q14∧∃ p15,ac H1 q14=some (pV p15)∧cS 120 #[pV p11,iV n2,iV 3] (fun v16 H2=>∃ n17,v16=iV n17∧((ac H2 q14=some (pV p15)∧True)∧((ac H2 q12=some (pV p13)∧True)∧((ac H2 q8=some (pV p9)∧True)∧True)))∧cS 119 #[iV n17] (fun v18 H3=>∃ n19,v18=iV n19∧((ac H3 q14=some (pV p15)∧True)∧((ac H3 q12=some (pV p13)∧True)∧((ac H3 q8=some (pV p9)∧True)∧True)))∧cS 118 #[pV p9,iV n19] (fun v20 H4=>∃ a21 l21 c21,v20=lV a21 l21 c21∧((ac H4 q14=some (pV p15)∧True)∧((ac H4 q12=some (pV p13)∧True)∧True))∧cS 120 #[pV p15,iV n2,iV 4] (fun v22 H5=>∃ n23,v22=iV n23∧((ac H5 q12=some (pV p13)∧True)∧True)∧cS 119 #[iV n23] (fun v24 H6=>∃ n25,v24=iV n25∧((ac H6 q12=some (pV p13)∧True)∧True)∧cS 118 #[pV p13,iV n25] (fun v26 H7=>∃ a27 l27 c27,v26=lV a27 l27 c27∧True∧Q (.tuple #[lV a21 l21 c21,lV a27 l27 c27,iV 0]) H7) H6) H5) H4) H3) H2) H1)) H
theorem DO {p1:Option Addr}{n2:Int} (h:Lu p1 n2 Q H):ah PP 146 #[.pointer p1,.int .i64 n2] Q H :=
 okF Tryz.func146 rfl h
abbrev E8:Nat:=149
def Ly (p1:Option Addr) (a2:Option Addr) (l2:Nat) (_c2:Nat) (s3:ByteArray) (Q:QT) (H:aj):Prop :=
 ∃(I4:IT) (μ4:MT),I4 [iV 0,iV 0] H∧∀ w5 H1,I4 w5 H1->∀ _g:Nat->Value,∃ n6 n7,w5=[iV n6,iV n7]∧cond (decide (n7<(l2:Int))) (∃ q8,p1=some q8∧∃ p9,ac H1 q8=some (pV p9)∧((0:Int)<=n7∧n7<(l2:Int))∧∃ q10,a2=some q10∧∃ n11,ac H1 (q10.add (Int.toNat n7*1))=some (iV n11)∧cS 158 #[pV p9,iV n11] (fun v12 H2=>∃ s13,v12=sV s13∧True∧cond (cQ s13 s3) (Q (.tuple #[iV n7,iV n6]) H2) (cond (Op.bytesLess (ByteArray.toList s13) (ByteArray.toList s3)) (I4 [iV (wW (n6+1)),iV (wW (n7+1))] H2∧μ4 [iV (wW (n6+1)),iV (wW (n7+1))] H2<μ4 w5 H1) (I4 [iV n6,iV (wW (n7+1))] H2∧μ4 [iV n6,iV (wW (n7+1))] H2<μ4 w5 H1))) H1) (Q (.tuple #[iV (-1),iV n6]) H1)
theorem A9 {p1:Option Addr}{a2:Option Addr}{l2:Nat}{c2:Nat}{s3:ByteArray} (h:Ly p1 a2 l2 c2 s3 Q H):ah PP 149 #[.pointer p1,.slice a2 l2 c2,.string s3] Q H :=
 aN good Tryz.func149 rfl (Ls:=fun | 3=>some [(8,3),(9,3)] | _=>none) (by kernel_rfl) h
abbrev HE:Nat:=150
def M4 (p1:Option Addr) (n2:Int) (a3:Option Addr) (l3:Nat) (c3:Nat) (a4:Option Addr) (l4:Nat) (c4:Nat) (n5:Int) (Q:QT) (H:aj):Prop :=
 ∃ q6,p1=some q6∧∃ p7,ac H q6=some (pV p7)∧∃ q8,p7=some q8∧∃ p9,ac H q8=some (pV p9)∧∃ q10,p9=some q10∧∃ a11 l11 c11,ac H (q10.add 2)=some (lV a11 l11 c11)∧∃ J12:IT,(cond (n5 != 0) (∃ q13,p1=some q13∧∃ p14,ac H q13=some (pV p14)∧∃ q15,p14=some q15∧∃ p16,ac H q15=some (pV p16)∧cS 217 #[pV p16,lV (some (A0 H.size)) 1 1] (fun v17 H1=>∃ n18,v17=iV n18∧J12 [] H1) (H.push (.cells #[iV n5] 36))) (J12 [] H))∧∀ w19 H2,J12 w19 H2->∀ _g:Nat->Value,w19=[]∧cS 236 #[pV p1,iV n2,lV a3 l3 c3,lV a4 l4 c4] (fun v20 H3=>∃ n21,v20=iV n21∧∃ q22,p1=some q22∧∃ p23,ac H3 q22=some (pV p23)∧∃ q24,p23=some q24∧∃ p25,ac H3 q24=some (pV p25)∧∃ q26,p1=some q26∧∃ p27,ac H3 q26=some (pV p27)∧∃ q28,p27=some q28∧∃ p29,ac H3 q28=some (pV p29)∧∃ q30,p29=some q30∧∃ a31 l31 c31,ac H3 (q30.add 2)=some (lV a31 l31 c31)∧cS 218 #[pV p25,iV (wW ((l31:Int)-(l11:Int)))] (fun v32 H4=>∃ n33,v32=iV n33∧True∧Q (iV n21) H4) H3) H2
theorem Cx {p1:Option Addr}{n2:Int}{a3:Option Addr}{l3:Nat}{c3:Nat}{a4:Option Addr}{l4:Nat}{c4:Nat}{n5:Int} (h:M4 p1 n2 a3 l3 c3 a4 l4 c4 n5 Q H):ah PP 150 #[.pointer p1,.int .i64 n2,.slice a3 l3 c3,.slice a4 l4 c4,.int .i64 n5] Q H :=
 aN good Tryz.func150 rfl (Ls:=fun | 1004=>some [] | _=>none) (by kernel_rfl) h
abbrev HL:Nat:=151
def Px (a1:Option Addr) (l1:Nat) (_c1:Nat) (n2:Int) (n3:Int) (n4:Int) (Q:QT) (H:aj):Prop :=
 ∃(I5:IT) (μ5:MT),I5 [lV none 0 0,iV 0] H∧∀ w6 H1,I5 w6 H1->∀ _g:Nat->Value,∃ a7 l7 c7 n8,w6=[lV a7 l7 c7,iV n8]∧cond (decide (n8<=(l1:Int))) (cond (n8 == n3) (cond (n4 != 0) (bk PP (Builtin.append_ #[108,108] 108 #[lV a7 l7 c7,lV (some (A0 H1.size)) 1 1]) (fun v9 H2=>∃ a10 l10 c10,v9=lV a10 l10 c10∧cond (decide (n8<(l1:Int))) (cond (n8 != n2) (((0:Int)<=n8∧n8<(l1:Int))∧∃ q11,a1=some q11∧∃ n12,ac H2 (q11.add (Int.toNat n8*1))=some (iV n12)∧bk PP (Builtin.append_ #[108,108] 108 #[lV a10 l10 c10,lV (some (A0 H2.size)) 1 1]) (fun v13 H3=>∃ a14 l14 c14,v13=lV a14 l14 c14∧I5 [lV a14 l14 c14,iV (wW (n8+1))] H3∧μ5 [lV a14 l14 c14,iV (wW (n8+1))] H3<μ5 w6 H1) (H2.push (.cells #[iV n12] 36))) (I5 [lV a10 l10 c10,iV (wW (n8+1))] H2∧μ5 [lV a10 l10 c10,iV (wW (n8+1))] H2<μ5 w6 H1)) (I5 [lV a10 l10 c10,iV (wW (n8+1))] H2∧μ5 [lV a10 l10 c10,iV (wW (n8+1))] H2<μ5 w6 H1)) (H1.push (.cells #[iV n4] 36))) (cond (decide (n8<(l1:Int))) (cond (n8 != n2) (((0:Int)<=n8∧n8<(l1:Int))∧∃ q15,a1=some q15∧∃ n16,ac H1 (q15.add (Int.toNat n8*1))=some (iV n16)∧bk PP (Builtin.append_ #[108,108] 108 #[lV a7 l7 c7,lV (some (A0 H1.size)) 1 1]) (fun v17 H4=>∃ a18 l18 c18,v17=lV a18 l18 c18∧I5 [lV a18 l18 c18,iV (wW (n8+1))] H4∧μ5 [lV a18 l18 c18,iV (wW (n8+1))] H4<μ5 w6 H1) (H1.push (.cells #[iV n16] 36))) (I5 [lV a7 l7 c7,iV (wW (n8+1))] H1∧μ5 [lV a7 l7 c7,iV (wW (n8+1))] H1<μ5 w6 H1)) (I5 [lV a7 l7 c7,iV (wW (n8+1))] H1∧μ5 [lV a7 l7 c7,iV (wW (n8+1))] H1<μ5 w6 H1))) (cond (decide (n8<(l1:Int))) (cond (n8 != n2) (((0:Int)<=n8∧n8<(l1:Int))∧∃ q19,a1=some q19∧∃ n20,ac H1 (q19.add (Int.toNat n8*1))=some (iV n20)∧bk PP (Builtin.append_ #[108,108] 108 #[lV a7 l7 c7,lV (some (A0 H1.size)) 1 1]) (fun v21 H5=>∃ a22 l22 c22,v21=lV a22 l22 c22∧I5 [lV a22 l22 c22,iV (wW (n8+1))] H5∧μ5 [lV a22 l22 c22,iV (wW (n8+1))] H5<μ5 w6 H1) (H1.push (.cells #[iV n20] 36))) (I5 [lV a7 l7 c7,iV (wW (n8+1))] H1∧μ5 [lV a7 l7 c7,iV (wW (n8+1))] H1<μ5 w6 H1)) (I5 [lV a7 l7 c7,iV (wW (n8+1))] H1∧μ5 [lV a7 l7 c7,iV (wW (n8+1))] H1<μ5 w6 H1))) (Q (lV a7 l7 c7) H1)
theorem zT {a1:Option Addr}{l1:Nat}{c1:Nat}{n2:Int}{n3:Int}{n4:Int} (h:Px a1 l1 c1 n2 n3 n4 Q H):ah PP 151 #[.slice a1 l1 c1,.int .i64 n2,.int .i64 n3,.int .i64 n4] Q H :=
 aN good Tryz.func151 rfl (Ls:=fun | 3=>some [(9,108),(10,3)] | _=>none) (by kernel_rfl) h
abbrev KQ:Nat:=152
def LY (a1:Option Addr) (l1:Nat) (c1:Nat) (n2:Int) (Q:QT) (H:aj):Prop :=
 ((0:Int)<=n2∧n2<=(c1:Int))∧((0:Int)<=(wW (n2+1))∧(wW (n2+1))<=(l1:Int))∧bk PP (Builtin.append_ #[108,108] 108 #[lV none 0 0,lV a1 (Int.toNat n2) c1]) (fun v3 H1=>∃ a4 l4 c4,v3=lV a4 l4 c4∧True∧bk PP (Builtin.append_ #[108,108] 108 #[lV a4 l4 c4,lV (gl a1 c1 (wW (n2+1)) 1) (l1-Int.toNat (wW (n2+1))) (c1-Int.toNat (wW (n2+1)))]) (fun v5 H2=>∃ a6 l6 c6,v5=lV a6 l6 c6∧True∧Q (lV a6 l6 c6) H2) H1) H
theorem z7 {a1:Option Addr}{l1:Nat}{c1:Nat}{n2:Int} (h:LY a1 l1 c1 n2 Q H):ah PP 152 #[.slice a1 l1 c1,.int .i64 n2] Q H :=
 okF Tryz.func152 rfl h
abbrev yd:Nat:=153
def L9 (p1:Option Addr) (n2:Int) (n3:Int) (Q:QT) (H:aj):Prop :=
 ∃ q4,p1=some q4∧∃ p5,ac H q4=some (pV p5)∧cS 189 #[pV p5,iV n2] (fun v6 H1=>∃ n7 n8,v6=.tuple #[iV n7,iV n8]∧cond (n8 != 0) (Q (.tuple #[iV 0,iV 0]) H1) (cS 237 #[pV p1,iV n2,iV n3] (fun v9 H2=>v9=.tuple #[]∧∃(I10:IT) (μ10:MT),I10 [iV n2] H2∧∀ w11 H3,I10 w11 H3->∀ _g:Nat->Value,∃ n12,w11=[iV n12]∧cond (n12 != 0) (cS 146 #[pV p1,iV n12] (fun v13 H4=>∃ a14 l14 c14 a15 l15 c15 n16,v13=.tuple #[lV a14 l14 c14,lV a15 l15 c15,iV n16]∧∃(I17:IT) (μ17:MT),I17 [iV 0] H4∧∀ w18 H5,I17 w18 H5->∀ _g:Nat->Value,∃ n19,w18=[iV n19]∧cond (decide (n19<(l14:Int))) (cond (decide (n3 ≥ 0)) (∃ q20,p1=some q20∧∃ p21,ac H5 q20=some (pV p21)∧∃ q22,p21=some q22∧∃ p23,ac H5 (q22.add 1)=some (pV p23)∧cS 214 #[pV p23] (fun v24 H6=>∃ n25,v24=iV n25∧cond (decide (n3<n25)) (((0:Int)<=n19∧n19<(l14:Int))∧∃ q26,a14=some q26∧∃ n27,ac H6 (q26.add (Int.toNat n19*1))=some (iV n27)∧cond (n27 == (wW ((wW (4*n3))+2))) (((0:Int)<=n19∧n19<(l15:Int))∧∃ q28,a15=some q28∧∃ n29,ac H6 (q28.add (Int.toNat n19*1))=some (iV n29)∧cS 119 #[iV n29] (fun v30 H7=>∃ n31,v30=iV n31∧Q (.tuple #[iV n31,iV n12]) H7) H6) (I17 [iV (wW (n19+1))] H6∧μ17 [iV (wW (n19+1))] H6<μ17 w18 H5)) (I17 [iV (wW (n19+1))] H6∧μ17 [iV (wW (n19+1))] H6<μ17 w18 H5)) H5) (I17 [iV (wW (n19+1))] H5∧μ17 [iV (wW (n19+1))] H5<μ17 w18 H5)) (∃ q32,p1=some q32∧∃ p33,ac H5 q32=some (pV p33)∧cS 191 #[pV p33,iV n12] (fun v34 H8=>∃ n35 n36,v34=.tuple #[iV n35,iV n36]∧I10 [iV n35] H8∧μ10 [iV n35] H8<μ10 w11 H3) H5)) H3) (Q (.tuple #[iV 0,iV 0]) H3)) H1)) H
theorem Bw {p1:Option Addr}{n2:Int}{n3:Int} (h:L9 p1 n2 n3 Q H):ah PP 153 #[.pointer p1,.int .i64 n2,.int .i64 n3] Q H :=
 aN good Tryz.func153 rfl (Ls:=fun | 6=>some [(10,3)] | 9=>some [(14,3)] | _=>none) (by kernel_rfl) h
abbrev yN:Nat:=154
def Nv (p1:Option Addr) (n2:Int) (s3:ByteArray) (Q:QT) (H:aj):Prop :=
 ah PP 146 #[pV p1,iV n2] (fun v4 H1=>∃ a5 l5 c5 a6 l6 c6 n7,v4=.tuple #[lV a5 l5 c5,lV a6 l6 c6,iV n7]∧cond (n7 != 0) (Q (.tuple #[iV 0,iV n7]) H1) (cS 149 #[pV p1,lV a5 l5 c5,sV s3] (fun v8 H2=>∃ n9 n10,v8=.tuple #[iV n9,iV n10]∧cond (decide (n9<0)) (Q (.tuple #[iV 0,iV 140]) H2) (((0:Int)<=n9∧n9<(l6:Int))∧∃ q11,a6=some q11∧∃ n12,ac H2 (q11.add (Int.toNat n9*1))=some (iV n12)∧cS 119 #[iV n12] (fun v13 H3=>∃ n14,v13=iV n14∧Q (.tuple #[iV n14,iV 0]) H3) H2)) H1)) H
theorem CX {p1:Option Addr}{n2:Int}{s3:ByteArray} (h:Nv p1 n2 s3 Q H):ah PP 154 #[.pointer p1,.int .i64 n2,.string s3] Q H :=
 okF Tryz.func154 rfl h
abbrev In:Nat:=155
def PZ (p1:Option Addr) (Q:QT) (H:aj):Prop :=
 ∃ q2,p1=some q2∧Wr H (q2.add 1)∧Q (.tuple #[]) (au H (q2.add 1) (lV none 0 0))
theorem Dd {p1:Option Addr} (h:PZ p1 Q H):ah PP 155 #[.pointer p1] Q H :=
 okF Tryz.func155 rfl h
abbrev ED:Nat:=157
def Ms (p1:Option Addr) (n2:Int) (Q:QT) (H:aj):Prop :=
 ah PP 239 #[iV n2] (fun v3 H1=>∃ n4 n5,v3=.tuple #[iV n4,iV n5]∧∃ q6,p1=some q6∧∃ p7,ac H1 q6=some (pV p7)∧cS 26 #[pV p7] (fun v8 H2=>∃ p9,v8=pV p9∧cS 240 #[pV p9,iV n4] (fun v10 H3=>∃ s11 n12,v10=.tuple #[sV s11,iV n12]∧Q (sV s11) H3) H2) H1) H
theorem AA {p1:Option Addr}{n2:Int} (h:Ms p1 n2 Q H):ah PP 157 #[.pointer p1,.int .i64 n2] Q H :=
 okF Tryz.func157 rfl h
abbrev yq:Nat:=225
def Gh (p1:Option Addr) (Q:QT) (H:aj):Prop :=
 cond (!(Option.isNone p1)) (∃ q2,p1=some q2∧∃ p3,ac H q2=some (pV p3)∧Q (.bool (!(Option.isNone p3))) H) (Q (.bool false) H)
theorem vt {p1:Option Addr} (h:Gh p1 Q H):ah PP 225 #[.pointer p1] Q H :=
 okF Tryz.func225 rfl h
abbrev yt:Nat:=226
def N0 (p1:Option Addr) (n2:Int) (n3:Int) (Q:QT) (H:aj):Prop :=
 ah PP 143 #[iV n3] (fun v4 H1=>∃ n5 n6,v4=.tuple #[iV n5,iV n6]∧∃(I7:IT) (μ7:MT),I7 [iV n2] H1∧∀ w8 H2,shH (au H2 (A0 H.size) (iV 0)) fun C3=>shH (au C3 ((A0 H.size).add 1) (iV 0)) fun C1=>I7 w8 H2->∀ _g:Nat->Value,∃ n9,w8=[iV n9]∧cond (n9 != 0) (cond (n6 == 0) (cS 141 #[pV p1,iV n9,iV 3] (fun v10 H3=>∃ n11,v10=iV n11∧cS 227 #[pV p1,iV n11] (fun v12 H4=>∃ a13 l13 c13,v12=lV a13 l13 c13∧∃(I14:IT) (μ14:MT),I14 [iV 0] H4∧∀ w15 H5,I14 w15 H5->∀ _g:Nat->Value,∃ n16,w15=[iV n16]∧cond (decide (n16<(l13:Int))) (((0:Int)<=n16∧n16<(l13:Int))∧∃ q17,a13=some q17∧∃ n18,ac H5 (q17.add (Int.toNat n16*1))=some (iV n18)∧cond (n18 == n5) (∃ q19,p1=some q19∧∃ p20,ac H5 q19=some (pV p20)∧cS 19 #[pV p20] (fun v21 H6=>∃ p22,v21=pV p22∧cS 20 #[pV p22] (fun v23 H7=>∃ p24,v23=pV p24∧cS 141 #[pV p1,iV n9,iV 4] (fun v25 H8=>∃ n26,v25=iV n26∧cS 233 #[pV p24,iV n26,iV n16] (fun v27 H9=>∃ n28 n29,v27=.tuple #[iV n28,iV n29]∧cS 183 #[iV n28] (fun v30 H10=>∃ n31:Int,shH (au (au H10 (A0 H.size) (iV n31)) ((A0 H.size).add 1) (iV n9)) fun C2=>∃ n32,v30=.tuple #[iV n31,iV n32]∧Wr H10 (A0 H.size)∧Wr (au H10 (A0 H.size) (iV n31)) ((A0 H.size).add 1)∧∃ n33,ac C2 (A0 H.size)=some (iV n33)∧∃ n34,ac C2 ((A0 H.size).add 1)=some (iV n34)∧Q (.agg #[iV n33,iV n34]) C2) H9) H8) H7) H6) H5) (I14 [iV (wW (n16+1))] H5∧μ14 [iV (wW (n16+1))] H5<μ14 w15 H5)) (∃ q35,p1=some q35∧∃ p36,ac H5 q35=some (pV p36)∧cS 190 #[pV p36,iV n9] (fun v37 H11=>∃ n38 n39,v37=.tuple #[iV n38,iV n39]∧I7 [iV n38] H11∧μ7 [iV n38] H11<μ7 w8 H2) H5)) H3) H2) (Wr H2 (A0 H.size)∧Wr C3 ((A0 H.size).add 1)∧∃ n40,ac C1 (A0 H.size)=some (iV n40)∧∃ n41,ac C1 ((A0 H.size).add 1)=some (iV n41)∧Q (.agg #[iV n40,iV n41]) C1)) (Wr H2 (A0 H.size)∧Wr C3 ((A0 H.size).add 1)∧∃ n42,ac C1 (A0 H.size)=some (iV n42)∧∃ n43,ac C1 ((A0 H.size).add 1)=some (iV n43)∧Q (.agg #[iV n42,iV n43]) C1)) (H.push (.cells #[iV 0,iV 0] 265))
theorem DB {p1:Option Addr}{n2:Int}{n3:Int} (h:N0 p1 n2 n3 Q H):ah PP 226 #[.pointer p1,.int .i64 n2,.int .i64 n3] Q H :=
 aN good Tryz.func226 rfl (Ls:=fun | 3=>some [(9,3)] | 6=>some [(44,3)] | _=>none) (by kernel_rfl) h
abbrev I0:Nat:=227
def Lm (p1:Option Addr) (n2:Int) (Q:QT) (H:aj):Prop :=
 ∃ q3,p1=some q3∧∃ p4,ac H q3=some (pV p4)∧cS 19 #[pV p4] (fun v5 H1=>∃ p6,v5=pV p6∧cS 20 #[pV p6] (fun v7 H2=>∃ p8,v7=pV p8∧cS 182 #[pV p8,iV n2] (fun v9 H3=>∃ n10 n11 n12,v9=.tuple #[iV n10,iV n11,iV n12]∧∃(I13:IT) (μ13:MT),I13 [lV none 0 0,iV 0] H3∧∀ w14 H4,I13 w14 H4->∀ _g:Nat->Value,∃ a15 l15 c15 n16,w14=[lV a15 l15 c15,iV n16]∧cond (decide (n16<n10)) (cS 233 #[pV p8,iV n2,iV n16] (fun v17 H5=>∃ n18 n19,v17=.tuple #[iV n18,iV n19]∧bk PP (Builtin.append_ #[108,108] 108 #[lV a15 l15 c15,lV (some (A0 H5.size)) 1 1]) (fun v20 H6=>∃ a21 l21 c21,v20=lV a21 l21 c21∧I13 [lV a21 l21 c21,iV (wW (n16+1))] H6∧μ13 [lV a21 l21 c21,iV (wW (n16+1))] H6<μ13 w14 H4) (H5.push (.cells #[iV n18] 36))) H4) (Q (lV a15 l15 c15) H4)) H2) H1) H
theorem DJ {p1:Option Addr}{n2:Int} (h:Lm p1 n2 Q H):ah PP 227 #[.pointer p1,.int .i64 n2] Q H :=
 aN good Tryz.func227 rfl (Ls:=fun | 5=>some [(9,108),(27,3)] | _=>none) (by kernel_rfl) h
abbrev E2:Nat:=229
def MO (n1:Int) (f1:Nat) (g1:Array Value) (h1:Array Value) (Q:QT) (H:aj):Prop :=
 ∃(I2:IT) (μ2:MT),I2 [iV 0,iV n1] H∧∀ w3 H1,I2 w3 H1->∀ _g:Nat->Value,∃ n4 n5,w3=[iV n4,iV n5]∧cond (decide (n4<n5)) (ah PP f1 ((g1++#[iV (wW (Int.tdiv (wW (n4+n5)) 2))])++h1) (fun v6 H2=>∃ b7,v6=.bool b7∧cond b7 (I2 [iV n4,iV (wW (Int.tdiv (wW (n4+n5)) 2))] H2∧μ2 [iV n4,iV (wW (Int.tdiv (wW (n4+n5)) 2))] H2<μ2 w3 H1) (I2 [iV (wW ((wW (Int.tdiv (wW (n4+n5)) 2))+1)),iV n5] H2∧μ2 [iV (wW ((wW (Int.tdiv (wW (n4+n5)) 2))+1)),iV n5] H2<μ2 w3 H1)) H1) (Q (iV n4) H1)
theorem A6 {n1:Int}{f1:Nat}{g1:Array Value}{h1:Array Value} (h:MO n1 f1 g1 h1 Q H):ah PP 229 #[.int .i64 n1,.func (.func f1) g1 h1] Q H :=
 aN good Tryz.func229 rfl (Ls:=fun | 2=>some [(5,3),(6,3)] | _=>none) (by kernel_rfl) h
abbrev Hr:Nat:=230
def MX (n1:Int) (q_0:Addr) (q_1:Addr) (q_2:Addr) (Q:QT) (H:aj):Prop :=
 ∃ p2,ac H q_0=some (pV p2)∧∃ a3 l3 c3,ac H q_1=some (lV a3 l3 c3)∧((0:Int)<=n1∧n1<(l3:Int))∧∃ q4,a3=some q4∧∃ n5,ac H (q4.add (Int.toNat n1*1))=some (iV n5)∧∃ s6,ac H q_2=some (sV s6)∧cS 157 #[pV p2,iV n5] (fun v7 H1=>∃ s8,v7=sV s8∧((ac H1 q_2=some (sV s6)∧True)∧True)∧Q (.bool (!(Op.bytesLess (ByteArray.toList s8) (ByteArray.toList s6)))) H1) H
theorem Cp {n1:Int}{q_0:Addr}{q_1:Addr}{q_2:Addr} (h:MX n1 q_0 q_1 q_2 Q H):ah PP 230 #[.int .i64 n1,.pointer (some q_0),.pointer (some q_1),.pointer (some q_2)] Q H :=
 okF Tryz.func230 rfl h
abbrev HF:Nat:=234
def Pq (q_0:Addr) (q_1:Addr) (Q:QT) (H:aj):Prop :=
 ∃ p1,ac H q_0=some (pV p1)∧∃ p2,ac H q_0=some (pV p2)∧∃ n3,ac H q_1=some (iV n3)∧cS 83 #[pV p2] (fun v4 H1=>∃ a5 l5 c5,v4=lV a5 l5 c5∧((ac H1 q_1=some (iV n3)∧True)∧((ac H1 q_0=some (pV p1)∧True)∧True))∧cS 54 #[pV p1,iV (wW ((l5:Int)-n3))] (fun v6 H2=>∃ n7,v6=iV n7∧True∧Q (.tuple #[]) H2) H1) H
theorem ja {q_0:Addr}{q_1:Addr}{Q:aj->Prop}{H:aj} (h:Pq q_0 q_1 (fun _ H1=>Q H1) H):iJ PP 234 #[.pointer (some q_0),.pointer (some q_1)] Q H :=
 wH good Tryz.func234 rfl (Ls:=fun _=>none) (by kernel_rfl) h
abbrev EU:Nat:=235
def Ln (p1:Option Addr) (a2:Option Addr) (l2:Nat) (_c2:Nat) (Q:QT) (H:aj):Prop :=
 cond ((l2:Int) == 0) (cS 138 #[iV 18] (fun v3 H1=>∃ n4 n5,v3=.tuple #[iV n4,iV n5]∧Q (.tuple #[iV n4,iV n5]) H1) H) (∃ q6,p1=some q6∧∃ p7,ac H q6=some (pV p7)∧cS 19 #[pV p7] (fun v8 H2=>∃ p9,v8=pV p9∧cS 138 #[iV 11] (fun v10 H3=>∃ n11 n12,v10=.tuple #[iV n11,iV n12]∧cS 238 #[pV p9,iV n11,iV (l2:Int),iV 0] (fun v13 H4=>∃ n14 n15,v13=.tuple #[iV n14,iV n15]∧cond (n15 != 0) (Q (.tuple #[iV 0,iV n15]) H4) (cS 183 #[iV n14] (fun v16 H5=>∃ n17 n18,v16=.tuple #[iV n17,iV n18]∧∃(I19:IT) (μ19:MT),I19 [iV 0] H5∧∀ w20 H6,I19 w20 H6->∀ _g:Nat->Value,∃ n21,w20=[iV n21]∧cond (decide (n21<(l2:Int))) (((0:Int)<=n21∧n21<(l2:Int))∧∃ q22,a2=some q22∧∃ n23,ac H6 (q22.add (Int.toNat n21*1))=some (iV n23)∧cS 20 #[pV p9] (fun v24 H7=>∃ p25,v24=pV p25∧cS 140 #[pV p25,iV n17,iV n21,iV n23] (fun v26 H8=>∃ n27,v26=iV n27∧I19 [iV (wW (n21+1))] H8∧μ19 [iV (wW (n21+1))] H8<μ19 w20 H6) H7) H6) (cS 51 #[pV p9,lV (some (A0 H6.size)) 1 1] (fun v28 H9=>∃ n29,v28=iV n29∧Q (.tuple #[iV n14,iV n29]) H9) (H6.push (.cells #[iV n14] 36)))) H4)) H3) H2) H)
theorem AU {p1:Option Addr}{a2:Option Addr}{l2:Nat}{c2:Nat} (h:Ln p1 a2 l2 c2 Q H):ah PP 235 #[.pointer p1,.slice a2 l2 c2] Q H :=
 aN good Tryz.func235 rfl (Ls:=fun | 10=>some [(48,3)] | _=>none) (by kernel_rfl) h
abbrev E4:Nat:=236
def MQ (p1:Option Addr) (n2:Int) (a3:Option Addr) (l3:Nat) (c3:Nat) (a4:Option Addr) (l4:Nat) (c4:Nat) (Q:QT) (H:aj):Prop :=
 ∃ q5,p1=some q5∧∃ p6,ac H q5=some (pV p6)∧cS 121 #[pV p6,iV 11,lV a3 l3 c3] (fun v7 H1=>∃ n8 n9,v7=.tuple #[iV n8,iV n9]∧cond (n9 != 0) (Q (iV n9) H1) (∃ q10,p1=some q10∧∃ p11,ac H1 q10=some (pV p11)∧cS 121 #[pV p11,iV 11,lV a4 l4 c4] (fun v12 H2=>∃ n13 n14,v12=.tuple #[iV n13,iV n14]∧cond (n14 != 0) (Q (iV n14) H2) (∃ q15,p1=some q15∧∃ p16,ac H2 q15=some (pV p16)∧∃ q17,p16=some q17∧∃ p18,ac H2 q17=some (pV p18)∧∃ q19,p18=some q19∧∃ p20,ac H2 q19=some (pV p20)∧cS 64 #[pV p20,iV n2,iV 3,iV n8] (fun v21 H3=>∃ n22,v21=iV n22∧∃ q23,p1=some q23∧∃ p24,ac H3 q23=some (pV p24)∧∃ q25,p24=some q25∧∃ p26,ac H3 q25=some (pV p26)∧∃ q27,p26=some q27∧∃ p28,ac H3 q27=some (pV p28)∧cS 64 #[pV p28,iV n2,iV 4,iV n13] (fun v29 H4=>∃ n30,v29=iV n30∧∃ q31,p1=some q31∧Wr H4 (q31.add 1)∧Q (iV 0) (au H4 (q31.add 1) (lV none 0 0))) H3) H2)) H1)) H
theorem Ch {p1:Option Addr}{n2:Int}{a3:Option Addr}{l3:Nat}{c3:Nat}{a4:Option Addr}{l4:Nat}{c4:Nat} (h:MQ p1 n2 a3 l3 c3 a4 l4 c4 Q H):ah PP 236 #[.pointer p1,.int .i64 n2,.slice a3 l3 c3,.slice a4 l4 c4] Q H :=
 okF Tryz.func236 rfl h
abbrev Ht:Nat:=237
def Ph (p1:Option Addr) (n2:Int) (n3:Int) (Q:QT) (H:aj):Prop :=
 ∃(I4:IT) (μ4:MT),I4 [iV 0] H∧∀ w5 H1,I4 w5 H1->∀ _g:Nat->Value,∃ n6,w5=[iV n6]∧∃ q7,p1=some q7∧∃ a8 l8 c8,ac H1 (q7.add 1)=some (lV a8 l8 c8)∧cond (decide (n6<(l8:Int))) (∃ q9,p1=some q9∧∃ a10 l10 c10,ac H1 (q9.add 1)=some (lV a10 l10 c10)∧((0:Int)<=n6∧n6<(l10:Int))∧∃ q11,a10=some q11∧∃ n12,ac H1 (q11.add (Int.toNat n6*2))=some (iV n12)∧cond (n12 == n2) (∃ q13,p1=some q13∧∃ a14 l14 c14,ac H1 (q13.add 1)=some (lV a14 l14 c14)∧((0:Int)<=n6∧n6<(l14:Int))∧∃ q15,a14=some q15∧∃ n16,ac H1 ((q15.add (Int.toNat n6*2)).add 1)=some (iV n16)∧cond (n16 == n3) (∃ q17,p1=some q17∧∃ n18,ac H1 (q17.add 2)=some (iV n18)∧∃ q19,p1=some q19∧Wr H1 (q19.add 2)∧Q (.tuple #[]) (au H1 (q19.add 2) (iV (wW (n18+1))))) (I4 [iV (wW (n6+1))] H1∧μ4 [iV (wW (n6+1))] H1<μ4 w5 H1)) (I4 [iV (wW (n6+1))] H1∧μ4 [iV (wW (n6+1))] H1<μ4 w5 H1)) (∃ q20,p1=some q20∧∃ a21 l21 c21,ac H1 (q20.add 1)=some (lV a21 l21 c21)∧bk PP (Builtin.append_ #[204,204] 204 #[lV a21 l21 c21,lV (some (A0 H1.size)) 1 1]) (fun v22 H2=>∃ a23 l23 c23,v22=lV a23 l23 c23∧∃ q24,p1=some q24∧Wr H2 (q24.add 1)∧Q (.tuple #[]) (au H2 (q24.add 1) (lV a23 l23 c23))) (H1.push (.cells #[iV n2,iV n3] 301)))
theorem Cr {p1:Option Addr}{n2:Int}{n3:Int} (h:Ph p1 n2 n3 Q H):ah PP 237 #[.pointer p1,.int .i64 n2,.int .i64 n3] Q H :=
 aN good Tryz.func237 rfl (Ls:=fun | 1=>some [(6,3)] | _=>none) (by kernel_rfl) h
end Go.Proofs.YtmkdkplipbocjaaGreatDoor
namespace Go.Proofs.YtmkdkplipbocjaaGreatDoor
open Kw
abbrev KP (H:aj) (bb b:Nat):Prop:=ac H ⟨bb,0,none⟩=some (.pointer (some ⟨b,0,none⟩))
theorem KP.nil {H H':aj}{bb b:Nat} (h:KP H bb b) (f:Fr [] H H'):KP H' bb b:=by
 unfold KP at h ⊢
 rw [bz f (by simp) (bN h)];exact h
section
variable {H:aj}{bb b:Nat}{F:ay}{s:SP}{t:TB}{v:KV}{Q:QT}
theorem kx (hc:KP H bb b) (h:Q (.bool true) H):ah PP yq #[.pointer (some ⟨bb,0,none⟩)] Q H:=by
 apply vt
 unfold Gh pV
 exact ⟨_,rfl,_,hc,h⟩
theorem jf (hK:PK H b F s t) (hc:KP H bb b){o i:Int} (h:Q (.int .i64 (eY s.h o i)) H):ah PP Iw #[.pointer (some ⟨bb,0,none⟩),.int .i64 o,.int .i64 i] Q H:=by
 apply Dk
 unfold P6 iV pV cS
 refine ⟨_,rfl,_,hc,eL hK fun sb F1 _ hS _ _ _=>⟨_,rfl,cU hS fun hb F2 hR _ _=>⟨_,rfl,si hR ⟨_,_,rfl,mu hK.kinds ?_⟩⟩⟩⟩
 have:=h
 unfold eY gY at this
 unfold qD
 split
 ·rename_i hk;rw [if_pos (show cz (kslot s.h o i)=3 from hk)] at this;exact ⟨_,_,rfl,this⟩
 ·rename_i hk;rw [if_neg (show ¬ cz (kslot s.h o i)=3 from hk)] at this;exact ⟨_,_,rfl,this⟩
theorem qN (hK:PK H b F s t) (hc:KP H bb b){n:Nat} (hn:n<t.texts.length) (h:Q (.string (tx t n)) H):ah PP ED #[.pointer (some ⟨bb,0,none⟩),.int .i64 (bD n)] Q H:=by
 apply AA
 unfold Ms iV pV sV cS
 refine vf hK.kinds ?_
 have hk:cz (bD n)=2:=by
  have:=d6 hK.wft hn
  unfold dG at this
  unfold bD at this ⊢
  have:=bG (4*(n:Int)+2)
  omega
 have e1:bD n / 4=n:=by unfold bD;omega
 unfold qD
 rw [if_pos hk]
 simp only [e1]
 refine ⟨_,_,rfl,_,rfl,_,hc,iQ hK fun tb F2 _ hT=>⟨_,rfl,sE hT ?_⟩⟩
 unfold nP
 rw [dif_pos ⟨by omega,by omega⟩]
 refine ⟨_,_,rfl,?_⟩
 have e:t.texts[((n:Int)).toNat]'(by omega)=tx t n:=by
  unfold tx
  rw [List.getD_eq_getElem?_getD,List.getElem?_eq_getElem hn];rfl
 rw [e];exact h
theorem od (hK:PK H b F s t) (hc:KP H bb b){o:Int} (h:∀ a l c G H',bv 1 H' a l c (aq (kwords s.h o)) G->Fr [] H H'->(∀ x∈G,H.size<=x)->Q (.slice a l c) H'):ah PP I0 #[.pointer (some ⟨bb,0,none⟩),.int .i64 o] Q H:=by
 have hs1:aF PP 108=some (1,8,some (.int .i64 0)):=by kernel_rfl
 have hn0:=hZ (r:=s.h) o
 have hn1:=mY hK.wfs.h o
 apply DJ
 unfold Lm A0 iV wW pV lV cS
 refine ⟨_,rfl,_,hc,eL hK fun sb F1 _ hS _ _ _=>⟨_,rfl,cU hS fun hb F2 hR _ _=>⟨_,rfl,ra hR ⟨_,_,_,rfl,?_⟩⟩⟩⟩
 refine ⟨fun w H'=>∃(i:Nat) (a:Option Addr) (l' c:Nat) (G:ay),w=[.slice a l' c,.int .i64 i]∧(i:Int)<=ksize s.h o∧bv 1 H' a l' c (aq ((kwords s.h o).take i)) G∧Fr [] H H'∧(∀ x∈G,H.size<=x),fun w _=>match w with
  | [_,.int _ i]=>(ksize s.h o-i).toNat
  | _=>0,⟨0,none,0,0,[],rfl,hn0,by simpa [aq] using bv.nil 1 H,Fr.refl _ _,by simp⟩,?_⟩
 rintro w H1 ⟨i,a1,l1,c1,G,rfl,hi,ho,hf1,hG⟩ _
 have hlen:(kwords s.h o).length=(ksize s.h o).toNat:=by simp [kwords]
 have hl1:l1=i:=by have:=ho.len;simp only [aq,List.length_map,List.length_take] at this;omega
 refine ⟨_,_,_,_,rfl,?_⟩
 rw [ae]
 refine aA (fun hlt=>?_) fun hlt=>?_
 ·have hlt:(i:Int)<ksize s.h o:=hlt
  have htk:(kwords s.h o).take (i+1)=(kwords s.h o).take i++[kslot s.h o i]:=by
   rw [List.take_add_one,List.getElem?_eq_getElem (by omega)];simp [kwords]
  have e:IntKind.wrap .i64 ((i:Int)+1)=((i+1:Nat):Int):=by rw [am (by omega) (by omega)];omega
  refine si (hR.fr hf1 (bi.nil_right _) (by simp)) ⟨_,_,rfl,?_⟩
  refine bg hs1 rfl (by kernel_rfl) ho rfl (by simp [cC]) (by omega) (by decide) (by decide) fun a' c' G2 H3 g1 g2 g3=>⟨_,_,_,rfl,?_⟩
  have hfr:=Up.fresh hf1 g2 hG
  rw [e]
  refine ⟨⟨i+1,a',l1+1,c',G2,rfl,by omega,?_,hfr.1,hfr.2⟩,by simp;omega⟩
  rw [htk,bt];exact g1
 ·have hlt:¬ (i:Int)<ksize s.h o:=hlt
  rw [List.take_of_length_le (by omega)] at ho
  exact h _ _ _ _ H1 ho hf1 hG
theorem kL (hK:PK H b F s t) (hv:KAll s t v) (hc:KP H bb b){o:Int}
  (h1:∀ i (hi:i<v.cls.length),dZ v o=some i->∀ a l c G a' l' c' G' H',bv 1 H' a l c (aq (v.cls[i]).sels) G->bv 1 H' a' l' c' (aq (v.cls[i]).mets) G'->Fr [] H H'->(∀ x∈G,H.size<=x)->(∀ x∈G',H.size<=x)->Q (.tuple #[.slice a l c,.slice a' l' c',.int .i64 0]) H')
  (h2:dZ v o=none->∀ H',Fr [] H H'->Q (.tuple #[.slice none 0 0,.slice none 0 0,.int .i64 130]) H'):ah PP yg #[.pointer (some ⟨bb,0,none⟩),.int .i64 o] Q H:=by
 apply vm
 unfold Fn iV pV lV cS
 refine kx hc ⟨_,rfl,?_⟩
 simp only [Bool.not_true,cond_false]
 refine ⟨_,rfl,_,hc,rW hK hv fun H1 f1=>?_⟩
 cases hp:dZ v o with
 | none=>exact ⟨_,_,rfl,h2 hp H1 f1⟩
 | some i =>
  refine ⟨_,_,rfl,?_⟩
  obtain ⟨hi,rfl⟩:=cd hp
  have b3:=(hv.ks.view.sel hi).bnd hv.ks.wf.h
  have b4:=(hv.ks.view.met hi).bnd hv.ks.wf.h
  have e3:eY s.h (v.cls[i]).oop 3=(v.cls[i]).selA:=by
   unfold eY;rw [hv.ks.c3 hi,cK b3.1 b3.2.1]
  have e4:eY s.h (v.cls[i]).oop 4=(v.cls[i]).metA:=by
   unfold eY;rw [hv.ks.c4 hi,cK b4.1 b4.2.1]
  simp only [show ((0:Int) != 0)=false from rfl,cond_false]
  refine jf (hK.nil f1) (hc.nil f1) ⟨_,rfl,?_⟩
  rw [e3]
  refine od (hK.nil f1) (hc.nil f1) fun a l c G H2 ho f2 hG=>⟨_,_,_,rfl,?_⟩
  have f12:=f1.trans f2
  refine jf (hK.nil f12) (hc.nil f12) ⟨_,rfl,?_⟩
  rw [e4]
  refine od (hK.nil f12) (hc.nil f12) fun a' l' c' G' H3 ho' f3 hG'=>⟨_,_,_,rfl,?_⟩
  rw [(hv.ks.view.sel hi).kwords] at ho
  rw [(hv.ks.view.met hi).kwords] at ho'
  exact h1 i hi hp _ _ _ _ _ _ _ _ H3 (ho.fr f3 (by simp)) ho' (f12.trans f3) (fun x hx=>Nat.le_trans f1.1 (hG x hx)) fun x hx=>Nat.le_trans f12.1 (hG' x hx)
theorem BO {n:Nat} (hn:n<=1000000000){f:Nat}{g hh:Array Value}{p:Nat->Bool} (hm:∀ i j,i<=j->j<n->p i=true->p j=true)
  (hf:∀ H1,Fr [] H H1->∀ i,i<n->∀ Q':Value->aj->Prop,Q' (.bool (p i)) H1->ah PP f ((g++#[.int .i64 (i:Int)])++hh) Q' H1)
  (h:∀ k,k<=n->(∀ j,j<k->p j=false)->(∀ j,k<=j->j<n->p j=true)->Q (.int .i64 (k:Int)) H):ah PP E2 #[.int .i64 (n:Int),.func (.func f) g hh] Q H:=by
 apply A6
 unfold MO iV wW
 refine ⟨fun w H'=>∃(i j:Nat),w=[.int .i64 i,.int .i64 j]∧i<=j∧j<=n∧(∀ k,k<i->p k=false)∧(∀ k,j<=k->k<n->p k=true)∧H'=H,fun w _=>match w with
  | [.int _ i,.int _ j]=>(j-i).toNat
  | _=>0,⟨0,n,rfl,Nat.zero_le _,Nat.le_refl _,fun _ hk=>by omega,fun _ h1 h2=>by omega,rfl⟩,?_⟩
 rintro w H1 ⟨i,j,rfl,hij,hjn,hlo,hhi,rfl⟩ _
 refine ⟨_,_,rfl,?_⟩
 rw [ae]
 refine aA (fun hlt=>?_) fun hlt=>?_
 ·have hlt:i<j:=by omega
  have e1:IntKind.wrap .i64 ((i:Int)+j)=((i+j:Nat):Int):=by rw [am (by omega) (by omega)];omega
  have e2:Int.tdiv ((i+j:Nat):Int) 2=(((i+j) / 2:Nat):Int):=by rw [Int.tdiv_eq_ediv_of_nonneg (by omega)];omega
  have e3:IntKind.wrap .i64 (((i+j) / 2:Nat):Int)=(((i+j) / 2:Nat):Int):=am (by omega) (by omega)
  have e4:IntKind.wrap .i64 ((((i+j) / 2:Nat):Int)+1)=(((i+j) / 2+1:Nat):Int):=by rw [am (by omega) (by omega)];omega
  rw [e1,e2,e3,e4]
  refine hf _ (Fr.refl _ _) ((i+j) / 2) (by omega) _ ⟨_,rfl,?_⟩
  cases hp:p ((i+j) / 2) with
  | true =>
   simp only [cond_true]
   exact ⟨⟨i,(i+j) / 2,rfl,by omega,by omega,hlo,fun k h1 h2=>hm _ _ h1 h2 hp,trivial⟩,by simp;omega⟩
  | false =>
   simp only [cond_false]
   refine ⟨⟨(i+j) / 2+1,j,rfl,by omega,hjn,fun k hk=>?_,hhi,trivial⟩,by simp;omega⟩
   cases hpk:p k with
   | false=>rfl
   | true=>rw [hm k ((i+j) / 2) (by omega) (by omega) hpk] at hp;cases hp
 ·have:i=j:=by omega
  subst this
  exact h i hjn hlo hhi
theorem xe (hK:PK H b F s t) (hc:KP H bb b){a:Option Addr}{l c:Nat}{ns:List Nat} (hr:Rd 1 H a l (aq (ns.map bD))) (hn:∀ n∈ns,n<t.texts.length){x:ByteArray}{q0 q1 q2:Addr}
  (h0:ac H q0=some (.pointer (some ⟨bb,0,none⟩))) (h1:ac H q1=some (.slice a l c)) (h2:ac H q2=some (.string x)){i:Nat} (hi:i<ns.length)
  (h:Q (.bool (!decide (jn (tx t ns[i]) x))) H):ah PP Hr #[.int .i64 (i:Int),.pointer (some q0),.pointer (some q1),.pointer (some q2)] Q H:=by
 apply Cp
 unfold MX iV pV sV lV cS
 have hl:l=ns.length:=by have:=hr.1;simpa [aq] using this.symm
 obtain ⟨p,rfl,hcell,_⟩:=hr.int (i:=(i:Int)) (by omega) (by omega)
 refine ⟨_,h0,_,_,_,h1,⟨by omega,by omega⟩,_,rfl,_,by rw [Nat.mul_one];exact hcell,_,h2,?_⟩
 rw [Int.toNat_natCast]
 have e:(ns.map bD).getD i 0=bD ns[i]:=by simp [hi]
 rw [e]
 refine qN hK hc (hn _ (List.getElem_mem hi)) ⟨_,rfl,⟨⟨h2,trivial⟩,trivial⟩,?_⟩
 have e2:Op.bytesLess (tx t ns[i]).toList x.toList=decide (jn (tx t ns[i]) x):=by rw [Bool.eq_iff_iff,decide_eq_true_iff];exact Iff.rfl
 rw [e2];exact h
theorem oE (hK:PK H b F s t) (hc:KP H bb b){a:Option Addr}{l c:Nat}{ns:List Nat} (hr:Rd 1 H a l (aq (ns.map bD))) (ha:fQ H a l []) (hn:∀ n∈ns,n<t.texts.length) (hsr:(ns.map (tx t)).Pairwise jn) (hlk:l<=1000000){x:ByteArray}
  (h:∀ H',Fr [] H H'->Q (.tuple #[.int .i64 (bu (ns.map (tx t)) x:Nat),.bool (decide (x∈ns.map (tx t)))]) H'):ah PP Gr #[.pointer (some ⟨bb,0,none⟩),.slice a l c,.string x] Q H:=by
 apply Dc
 unfold ND A0 iV pV sV lV cS;dsimp only [shH]
 have hl:l=ns.length:=by have:=hr.1;simpa [aq] using this.symm
 generalize hH1:H.push (.cells #[.pointer (some ⟨bb,0,none⟩)] 69)=H1
 have g1:Fr [] H H1:=by rw [←hH1];exact Fr.push _ _ _
 have b1:bA H1 H.size #[.pointer (some ⟨bb,0,none⟩)]:=by rw [←hH1];exact bA.new _ _ _
 generalize hH2:H1.push (.cells #[.slice a l c] 108)=H2
 have g2:Fr [] H1 H2:=by rw [←hH2];exact Fr.push _ _ _
 have b2:bA H2 H1.size #[.slice a l c]:=by rw [←hH2];exact bA.new _ _ _
 generalize hH3:H2.push (.cells #[.string x] 9)=H3
 have g3:Fr [] H2 H3:=by rw [←hH3];exact Fr.push _ _ _
 have b3:bA H3 H2.size #[.string x]:=by rw [←hH3];exact bA.new _ _ _
 have f3:Fr [] H H3:=(g1.trans g2).trans g3
 have c1:ac H3 ⟨H.size,0,none⟩=some (.pointer (some ⟨bb,0,none⟩)):=((b1.fr g2 (by simp)).fr g3 (by simp)).cell 0
 have c2:ac H3 ⟨H1.size,0,none⟩=some (.slice a l c):=(b2.fr g3 (by simp)).cell 0
 have c3:ac H3 ⟨H2.size,0,none⟩=some (.string x):=b3.cell 0
 have hK3:=hK.nil f3
 have hc3:=hc.nil f3
 have hr3:Rd 1 H3 a l (aq (ns.map bD)):=eC ha f3 hr
 refine ⟨_,_,_,c2,?_⟩
 have hts:∀ i (hi:i<ns.length),(ns.map (tx t))[i]?=some (tx t ns[i]):=fun i hi=>by simp [hi]
 rw [hl]
 refine BO (p:=fun i=>!decide (jn ((ns.map (tx t)).getD i ⟨#[]⟩) x)) (by omega) (fun i j hij hj hp=>?_) (fun H4 f4 i hi Q' hq=>?_) fun k hk hlo hhi=>⟨_,rfl,?_⟩
 ·have hi:i<ns.length:=by omega
  simp only [Bool.not_eq_true',decide_eq_false_iff_not,List.getD_eq_getElem?_getD,hts i hi,hts j hj,Option.getD_some] at hp ⊢
  rcases Nat.lt_or_ge i j with h1 | h1
  ·intro hlt
   have:=(List.pairwise_iff_getElem.1 hsr) i j (by simpa using hi) (by simpa using hj) h1
   simp only [List.getElem_map] at this
   exact hp (qz this hlt)
  ·have:i=j:=by omega
   subst this;exact hp
 ·refine xe (hK3.nil f4) (hc3.nil f4) (eC (ha.more f3.1) f4 hr3) hn (a:=a) (l:=l) (c:=c) (by rw [bz f4 (by simp) (bN c1)];exact c1) (by rw [bz f4 (by simp) (bN c2)];exact c2) (by rw [bz f4 (by simp) (bN c3)];exact c3) hi ?_
  simp only [List.getD_eq_getElem?_getD,hts i hi,Option.getD_some] at hq
  exact hq
 ·have hpos:k=bu (ns.map (tx t)) x:=by
   refine Bv hsr (by simpa using hk) (fun j y hj hy=>?_) fun j y hj hy=>?_
   ·have:=hlo j hj
    simp only [List.getD_eq_getElem?_getD,hy,Option.getD_some] at this
    simpa using this
   ·have hjl:j<ns.length:=by have:=(List.getElem?_eq_some_iff.1 hy).1;simpa using this
    have:=hhi j hj hjl
    simp only [List.getD_eq_getElem?_getD,hy,Option.getD_some] at this
    simpa using this
  subst hpos
  refine ⟨_,_,_,c2,?_⟩
  rw [ae,hl]
  have hmem:=gL hsr (x:=x)
  refine aA (fun hlt=>?_) fun hlt=>?_
  ·have hlt:bu (ns.map (tx t)) x<ns.length:=by omega
   obtain ⟨p,rfl,hcell,_⟩:=hr3.int (i:=((bu (ns.map (tx t)) x:Nat):Int)) (by omega) (by omega)
   refine ⟨_,c1,_,_,_,c2,⟨by omega,by omega⟩,_,rfl,_,by rw [Nat.mul_one];exact hcell,_,c3,?_⟩
   rw [Int.toNat_natCast]
   have e:(ns.map bD).getD (bu (ns.map (tx t)) x) 0=bD ns[bu (ns.map (tx t)) x]:=by simp [hlt]
   rw [e]
   refine qN hK3 hc3 (hn _ (List.getElem_mem hlt)) ⟨_,rfl,⟨⟨c3,trivial⟩,trivial⟩,?_⟩
   have e2:cQ (tx t ns[bu (ns.map (tx t)) x]) x=decide (x∈ns.map (tx t)):=by
    rw [cL]
    congr 1
    rw [hmem,hts _ hlt]
    simp
   rw [e2]
   exact h _ f3
  ·have e2:decide (x∈ns.map (tx t))=false:=by
    rw [decide_eq_false_iff_not,hmem,List.getElem?_eq_none (by simp;omega)]
    simp
   have:=h _ f3
   rw [e2] at this
   exact this
theorem rO (hK:PK H b F s t) (hv:KAll s t v) (hd:KD v t) (hc:KP H bb b){o:Int} (h1:∀ i (hi:i<v.cls.length),dZ v o=some i->∀ a l c G H',bv 1 H' a l c (aO (bM t v.cls[i])) G->Fr [] H H'->(∀ x∈G,H.size<=x)->Q (.slice a l c) H')
  (h2:dZ v o=none->∀ H',Fr [] H H'->Q (.slice none 0 0) H'):ah PP yy #[.pointer (some ⟨bb,0,none⟩),.int .i64 o] Q H:=by
 have hs1:aF PP 37=some (1,16,some (.string ⟨#[]⟩)):=by kernel_rfl
 apply yH
 unfold Qv A0 iV wW pV sV lV cS
 refine kL hK hv hc (fun i hi hp a l c G a' l' c' G' H1 ho ho' f1 hG hG'=>⟨_,_,_,_,_,_,_,rfl,?_⟩) fun hp H1 f1=>⟨_,_,_,_,_,_,_,rfl,?_⟩
 ·obtain ⟨ns,hdc⟩:=hd _ (List.getElem_mem hi)
  have ht:=hdc.texts hv.names.wf
  have h1:=h1 i hi hp
  rw [ht] at h1
  rw [hdc.sel] at ho
  have hl:l=ns.length:=by have:=ho.len;simpa [aq] using this.symm
  have hmost:=hdc.most
  refine ⟨fun w H'=>∃(i:Nat) (a:Option Addr) (l' c:Nat) (G:ay),w=[.slice a l' c,.int .i64 i]∧i<=l∧bv 1 H' a l' c (aO ((ns.map (tx t)).take i)) G∧Fr [] H1 H'∧(∀ x∈G,H1.size<=x),fun w _=>match w with
   | [_,.int _ i]=>((l:Int)-i).toNat
   | _=>0,⟨0,none,0,0,[],rfl,Nat.zero_le _,by simpa [aO] using bv.nil 1 H1,Fr.refl _ _,by simp⟩,?_⟩
  rintro w H2 ⟨j,a2,l2,c2,G2,rfl,hj,ho2,f2,hG2⟩ _
  have hl2:l2=j:=by have:=ho2.len;simp only [aO,List.length_map,List.length_take] at this;omega
  refine ⟨_,_,_,_,rfl,?_⟩
  rw [ae]
  refine aA (fun hlt=>?_) fun hlt=>?_
  ·have hjl:j<ns.length:=by omega
   have htk:(ns.map (tx t)).take (j+1)=(ns.map (tx t)).take j++[tx t ns[j]]:=by
    rw [List.take_add_one,List.getElem?_eq_getElem (by simpa using hjl)];simp
   have e:IntKind.wrap .i64 ((j:Int)+1)=((j+1:Nat):Int):=by rw [am (by omega) (by omega)];omega
   obtain ⟨p,rfl,hcell,_⟩:=(ho.fr f2 (by simp)).rd.int (i:=(j:Int)) (by omega) (by omega)
   refine ⟨⟨by omega,hlt⟩,_,rfl,_,by rw [Nat.mul_one];exact hcell,?_⟩
   rw [Int.toNat_natCast]
   have e3:(ns.map bD).getD j 0=bD ns[j]:=by simp [hjl]
   rw [e3]
   refine qN (hK.nil (f1.trans f2)) (hc.nil (f1.trans f2)) (hdc.num _ (List.getElem_mem hjl)) ⟨_,rfl,?_⟩
   refine bg hs1 rfl (by kernel_rfl) ho2 rfl (by simp [cC]) (by omega) (by decide) (by decide) fun a' c' G3 H3 g1 g2 g3=>⟨_,_,_,rfl,?_⟩
   have hfr:=Up.fresh f2 g2 hG2
   rw [e]
   refine ⟨⟨j+1,a',l2+1,c',G3,rfl,by omega,?_,hfr.1,hfr.2⟩,by simp;omega⟩
   rw [htk,ce];exact g1
  ·rw [List.take_of_length_le (by simp;omega)] at ho2
   exact h1 _ _ _ _ H2 ho2 (f1.trans f2) fun x hx=>Nat.le_trans f1.1 (hG2 x hx)
 ·refine ⟨fun w H'=>w=[.slice none 0 0,.int .i64 0]∧H'=H1,fun _ _=>0,⟨rfl,rfl⟩,?_⟩
  rintro w H2 ⟨rfl,rfl⟩ _
  refine ⟨_,_,_,_,rfl,?_⟩
  rw [ae,if_neg (by omega)]
  exact h2 hp _ f1
theorem Po (hK:PK H b F s t) (hv:KAll s t v) (hd:KD v t) (hc:KP H bb b){o:Int}{x:ByteArray} (h1:∀ i (hi:i<v.cls.length),dZ v o=some i->∀ H',Fr [] H H'->Q (mP (Lo t v.cls[i] x)) H')
  (h2:dZ v o=none->∀ H',Fr [] H H'->Q (.tuple #[.int .i64 0,.int .i64 130]) H'):ah PP uf #[.pointer (some ⟨bb,0,none⟩),.int .i64 o,.string x] Q H:=by
 apply vD
 unfold Kg iV pV sV lV cS
 refine kL hK hv hc (fun i hi hp a l c G a' l' c' G' H1 ho ho' f1 hG hG'=>⟨_,_,_,_,_,_,_,rfl,?_⟩) fun hp H1 f1=>⟨_,_,_,_,_,_,_,rfl,?_⟩
 ·obtain ⟨ns,hdc⟩:=hd _ (List.getElem_mem hi)
  have ht:=hdc.texts hv.names.wf
  have h1:=h1 i hi hp
  unfold Lo at h1
  rw [ht] at h1
  rw [hdc.sel] at ho
  have hl:l=ns.length:=by have:=ho.len;simpa [aq] using this.symm
  have hl':l'=ns.length:=by have:=ho'.len;rw [←hdc.len];simpa [aq] using this.symm
  have hmost:=hdc.most
  simp only [show ((0:Int) != 0)=false from rfl,cond_false]
  refine oE (hK.nil f1) (hc.nil f1) ho.rd (.inr (bv.out ho (bi.nil_right _))) hdc.num hdc.srt (by omega) fun H2 f2=>⟨_,_,rfl,?_⟩
  by_cases hm:x∈ns.map (tx t)
  ·rw [decide_eq_true hm]
   simp only [Bool.not_true,cond_false]
   have hps:bu (ns.map (tx t)) x<ns.length:=by
    have:=(List.getElem?_eq_some_iff.1 ((gL hdc.srt).1 hm)).1
    simpa using this
   have f12:=f1.trans f2
   obtain ⟨p,rfl,hcell,_⟩:=(ho'.fr f2 (by simp)).rd.int (i:=((bu (ns.map (tx t)) x:Nat):Int)) (by omega) (by omega)
   refine ⟨⟨by omega,by omega⟩,_,rfl,_,by rw [Nat.mul_one];exact hcell,?_⟩
   rw [Int.toNat_natCast]
   have hml:bu (ns.map (tx t)) x<(v.cls[i]).mets.length:=by rw [hdc.len];exact hps
   obtain ⟨o',eo,o1,o2⟩:=hdc.obj _ (List.getElem_mem hml)
   have e:((v.cls[i]).mets).getD (bu (ns.map (tx t)) x) 0=4*o':=by rw [List.getD_eq_getElem?_getD,List.getElem?_eq_getElem hml,←eo];rfl
   have h1:=h1 _ f12
   rw [if_pos hm,e,cK o1 o2] at h1
   rw [e]
   refine mu (hK.nil f12).kinds ?_
   unfold qD
   have hk:cz (4*o')=3:=by have:=bG (4*o');omega
   rw [if_pos hk]
   simp only [show 4*o' / 4=o' by omega]
   exact ⟨_,_,rfl,h1⟩
  ·rw [decide_eq_false hm]
   simp only [Bool.not_false,cond_true]
   have h1:=h1 _ (f1.trans f2)
   rw [if_neg hm] at h1
   exact h1
 ·exact h2 hp _ f1
end
theorem vM {H:aj}{a:Option Addr}{l:Nat}{ws:List Int} (h:Rd 1 H a l (aq ws)){n:Nat} (hn:n<=l):Rd 1 H a n (aq (ws.take n)):=by
 have hl:=h.1
 simp only [aq,List.length_map] at hl
 refine ⟨by simp [aq];omega,fun ha=>by have:=h.2.1 ha;omega,fun p hp i hi=>?_⟩
 rw [h.2.2 p hp i (by omega)]
 simp only [aq,←List.map_take]
 rw [List.getElem?_map,List.getElem?_map,List.getElem?_take,if_pos (by omega)]
theorem vF {H:aj}{a:Option Addr}{l c:Nat}{ws:List Int} (h:Rd 1 H a l (aq ws)){n:Nat} (hn:n<=l) (hc:l<=c){k:Int} (hk:k=n):Rd 1 H (gl a c k 1) (l-k.toNat) (aq (ws.drop n)):=by
 subst hk
 have hl:=h.1
 simp only [aq,List.length_map] at hl
 rw [Int.toNat_natCast]
 refine ⟨by simp [aq];omega,fun ha=>?_,fun p hp i hi=>?_⟩
 ·unfold gl at ha
  split at ha
  ·rename_i h1;rw [Int.toNat_natCast] at h1;omega
  ·cases a with
   | none=>have:=h.2.1 rfl;omega
   | some p=>simp at ha
 ·have hlt:n+i<l:=by omega
  unfold gl at hp
  rw [if_neg (by rw [Int.toNat_natCast];omega)] at hp
  cases a with
  | none=>simp at hp
  | some q =>
   simp only [Option.map_some,Option.some.injEq] at hp
   subst hp
   have:=h.2.2 q rfl (n+i) (by omega)
   have e:(q.add (((n:Int)).toNat*1)).add i=q.add (n+i):=by
    rw [Int.toNat_natCast,Nat.mul_one]
    unfold Addr.add
    by_cases h1:n=0
    ·subst h1;simp
    ·by_cases h2:i=0
     ·subst h2;simp
     ·rw [if_neg h1,if_neg h2,if_neg (by omega)]
      simp only [Nat.add_assoc]
   rw [e,this]
   simp only [aq]
   rw [List.getElem?_map,List.getElem?_map,List.getElem?_drop]
section
variable {H:aj}{Q:QT}
theorem uW {a:Option Addr}{l c:Nat}{ws:List Int} (hr:Rd 1 H a l (aq ws)) (hlc:l<=c) (ho:fQ H a l []) (hlk:l<=1000000){n:Nat} (hn:n<=l){x:Int}
  (h:∀ a' l' c' G H',bv 1 H' a' l' c' (aq (dU ws n x)) G->Fr [] H H'->(∀ y∈G,H.size<=y)->Q (.slice a' l' c') H'):ah PP GS #[.slice a l c,.int .i64 (n:Int),.int .i64 x] Q H:=by
 have hs1:aF PP 108=some (1,8,some (.int .i64 0)):=by kernel_rfl
 have hl:=hr.1
 simp only [aq,List.length_map] at hl
 apply DI
 unfold N6 A0 iV lV
 have hT:=vM hr hn
 have e0:([]:List Value)++aq (ws.take n)=aq (ws.take n):=by simp
 have last:∀ {a5:Option Addr}{l5 c5:Nat}{G:ay}{H2:aj},bv 1 H2 a5 l5 c5 (aq (ws.take n++[x])) G->Fr [] H H2->(∀ y∈G,H.size<=y)->l5<=1000001 ->
   bk PP (Builtin.append_ #[108,108] 108 #[.slice a5 l5 c5,.slice (gl a c (n:Int) 1) (l-Int.toNat (n:Int)) (c-Int.toNat (n:Int))]) (fun v8 H3=>∃ a9:Option Addr,∃ l9:Nat,∃ c9:Nat,v8=.slice a9 l9 c9∧True∧Q (.slice a9 l9 c9) H3) H2:=fun ho5 f2 hG hl5=>by
  refine bY hs1 rfl (by kernel_rfl) ho5 (vF (eC ho f2 hr) hn hlc rfl) cM (by simp only [Int.toNat_natCast];omega) (by decide) (by decide) fun a' c' G2 H3 g1 g2 g3=>⟨_,_,_,rfl,trivial,?_⟩
  have hfr:=Up.fresh f2 g2 hG
  refine h _ _ _ _ H3 ?_ hfr.1 hfr.2
  unfold dU
  rw [←bt] at g1
  simpa using g1
 refine ⟨⟨by omega,by omega⟩,⟨by omega,by omega⟩,?_,trivial,?_⟩
 ·refine bY hs1 rfl (by kernel_rfl) (bv.nil 1 H) (by rw [Int.toNat_natCast];exact hT) cM (by rw [Int.toNat_natCast];omega) (by decide) (by decide) fun a' c' G2 H1 g1 g2 g3=>⟨_,_,_,rfl,trivial,trivial,?_⟩
  have hf1:=Up.fresh (Fr.refl [] H) g2 (by simp)
  rw [e0] at g1
  refine bg hs1 rfl (by kernel_rfl) g1 rfl (by simp [cC]) (by rw [Int.toNat_natCast];omega) (by decide) (by decide) fun a2 c2 G3 H2 k1 k2 k3=>⟨_,_,_,rfl,trivial,?_⟩
  have hf2:=Up.fresh hf1.1 k2 hf1.2
  refine last (by rw [bt];exact k1) hf2.1 hf2.2 (by rw [Int.toNat_natCast];omega)
 ·have fp:Fr [] H (H.push (.cells #[.int .i64 x] 36)):=Fr.push _ _ _
  have hb0:=bA.new H #[.int .i64 x] 36
  have hT':Rd 1 (H.push (.cells #[.int .i64 x] 36)) a n (aq (ws.take n)):=by
   refine hT.fr' fp (by simp)
  refine bY hs1 rfl (by kernel_rfl) (bv.nil 1 _) (by rw [Int.toNat_natCast];exact hT') cM (by rw [Int.toNat_natCast];omega) (by decide) (by decide) fun a' c' G2 H1 g1 g2 g3=>⟨_,_,_,rfl,trivial,?_⟩
  have hf1:=Up.fresh (Fr.refl [] _) g2 (by simp)
  rw [e0] at g1
  have hb1:=hb0.fr hf1.1 (by simp)
  refine bY hs1 rfl (by kernel_rfl) g1 (l2:=1) (ys:=aq [x]) ⟨rfl,(fun h=>by cases h),fun p hp k hk=>?_⟩ cM (by rw [Int.toNat_natCast];omega) (by decide) (by decide) fun a2 c2 G3 H2 k1 k2 k3=>⟨_,_,_,rfl,trivial,?_⟩
  ·cases hp
   have:k=0:=by omega
   subst this
   rw [ao]
   exact hb1.cell 0
  have hf2:=Up.fresh (fp.trans hf1.1) k2 (fun y hy=>Nat.le_trans fp.1 (hf1.2 y hy))
  refine last (by rw [bt];exact k1) hf2.1 hf2.2 (by rw [Int.toNat_natCast];omega)
theorem nV {a:Option Addr}{l c:Nat}{ws:List Int} (hr:Rd 1 H a l (aq ws)) (hlc:l<=c) (ho:fQ H a l []) (hlk:l<=1000000){n:Nat} (hn:n<l)
  (h:∀ a' l' c' G H',bv 1 H' a' l' c' (aq (ws.eraseIdx n)) G->Fr [] H H'->(∀ y∈G,H.size<=y)->Q (.slice a' l' c') H'):ah PP KQ #[.slice a l c,.int .i64 (n:Int)] Q H:=by
 have hs1:aF PP 108=some (1,8,some (.int .i64 0)):=by kernel_rfl
 have hl:=hr.1
 simp only [aq,List.length_map] at hl
 apply z7
 unfold LY wW lV
 have hT:=vM hr (n:=n) (by omega)
 have e0:([]:List Value)++aq (ws.take n)=aq (ws.take n):=by simp
 have e:IntKind.wrap .i64 ((n:Int)+1)=((n+1:Nat):Int):=by rw [am (by omega) (by omega)];omega
 rw [e]
 refine ⟨⟨by omega,by omega⟩,⟨by omega,by omega⟩,?_⟩
 refine bY hs1 rfl (by kernel_rfl) (bv.nil 1 H) (by rw [Int.toNat_natCast];exact hT) cM (by rw [Int.toNat_natCast];omega) (by decide) (by decide) fun a' c' G2 H1 g1 g2 g3=>⟨_,_,_,rfl,trivial,?_⟩
 have hf1:=Up.fresh (Fr.refl [] H) g2 (by simp)
 rw [e0] at g1
 refine bY hs1 rfl (by kernel_rfl) g1 (vF (eC ho hf1.1 hr) (n:=n+1) hn hlc rfl) cM (by simp only [Int.toNat_natCast];omega) (by decide) (by decide) fun a2 c2 G3 H2 k1 k2 k3=>⟨_,_,_,rfl,trivial,?_⟩
 have hf2:=Up.fresh hf1.1 k2 hf1.2
 refine h _ _ _ _ H2 ?_ hf2.1 hf2.2
 rw [←bt] at k1
 rw [List.eraseIdx_eq_take_drop_succ]
 exact k1
end
section
variable {H:aj}{bb b sb:Nat}{F:ay}{s:SP}{t:TB}{v:KV}{Q:QT}
abbrev rB (H:aj) (b sb:Nat):Prop:=ac H ⟨b,0,none⟩=some (.pointer (some ⟨sb,0,none⟩))
theorem PK.spAt (hK:PK H b F s t) (hs:rB H b sb):∃ F1,gn H sb F1 s∧(∀ x∈F1,x∈F)∧(∀ H' F1' s',gn H' sb F1' s'->Up F1 H F1' H'->(∃ F',PK H' b F' s' t∧Up F H F' H')∧rB H' b sb)∧(∀ H' s',gn H' sb F1 s'->Fr F1 H H'->PK H' b F s' t∧rB H' b sb):=by
 obtain ⟨sb',F1,hc,hS,hsub,hnb,hup,hup2⟩:=hK.sp
 have hc':=hc
 rw [hs] at hc'
 have e:sb'=sb:=by simpa using hc'.symm
 subst e
 have hl:=bN hc
 exact ⟨F1,hS,hsub,fun H' F1' s' h1 h2=>⟨hup H' F1' s' h1 h2,by unfold rB;rw [bz h2.1 hnb hl];exact hc⟩,fun H' s' h1 h2=>⟨hup2 H' s' h1 h2,by unfold rB;rw [bz h2 hnb hl];exact hc⟩⟩
theorem tt (hs:rB H b sb) (h:Q (.pointer (some ⟨sb,0,none⟩)) H):ah PP Ed #[.pointer (some ⟨b,0,none⟩)] Q H:=by
 apply xW
 unfold QE pV
 exact ⟨_,rfl,_,hs,h⟩
theorem rB.nil {H':aj} (h:rB H b sb) (f:Fr [] H H'):rB H' b sb:=by
 unfold rB at h ⊢
 rw [bz f (by simp) (bN h)];exact h
theorem KP.fr {H':aj} (h:KP H bb b){G:ay} (f:Fr G H H') (hn:bb∉G):KP H' bb b:=by
 unfold KP at h ⊢
 rw [bz f hn (bN h)];exact h
theorem uV (hK:PK H b F s t) (hc:KP H bb b) (hbb:bb∉F) (hs:rB H b sb){a:Option Addr}{l c:Nat}{ws:List Int} (hk:Rd 1 H a l (aq ws)) (hd:∀ p,a=some p->p.block∉F) (hlk:l<=1000000000)
  (h:∀ H' F',PK H' b F' (s.array ws).2 t->rB H' b sb->Up F H F' H'->Q (.tuple #[.int .i64 (s.array ws).1.1,.int .i64 (s.array ws).1.2]) H'):ah PP EU #[.pointer (some ⟨bb,0,none⟩),.slice a l c] Q H:=by
 have hl:l=ws.length:=by have:=hk.1;simpa [aq] using this.symm
 apply AU
 unfold Ln A0 iV wW pV lV cS
 unfold SP.array at h
 rw [bj,ae]
 refine aA (fun h0=>?_) fun h0=>?_
 ·have:ws=[]:=List.eq_nil_of_length_eq_zero (by omega)
  rw [if_pos this] at h
  exact qt (by decide) ⟨_,_,rfl,h H F hK hs (Up.refl _ _)⟩
 have hne:ws≠[]:=fun e=>h0 (by rw [hl,e];rfl)
 rw [if_neg hne] at h
 unfold SP.make at h
 obtain ⟨F1,hS,hsub,_,hup⟩:=hK.spAt hs
 refine ⟨_,rfl,_,hc,tt hs ⟨_,rfl,qt (by decide) ⟨_,_,rfl,?_⟩⟩⟩
 rw [hl]
 refine lZ hS fun H1 hS1 hf1=>⟨_,_,rfl,?_⟩
 have hfF:=hf1.mono hsub
 have hu':Up F H F H1:=⟨hfF,fun _ h=>.inl h⟩
 obtain ⟨hK1,hs1⟩:=hup H1 _ hS1 hf1
 have hd':=hk.fr' hfF hd
 rw [bf,ae]
 refine aA (fun h1=>?_) fun h1=>?_
 ·rw [if_pos h1] at h;exact h _ _ hK1 hs1 hu'
 rw [if_neg h1] at h
 have hz:(s.alloc (4*11) ws.length 0).1.2=0:=Classical.byContradiction h1
 obtain ⟨o,e1,o1,o2,_,_,harr,_⟩:=ir hK.wfs hz
 rw [if_pos hz]
 rw [e1] at h ⊢
 have e2:4*o / 4=o:=by omega
 rw [e2] at h
 generalize (s.alloc (4*11) ws.length 0).2=s1 at *
 have hk3:cz (4*o)=3:=by have:=bG (4*o);omega
 refine mu hK1.kinds ?_
 unfold qD
 rw [if_pos hk3]
 simp only [e2]
 refine ⟨_,_,rfl,?_⟩
 refine ⟨fun w H'=>∃(i:Nat) (r:RH),w=[.int .i64 i]∧i<=ws.length∧PK H' b F { s1 with h:=r } t∧rB H' b sb∧Fr F H1 H'∧r.lay o i (ws.drop i)=s1.h.lay o 0 ws∧∀ x,aH r.objs o=some x->x.fmt=0,fun w _=>match w with
  | [.int _ i]=>(ws.length-i).toNat
  | _=>0,⟨0,s1.h,rfl,Nat.zero_le _,hK1,hs1,Fr.refl _ _,rfl,fun x hx=>by obtain ⟨y,h2,h3,_⟩:=harr;rw [h2] at hx;cases hx;exact h3⟩,?_⟩
 rintro w H4 ⟨i,r,rfl,hi,hK4,hs4,hf4,hlay,hfmt⟩ _
 refine ⟨_,rfl,?_⟩
 rw [ae]
 refine aA (fun hlt=>?_) fun hlt=>?_
 ·obtain ⟨p,rfl,hcell,hlt2⟩:=(hd'.fr' hf4 hd).int (i:=(i:Int)) (by omega) (by omega)
  rw [Int.toNat_natCast] at hcell hlt2
  have hx:ws.getD i 0=ws[i]:=by simp [hlt2]
  rw [hx] at hcell
  have ed:ws.drop i=ws[i] :: ws.drop (i+1):=List.drop_eq_getElem_cons hlt2
  have e:IntKind.wrap .i64 ((i:Int)+1)=((i+1:Nat):Int):=by rw [am (by omega) (by omega)];omega
  obtain ⟨F4,hS4,hsub4,_,hup4⟩:=hK4.spAt hs4
  refine ⟨⟨by omega,hlt⟩,_,rfl,_,by rw [Int.toNat_natCast,Nat.mul_one];exact hcell,cU hS4 fun hb F5 hR hsub5 hup5=>⟨_,rfl,jS hR hfmt fun H6 hR6 hf6=>⟨_,rfl,?_⟩⟩⟩
  have hS6:=hup5 H6 _ hR6 hf6
  obtain ⟨hK6,hs6⟩:=hup4 H6 _ hS6 (hf6.mono hsub5)
  have hf6':Fr F H4 H6:=(hf6.mono hsub5).mono hsub4
  rw [e]
  refine ⟨⟨i+1,(r.put o i ws[i]).2,rfl,by omega,hK6,hs6,hf4.trans hf6',?_,fun x hx=>?_⟩,by simp;omega⟩
  ·rw [←hlay,ed]
   simp only [RH.lay]
   congr 1
   all_goals omega
  ·obtain ⟨y,h2,h3⟩:=mQ o i ws[i] o hx
   rw [h3];exact hfmt y h2
 ·have hil:i=ws.length:=by omega
  subst hil
  rw [List.drop_length] at hlay
  simp only [RH.lay] at hlay
  rw [hlay] at hK4
  have fp:Fr [] H4 (H4.push (.cells #[.int .i64 (4*o)] 36)):=Fr.push _ _ _
  have hK5:=hK4.nil fp
  have hs5:=hs4.nil fp
  obtain ⟨F5,hS5,hsub5,hup5,_⟩:=hK5.spAt hs5
  refine lu hS5 (ws:=[4*o]) ?_ (by omega) fun H7 F7 hS7 hu7=>⟨_,rfl,?_⟩
  ·refine ⟨rfl,(fun h=>by cases h),fun p hp k hk=>?_⟩
   cases hp
   have:k=0:=by omega
   subst this
   rw [ao]
   exact (bA.new H4 _ _).cell 0
  ·obtain ⟨⟨F',hK7,hu7'⟩,hs7⟩:=hup5 H7 F7 _ hS7 hu7
   exact h H7 F' hK7 hs7 ((hu'.trans ⟨hf4,fun _ h=>.inl h⟩).trans ((Up.of_nil fp).trans hu7'))
end
theorem KD.set {v:KV}{t:TB} (h:KD v t){i:Nat}{c:CV} (hc:∃ ns,DC t c ns):KD (v.setC i c) t:=fun c' hc'=>by
 rcases List.mem_or_eq_of_mem_set hc' with h1 | rfl
 ·exact h c' h1
 ·exact hc
structure Chg (v:KV) (t:TB) (i:Nat) (n:Int) (E:List (ByteArray × Int)) (v':KV):Prop where
 kd:KD v' t
 bad:n≠0->v'=v
 good:n=0->∃ hi:i<v.cls.length,∃ a b l m,v'=v.setC i ((v.cls[i]).lists a b l m)∧(cB t ((v.cls[i]).lists a b l m)).Perm E
theorem qo {s:SP}{t:TB}{v:KV} (h:KAll s t v) (hd:KD v t){i:Nat} (hi:i<v.cls.length){kp l m:List Int}{E:List (ByteArray × Int)} (hkp:∀ w∈kp,dG w) (hk1:kp.length<=1) (ho:DOK t (v.cls[i]) l m E) :
  ∃ v',KAll (de s (v.cls[i]).oop kp l m).2 t v'∧Chg v t i (de s (v.cls[i]).oop kp l m).1 E v':=by
 obtain ⟨ns,hdc⟩:=ho.dc 0 0
 have hl:∀ w∈l,dG w:=fun w hw=>by
  have e:l=ns.map bD:=hdc.sel
  rw [e] at hw
  obtain ⟨n,hn,rfl⟩:=List.mem_map.1 hw
  exact d6 h.names.wf (hdc.num n hn)
 have hm:∀ w∈m,dG w:=fun w hw=>by
  obtain ⟨o,rfl,h1,h2⟩:=hdc.obj w hw
  exact cq h1 h2
 have hlm:l.length=m.length:=by
  have e:l=ns.map bD:=hdc.sel
  have e2:m.length=ns.length:=hdc.len
  rw [e,e2];simp
 obtain ⟨h1,h2⟩:=qA h hi hkp hk1 hl hm hlm
 by_cases he:(de s (v.cls[i]).oop kp l m).1=0
 ·obtain ⟨a,b,hv⟩:=h2 he
  exact ⟨_,hv,hd.set (ho.dc a b),fun hn=>absurd he hn,fun _=>⟨hi,a,b,l,m,rfl,ho.ent a b⟩⟩
 ·exact ⟨v,h1 he,hd,fun _=>rfl,fun hn=>absurd hn he⟩
theorem zr {s:SP}{t:TB}{v:KV} (h:KAll s t v) (hd:KD v t){i:Nat} (hi:i<v.cls.length) (name:ByteArray) (m:Int) :
  ∃ v',KAll (iC s t (v.cls[i]) name m).2 t v'∧Chg v t i (iC s t (v.cls[i]) name m).1 ((name,m) :: (cB t (v.cls[i])).filter fun e=>decide (e.1≠name)) v':=by
 have stay:∀ {n:Int}{E:List (ByteArray × Int)},n≠0->∃ v',KAll s t v'∧Chg v t i n E v':=fun hn=>⟨v,h,hd,fun _=>rfl,fun h0=>absurd h0 hn⟩
 obtain ⟨ns,hdc⟩:=hd _ (List.getElem_mem hi)
 have hw:=h.names.wf
 unfold iC
 cases hn:bV t.texts name with
 | none=>exact stay (n:=61) (by decide)
 | some n =>
  simp only
  by_cases hc:(s.h.clsAt m).2=0
  rotate_left
  ·rw [if_pos (by simpa using hc)];exact stay hc
  rw [if_neg (by simpa using hc)]
  obtain ⟨m1,m2⟩:=lQ h.ks.wf.h hc
  have hwm:=cq m1 m2
  by_cases hmem:name∈bM t (v.cls[i])
  ·rw [if_pos hmem]
   have ho:=BP hdc hw hmem m1 m2
   obtain ⟨_,_,_,hpm,_⟩:=qT hdc hw hmem
   obtain ⟨_,hv⟩:=y6 h hi hpm hwm
   exact ⟨_,hv,hd.set (ho.dc _ _),fun h0=>absurd rfl h0,fun _=>⟨hi,_,_,_,_,rfl,ho.ent _ _⟩⟩
  ·rw [if_neg hmem]
   by_cases hl:128<=(v.cls[i]).sels.length
   ·rw [if_pos hl];exact stay (n:=138) (by decide)
   ·rw [if_neg hl]
    exact qo h hd hi (by simpa using hwm) (by simp) (pX hdc hw hn hmem (by omega) m1 m2)
theorem zc {s:SP}{t:TB}{v:KV} (h:KAll s t v) (hd:KD v t){i:Nat} (hi:i<v.cls.length) (name:ByteArray) :
  ∃ v',KAll (i5 s t (v.cls[i]) name).2 t v'∧Chg v t i (i5 s t (v.cls[i]) name).1 ((cB t (v.cls[i])).filter fun e=>decide (e.1≠name)) v':=by
 obtain ⟨ns,hdc⟩:=hd _ (List.getElem_mem hi)
 unfold i5
 by_cases hmem:name∈bM t (v.cls[i])
 ·rw [if_pos hmem]
  exact qo h hd hi (by simp) (by simp) (xf hdc h.names.wf hmem)
 ·rw [if_neg hmem]
  exact ⟨v,h,hd,fun _=>rfl,fun h0=>absurd (show (140:Int)=0 from h0) (by decide)⟩
end Go.Proofs.YtmkdkplipbocjaaGreatDoor
namespace Kw
open Go
def fH (x:Int × Int):Value:=.agg #[.int .i64 x.1,.int .i64 x.2]
def oM (P : Program) (kt : TypeId) : Prop := P.stoodInHeld kt = false ∧ ∃ f g : Field, P.underlying kt = some (.struct #[f, g]) ∧ f.name ≠ "_" ∧ g.name ≠ "_" ∧ f.offset = 0 ∧ g.offset = 1 ∧ P.underlying f.type = some (.int .i64) ∧ P.underlying g.type = some (.int .i64)
def ky (H:aj) (r:Nat) (es:List ((Int × Int) × Value)):Prop:=∃(ents:Array MapEntry) (clock:Nat),H[r]?=some (.map ents clock)∧ents.toList.map (fun e=>(e.key,e.val))=es.map (fun p=>(fH p.1,p.2))
theorem ky.new (H:aj):ky (H.push (.map #[] 0)) H.size []:=⟨#[],0,by simp,rfl⟩
theorem ky.lt {H:aj}{r:Nat}{es:List ((Int × Int) × Value)} (h:ky H r es):r<H.size:=by
 obtain ⟨ents,clock,hr,_⟩:=h;exact (Array.getElem?_eq_some_iff.1 hr).1
theorem ky.fr {H H':aj}{G:ay}{r:Nat}{es:List ((Int × Int) × Value)} (h:ky H r es) (hf:Fr G H H') (hn:r∉G):ky H' r es:=by
 have hl:=h.lt
 obtain ⟨ents,clock,hr,h2⟩:=h;exact ⟨ents,clock,(hf.2 r hl hn).trans hr,h2⟩
def fD:List ((Int × Int) × Value)->Int × Int->Option Value
 | [],_=>none
 | p :: l,k=>if k=p.1 then some p.2 else fD l k
section
variable {P:Program}{H:aj}
theorem iA {t:TypeId}{cs:Array Value}{i:Nat}{v:Value}{Q:Value->aj->Prop} (hu:P.underlying t=some (.int .i64)) (hv:cs[i]?=some v) (h:Q v H):bk P (part t cs i) Q H:=by
 unfold part isAgg
 refine av (av (aP hu ?_))
 simp only [hv]
 exact h
theorem qj {t:TypeId}{n:Nat}{a b:Int}{Q:Bool->aj->Prop} (hu:P.underlying t=some (.int .i64)) (h:Q (decide (a=b)) H):bk P (Op.equalIn (n+1) t (.int .i64 a) (.int .i64 b)) Q H:=by
 unfold Op.equalIn
 refine av (aP hu ?_)
 have e:(a == b)=decide (a=b):=by rw [Bool.eq_iff_iff];simp
 simp only [if_true,e]
 exact h
theorem tu {α:Type}{f:Program->Sem α}{Q:α->aj->Prop} (h:bk P (f P) Q H):bk P (program >>= f) Q H:=av h
theorem rV {f g:Field}{st:Type} (init:st) (body:Field->st->Sem (ForInStep st)){Q:st->aj->Prop} (h:bk P (body f init) (fun r H1=>match r with
  | .done x=>Q x H1
  | .yield x=>bk P (body g x) (fun r H2=>match r with
   | .done x=>Q x H2
   | .yield x=>Q x H2) H1) H):bk P (forIn #[f,g] init body) Q H:=by
 rw [←Array.forIn_toList]
 show bk P (forIn [f,g] init body) Q H
 rw [List.forIn_cons]
 refine av (sL _ h fun r H1 hq=>?_)
 cases r with
 | done x=>exact hq
 | yield x =>
  simp only at hq ⊢
  rw [List.forIn_cons]
  refine av (sL _ hq fun r H2 hq=>?_)
  cases r with
  | done x=>exact hq
  | yield x=>simp only [List.forIn_nil] at hq ⊢;exact hq
theorem uG {t:TypeId}{x y:Int × Int}{Q:Bool->aj->Prop} (hk:oM P t) (h:Q (decide (x=y)) H):bk P (Op.equal t (fH x) (fH y)) Q H:=by
 obtain ⟨hs,f,g,hu,n1,n2,o1,o2,u1,u2⟩:=hk
 obtain ⟨x1,x2⟩:=x
 obtain ⟨y1,y2⟩:=y
 unfold Op.equal Op.maxDepth Op.equalIn fH
 refine av (aP hu ?_)
 refine tu ?_
 rw [hs]
 simp only [Bool.false_eq_true,if_false]
 refine av (rV _ _ ?_)
 rw [if_pos n1]
 refine av (iA u1 (v:=.int .i64 x1) (by rw [o1];rfl) ?_)
 refine av (iA u1 (v:=.int .i64 y1) (by rw [o1];rfl) ?_)
 refine av (qj u1 ?_)
 by_cases h1:x1=y1
 ·rw [decide_eq_true h1]
  simp only [Bool.not_true,Bool.false_eq_true,if_false]
  refine dl ?_
  simp only
  rw [if_pos n2]
  refine av (iA u2 (v:=.int .i64 x2) (by rw [o2];rfl) ?_)
  refine av (iA u2 (v:=.int .i64 y2) (by rw [o2];rfl) ?_)
  refine av (qj u2 ?_)
  by_cases h2:x2=y2
  ·rw [decide_eq_true (show (x1,x2)=(y1,y2) by rw [h1,h2])] at h
   rw [decide_eq_true h2]
   exact h
  ·rw [decide_eq_false (show ¬ (x1,x2)=(y1,y2) by simp [h2])] at h
   rw [decide_eq_false h2]
   exact h
 ·rw [decide_eq_false (show ¬ (x1,x2)=(y1,y2) by simp [h1])] at h
  rw [decide_eq_false h1]
  exact h
theorem pI {kt:TypeId} (hk:oM P kt){k:Int × Int}:∀ (ents:List MapEntry) (es:List ((Int × Int) × Value)) (i:Nat){Q:Option (Nat × Value)->aj->Prop},ents.map (fun e=>(e.key,e.val))=es.map (fun p=>(fH p.1,p.2)) ->
  (∀ r,(r=none->fD es k=none)->(∀ j v,r=some (j,v)->fD es k=some v)->Q r H)->bk P (Instr.findAsking kt (fH k) ents i) Q H
 | [],[],i,Q,_,h=>h none (fun _=>rfl) (fun _ _ e=>by cases e)
 | [],_ :: _,_,_,e,_=>by simp at e
 | _ :: _,[],_,_,e,_=>by simp at e
 | e :: ents,p :: es,i,Q,he,h=>by
  simp only [List.map_cons,List.cons.injEq,Prod.mk.injEq] at he
  obtain ⟨⟨h1,h2⟩,h3⟩:=he
  unfold Instr.findAsking
  rw [h1]
  refine av (uG hk ?_)
  by_cases hkp:k=p.1
  ·rw [decide_eq_true hkp]
   refine dl (h _ (fun e=>by cases e) fun j v e=>?_)
   cases e
   unfold fD
   rw [if_pos hkp,h2]
  ·rw [decide_eq_false hkp]
   simp only [Bool.false_eq_true,if_false]
   refine pI hk ents es (i+1) h3 fun r r1 r2=>h r (fun e=>?_) fun j v e=>?_
   ·unfold fD;rw [if_neg hkp];exact r1 e
   ·unfold fD;rw [if_neg hkp];exact r2 j v e
theorem kz {kt:TypeId} (hk:oM P kt){k:Int × Int}{ents:List MapEntry}{es:List ((Int × Int) × Value)}{Q:Option (Nat × Value)->aj->Prop} (he:ents.map (fun e=>(e.key,e.val))=es.map (fun p=>(fH p.1,p.2)))
  (h:∀ r,(r=none->fD es k=none)->(∀ j v,r=some (j,v)->fD es k=some v)->Q r H):bk P (Instr.findKey kt (fH k) ents) Q H:=by
 obtain ⟨f,g,hu,_⟩:=hk.2
 unfold Instr.findKey
 refine av (aP hu ?_)
 cases ents with
 | nil =>
  cases es with
  | nil=>exact h none (fun _=>rfl) (fun _ _ e=>by cases e)
  | cons p es=>simp at he
 | cons e ents =>
  cases es with
  | nil=>simp at he
  | cons p es =>
   have:Instr.findNow (.struct #[f,g]) (fH k) (e :: ents) 0=none:=by
    unfold Instr.findNow
    rfl
   rw [this]
   exact pI hk (e :: ents) (p :: es) 0 he h
theorem kK {t:TypeId}{a:Int}{n:Nat}{e:Bool}{Q:Unit->aj->Prop} (hu:P.underlying t=some (.int .i64)) (h:Q () H):bk P (Instr.checkKey e (n+1) t (.int .i64 a)) Q H:=by
 unfold Instr.checkKey
 exact av (aP hu h)
theorem nI {kt:TypeId} (hk:oM P kt){k:Int × Int}{e:Bool}{Q:Unit->aj->Prop} (h:Q () H):bk P (Instr.checkKey e 10000 kt (fH k)) Q H:=by
 obtain ⟨_,f,g,hu,n1,n2,o1,o2,u1,u2⟩:=hk
 unfold Instr.checkKey fH
 refine av (aP hu ?_)
 refine av (rV _ _ ?_)
 rw [if_pos n1]
 refine av (iA u1 (v:=.int .i64 k.1) (by rw [o1];rfl) ?_)
 refine av (kK u1 (dl ?_))
 simp only
 rw [if_pos n2]
 refine av (iA u2 (v:=.int .i64 k.2) (by rw [o2];rfl) ?_)
 exact av (kK u2 (dl h))
theorem sK {T kt et:TypeId}{i:TypeInfo}{z:Value}{r:Nat}{k:Int × Int}{es:List ((Int × Int) × Value)}{Q:Value->aj->Prop} (hT:P.underlying T=some (.map kt et)) (hk:oM P kt) (hi:P.info? et=some i) (hz:i.zero=some z) (hm:ky H r es)
  (h:Q (.tuple #[(fD es k).getD z,.bool (fD es k).isSome]) H):bk P (Instr.lookup T (.map (some r)) (fH k) true) Q H:=by
 obtain ⟨ents,clock,hr,he⟩:=hm
 unfold Instr.lookup
 refine av (aP hT ?_)
 refine av ?_
 refine (⟨_,hr,rfl,?_⟩:∃ o,H[r]?=some o∧cv o=false∧_)
 refine av (dl ?_)
 refine av (nI hk ?_)
 refine av (kz hk he fun q q1 q2=>?_)
 cases q with
 | none =>
  rw [q1 rfl] at h
  exact av (du hi hz h)
 | some jv =>
  obtain ⟨j,v⟩:=jv
  rw [q2 j v rfl] at h
  exact h
theorem te {T kt et:TypeId}{r:Nat}{k:Int × Int}{v:Value}{es:List ((Int × Int) × Value)}{Q:Unit->aj->Prop} (hT:P.underlying T=some (.map kt et)) (hk:oM P kt) (hm:ky H r es) (hno:fD es k=none)
  (h:∀ H',ky H' r (es++[(k,v)])->Fr [r] H H'->Q () H'):bk P (Instr.mapUpdate T (.map (some r)) (fH k) v) Q H:=by
 obtain ⟨ents,clock,hr,he⟩:=hm
 have hrl:r<H.size:=(Array.getElem?_eq_some_iff.1 hr).1
 have hset:∀ o:Obj,Fr [r] H (H.setIfInBounds r o)∧(H.setIfInBounds r o)[r]?=some o:=fun o =>
  ⟨⟨by simp,fun b _ hn=>by rw [Array.getElem?_setIfInBounds,if_neg (by simp only [List.mem_singleton] at hn;exact fun e=>hn e.symm)]⟩,by simp [hrl]⟩
 unfold Instr.mapUpdate
 refine av (aP hT ?_)
 refine av ?_
 refine (⟨_,hr,rfl,?_⟩:∃ o,H[r]?=some o∧cv o=false∧_)
 refine av (nI hk ?_)
 refine av (kz hk he fun q q1 q2=>?_)
 cases q with
 | none =>
  refine (⟨⟨_,hr,rfl⟩,?_⟩:(∃ o',H[r]?=some o'∧cv o'=false)∧_)
  exact h _ ⟨_,_,(hset _).2,by simp [he]⟩ (hset _).1
 | some jv =>
  obtain ⟨j,v⟩:=jv
  rw [q2 j v rfl] at hno;cases hno
theorem pr {T T0 k e:TypeId}{r:Nat}{es:List ((Int × Int) × Value)}{Q:Value->aj->Prop} (hT:P.underlying T=some (.map k e)) (hm:ky H r es) (h:∀ H',ky H' r []->Fr [r] H H'->Q (.tuple #[]) H'):bk P (Builtin.clear_ #[T] T0 #[.map (some r)]) Q H:=by
 obtain ⟨ents,clock,hr,he⟩:=hm
 have hrl:r<H.size:=(Array.getElem?_eq_some_iff.1 hr).1
 have hset:∀ o:Obj,Fr [r] H (H.setIfInBounds r o)∧(H.setIfInBounds r o)[r]?=some o:=fun o =>
  ⟨⟨by simp,fun b _ hn=>by rw [Array.getElem?_setIfInBounds,if_neg (by simp only [List.mem_singleton] at hn;exact fun e=>hn e.symm)]⟩,by simp [hrl]⟩
 unfold Builtin.clear_
 refine av (aP hT ?_)
 refine av ?_
 refine (⟨_,hr,rfl,?_⟩:∃ o,H[r]?=some o∧cv o=false∧_)
 refine (⟨⟨_,hr,rfl⟩,?_⟩:(∃ o',H[r]?=some o'∧cv o'=false)∧_)
 exact h _ ⟨_,_,(hset _).2,rfl⟩ (hset _).1
end
end Kw
namespace Go.Proofs.YtmkdkplipbocjaaGreatDoor
open Kw
structure PB (H:aj) (bb b:Nat) (F:ay) (mb:Nat) (s:SP) (t:TB) (es:List ((Int × Int) × Value)) (hits:Int):Prop where
 k:PK H b F s t
 blk:bA H bb #[.pointer (some ⟨b,0,none⟩),.map (some mb),.int .i64 hits]
 map:ky H mb es
 ne:bb≠mb
 nb:bb∉F
 nm:mb∉F
 gb:aE≠bb
 gm:aE≠mb
def xC (n:Int) (es:List ((Int × Int) × Value)):List ((Int × Int) × Value):=if n=0 then [] else es
theorem jx {n:Int} (h:n≠0) (es:List ((Int × Int) × Value)):xC n es=es:=by unfold xC;rw [if_neg h]
theorem oL (es:List ((Int × Int) × Value)):xC 0 es=[]:=rfl
section
variable {H H':aj}{bb b mb sb:Nat}{F F':ay}{s s':SP}{t t':TB}{v:KV}{es:List ((Int × Int) × Value)}{hits:Int}{Q:QT}
theorem PB.up (h:PB H bb b F mb s t es hits) (hK:PK H' b F' s' t') (hu:Up F H F' H'):PB H' bb b F' mb s' t' es hits :=
 ⟨hK,h.blk.fr hu.1 h.nb,h.map.fr hu.1 h.nm,h.ne,Up.out hu h.nb h.blk.lt,Up.out hu h.nm h.map.lt,h.gb,h.gm⟩
theorem PB.nil (h:PB H bb b F mb s t es hits) (f:Fr [] H H'):PB H' bb b F mb s t es hits:=h.up (h.k.nil f) (Up.of_nil f)
theorem PB.kp (h:PB H bb b F mb s t es hits):KP H bb b:=h.blk.cell 0
theorem PB.fr (h:PB H bb b F mb s t es hits){G:ay} (f:Fr G H H') (hd:bi (bb :: mb :: F) G) (hg:aE∉G):PB H' bb b F mb s t es hits :=
 ⟨h.k.fr f (hd.mono (fun x hx=>by simp [hx]) fun _ h=>h) hg,h.blk.fr f (hd bb (by simp)),h.map.fr f (hd mb (by simp)),h.ne,h.nb,h.nm,h.gb,h.gm⟩
theorem PB.lt (h:PB H bb b F mb s t es hits):∀ x∈bb :: mb :: F,x<H.size:=fun x hx=>by
 simp only [List.mem_cons] at hx
 rcases hx with rfl | rfl | hx
 ·exact h.blk.lt
 ·exact h.map.lt
 ·exact h.k.lt x hx
theorem oD (hB:PB H bb b F mb s t es hits) (h:∀ H',PB H' bb b F mb s t [] hits->Fr [mb] H H'->Q (.tuple #[]) H'):ah PP EG #[.pointer (some ⟨bb,0,none⟩)] Q H:=by
 apply AF
 unfold Mw pV
 refine kx hB.kp ⟨_,rfl,?_⟩
 simp only [cond_true]
 refine ⟨_,rfl,_,by rw [ao];exact hB.blk.cell 1,pr (k:=268) (e:=265) (by kernel_rfl) hB.map fun H1 h1 f1=>?_⟩
 exact h H1 ⟨hB.k.fr f1 (fun x hx hm=>by simp only [List.mem_singleton] at hm;subst hm;exact hB.nm hx) (by simpa using hB.gm),hB.blk.fr f1 (by simpa using hB.ne),h1,hB.ne,hB.nb,hB.nm,hB.gb,hB.gm⟩ f1
theorem vq (hB:PB H bb b F mb s t es hits) (h:Q (.int .i64 hits) H):ah PP zG #[.pointer (some ⟨bb,0,none⟩)] Q H:=by
 apply uS
 unfold E9 iV pV
 refine kx hB.kp ⟨_,rfl,?_⟩
 simp only [Bool.not_true,cond_false]
 exact ⟨_,rfl,_,by rw [ao];exact hB.blk.cell 2,h⟩
structure WSt (H0:aj) (F0:ay) (b sb:Nat) (t:TB) (q0 q1:Nat) (H:aj) (F:ay) (s:SP):Prop where
 k:PK H b F s t
 sp:rB H b sb
 up:Up F0 H0 F H
 b0:bA H q0 #[.pointer (some ⟨sb,0,none⟩)]
 b1:bA H q1 #[.int .i64 0]
 n0:q0∉F
 n1:q1∉F
theorem WSt.step {H0:aj}{F0:ay}{q0 q1:Nat} (h:WSt H0 F0 b sb t q0 q1 H F s) (hK:PK H' b F' s' t) (hs:rB H' b sb) (hu:Up F H F' H'):WSt H0 F0 b sb t q0 q1 H' F' s' :=
 ⟨hK,hs,h.up.trans hu,h.b0.fr hu.1 h.n0,h.b1.fr hu.1 h.n1,Up.out hu h.n0 h.b0.lt,Up.out hu h.n1 h.b1.lt⟩
theorem WSt.nil {H0:aj}{F0:ay}{q0 q1:Nat} (h:WSt H0 F0 b sb t q0 q1 H F s) (f:Fr [] H H'):WSt H0 F0 b sb t q0 q1 H' F s:=h.step (h.k.nil f) (h.sp.nil f) (Up.of_nil f)
theorem WSt.late {H0:aj}{F0:ay}{q0 q1 n:Nat} (h:WSt H0 F0 b sb t q0 q1 H F s){G:ay} (f:Fr G H H') (hG:∀ y∈G,n<=y∧y∉F) (h0:H0.size<=n) (hq0:q0<n) (hq1:q1<n) (hg:aE<n):WSt H0 F0 b sb t q0 q1 H' F s:=by
 refine ⟨h.k.fr f (fun x hx hm=>(hG x hm).2 hx) (fun hm=>?_),?_,⟨⟨Nat.le_trans h.up.1.1 f.1,fun x hx hn=>?_⟩,h.up.2⟩,h.b0.fr f (fun hm=>?_),h.b1.fr f (fun hm=>?_),h.n0,h.n1⟩
 ·have:=(hG _ hm).1;omega
 ·have:=h.sp
  unfold rB at this ⊢
  rw [bz f (fun hm=>(hG _ hm).2 h.k.bmem) (bN this)];exact this
 ·rw [f.2 x (Nat.lt_of_lt_of_le hx h.up.1.1) (fun hm=>by have:=(hG _ hm).1;omega),h.up.1.2 x hx hn]
 ·have:=(hG _ hm).1;omega
 ·have:=(hG _ hm).1;omega
theorem WSt.stop {H0:aj}{F0:ay}{q0 q1:Nat} (h:WSt H0 F0 b sb t q0 q1 H F s){R:aj->Prop} (hq:∀ H',PK H' b F { s with stack:=[] } t->Fr F H H'->R H'):iJ PP HF #[.pointer (some ⟨q0,0,none⟩),.pointer (some ⟨q1,0,none⟩)] R H:=by
 apply ja
 unfold Pq iV wW pV lV cS
 have c0:=h.b0.cell 0
 have c1:=h.b1.cell 0
 obtain ⟨F1,hS,hsub,_,hup⟩:=h.k.spAt h.sp
 have hm:=hS.wf.many
 refine ⟨_,c0,_,c0,_,c1,jt hS fun a c H1 hr f1=>⟨_,_,_,rfl,⟨⟨(h.b1.fr f1 (by simp)).cell 0,trivial⟩,⟨(h.b0.fr f1 (by simp)).cell 0,trivial⟩,trivial⟩,?_⟩⟩
 rw [am (by omega) (by omega)]
 refine oW (hS.nilfr f1) (by unfold Ak;omega) fun H2 hS2 f2=>⟨_,rfl,trivial,?_⟩
 rw [kM rfl] at hS2
 have f12:Fr F1 H H2:=(Fr.of_nil f1).trans f2
 exact hq H2 (hup H2 _ hS2 f12).1 (f12.mono hsub)
theorem sv (hB:PB H bb b F mb s t es hits) (hv:KAll s t v){i:Nat} (hi:i<v.cls.length){kp l m:List Int} (hkp:∀ w∈kp,dG w) (hk1:kp.length<=1) (hl:∀ w∈l,dG w) (hm:∀ w∈m,dG w)
  {a3 a4 a5:Option Addr}{l3 c3 l4 c4 l5 c5:Nat} (h3:Rd 1 H a3 l3 (aq l)) (o3:mM H a3 F) (k3:l3<=1000000) (h4:Rd 1 H a4 l4 (aq m)) (o4:mM H a4 F) (k4:l4<=1000000) (h5:Rd 1 H a5 l5 (aq kp)) (o5:fQ H a5 l5 F)
  (h:∀ H' F',PB H' bb b F' mb (de s (v.cls[i]).oop kp l m).2 t (xC (de s (v.cls[i]).oop kp l m).1 es) hits->Up (mb :: F) H (mb :: F') H'->Q (.int .i64 (de s (v.cls[i]).oop kp l m).1) H') :
  ah PP GM #[.pointer (some ⟨bb,0,none⟩),.int .i64 (v.cls[i]).oop,.slice a3 l3 c3,.slice a4 l4 c4,.slice a5 l5 c5] Q H:=by
 have hs1:aF PP 108=some (1,8,some (.int .i64 0)):=by kernel_rfl
 obtain ⟨hk,hn,hst⟩:=hv
 obtain ⟨ek,hk0⟩:=kQ hk hst hkp hk1
 obtain ⟨A1,A2,⟨la,A3,A3'⟩,A4⟩:=dg hk0 (by simp only;omega) hl
 unfold de at h
 rw [ek] at h
 simp only at h
 generalize hRA:SP.array { s with stack:=kp } l=RA at A1 A2 A3 A4 h
 obtain ⟨B1,B2,⟨lb,B3,B3'⟩,B4⟩:=dg A1 (by rw [A3];simp only [List.length_append];omega) hm
 generalize hRB:SP.array RA.2 m=RB at B1 B2 B3 B4 h
 have bad1:RA.1.2≠0->∀ H' F',PB H' bb b F' mb { RA.2 with stack:=[] } t es hits->Up (mb :: F) H (mb :: F') H'->Q (.int .i64 RA.1.2) H':=fun hz H' F' hP hu=>by
  have:=h H' F'
  rw [if_pos hz] at this
  exact this (by rw [jx hz];exact hP) hu
 have bad2:RA.1.2=0->RB.1.2≠0->∀ H' F',PB H' bb b F' mb { RB.2 with stack:=[] } t es hits->Up (mb :: F) H (mb :: F') H'->Q (.int .i64 RB.1.2) H':=fun h0 hz H' F' hP hu=>by
  have:=h H' F'
  rw [if_neg (by simpa using h0),if_pos hz] at this
  exact this (by rw [jx hz];exact hP) hu
 have good:RA.1.2=0->RB.1.2=0->∀ H' F',PB H' bb b F' mb { RB.2 with h:=((RB.2.h.put (v.cls[i]).oop 3 RA.1.1).2.put (v.cls[i]).oop 4 RB.1.1).2,stack:=[] } t [] hits->Up (mb :: F) H (mb :: F') H'->Q (.int .i64 0) H':=fun h0 hz H' F' hP hu=>by
  have:=h H' F'
  rw [if_neg (by simpa using h0),if_neg (by simpa using hz)] at this
  exact this (by rw [oL];exact hP) hu
 clear h
 have fin:∀ {H' F' s'}{es'},PB H' bb b F' mb s' t es' hits->Up F H F' H'->Up (mb :: F) H (mb :: F') H':=fun hP hu=>⟨hu.1.mono fun x hx=>by simp [hx],fun x hx=>by
  rcases List.mem_cons.1 hx with rfl | hx
  ·exact .inl (by simp)
  ·exact (hu.2 x hx).imp (fun h=>by simp [h]) id⟩
 apply BZ
 unfold Mz A0 iV wW pV lV cS;dsimp only [shH]
 have hkp0:=hB.kp
 obtain ⟨sb,F1,hsb,hS,hsub,_⟩:=hB.k.sp
 have hsb:rB H b sb:=hsb
 refine ⟨_,rfl,_,hkp0,tt hsb ⟨_,rfl,?_⟩⟩
 rw [mO]
 have fa:Fr [] H (H.push (.cells #[.pointer (some ⟨sb,0,none⟩)] 47)):=Fr.push _ _ _
 have ba:bA (H.push (.cells #[.pointer (some ⟨sb,0,none⟩)] 47)) H.size #[.pointer (some ⟨sb,0,none⟩)]:=bA.new _ _ _
 refine ⟨by rw [aD];decide,_,ba.cell 0,?_⟩
 generalize (H.push (.cells #[.pointer (some ⟨sb,0,none⟩)] 47))=Ha at fa ba ⊢
 have hsa:gn Ha sb F1 s:=hS.nilfr fa
 refine jt hsa fun ak ck Hb _ fb=>⟨_,_,_,rfl,?_⟩
 rw [hst]
 simp only [List.length_nil]
 rw [mO]
 have fc:Fr [] Hb (Hb.push (.cells #[.int .i64 ((0:Nat):Int)] 3)):=Fr.push _ _ _
 have bc:bA (Hb.push (.cells #[.int .i64 ((0:Nat):Int)] 3)) Hb.size #[.int .i64 0]:=bA.new _ _ _
 refine ⟨by rw [aD];decide,_,((ba.fr fb (by simp)).fr fc (by simp)).cell 0,?_⟩
 generalize (Hb.push (.cells #[.int .i64 ((0:Nat):Int)] 3))=Hc at fc bc ⊢
 have f0c:Fr [] H Hc:=(fa.trans fb).trans fc
 have hlt:=hB.k.lt
 have W0:WSt H F b sb t H.size Hb.size Hc F s:=by
  refine ⟨hB.k.nil f0c,hsb.nil f0c,Up.of_nil f0c,(ba.fr fb (by simp)).fr fc (by simp),bc,fun hm=>?_,fun hm=>?_⟩
  ·have:=hlt _ hm;omega
  ·have h1:=hlt _ hm;have h2:=(fa.trans fb).1;omega
 have nq0:H.size≠mb:=by have:=hB.map.lt;omega
 have nq1:Hb.size≠mb:=by have h1:=hB.map.lt;have h2:=(fa.trans fb).1;omega
 generalize H.size=q0 at W0 nq0 ⊢
 generalize Hb.size=q1 at W0 nq1 ⊢
 obtain ⟨F1c,hSc,hsubc,hupc,_⟩:=W0.k.spAt W0.sp
 refine lu hSc (eC (o5.imp id fun o p hp=>⟨(o p hp).1,by simp⟩) f0c h5) (by
  have:=h5.1
  simp only [aq,List.length_map] at this
  omega) fun Hd Fd hSd hud=>⟨_,rfl,?_⟩
 rw [ek] at hSd ⊢
 simp only [show ((0:Int) != 0)=false from rfl,cond_false]
 obtain ⟨⟨Fk,hKd,hukd⟩,hsd⟩:=hupc Hd Fd _ hSd hud
 have W1:=W0.step hKd hsd hukd
 clear hSc hsubc hupc hSd hud
 have fe:Fr [] Hd (Hd.push (.cells #[.slice a3 l3 c3,.slice a4 l4 c4] 108)):=Fr.push _ _ _
 have be:bA (Hd.push (.cells #[.slice a3 l3 c3,.slice a4 l4 c4] 108)) Hd.size #[.slice a3 l3 c3,.slice a4 l4 c4]:=bA.new _ _ _
 have W2:=W1.nil fe
 have nlb:Hd.size∉Fk:=fun hm=>by have:=W1.k.lt _ hm;omega
 generalize (Hd.push (.cells #[.slice a3 l3 c3,.slice a4 l4 c4] 108))=He at fe be W2 ⊢
 generalize Hd.size=lb at be nlb ⊢
 have kpA:∀ {H':aj}{F':ay}{s':SP},WSt H F b sb t q0 q1 H' F' s'->KP H' bb b∧bb∉F':=fun W=>⟨hkp0.fr W.up.1 hB.nb,Up.out W.up hB.nb hB.blk.lt⟩
 refine ⟨fun w H'=>(w=[.slice none 0 0,.int .i64 0]∧H'=He) ∨
  (∃ a c G F',w=[.slice a 1 c,.int .i64 1]∧RA.1.2=0∧WSt H F b sb t q0 q1 H' F' RA.2∧bA H' lb #[.slice a3 l3 c3,.slice a4 l4 c4]∧lb∉F'∧bv 1 H' a 1 c (aq [RA.1.1]) G∧(∀ y∈G,He.size<=y∧y∉F')) ∨
  (∃ a c G F',w=[.slice a 2 c,.int .i64 2]∧RA.1.2=0∧RB.1.2=0∧WSt H F b sb t q0 q1 H' F' RB.2∧bv 1 H' a 2 c (aq [RA.1.1,RB.1.1]) G∧∀ y∈G,y∉F'),fun w _=>match w with
  | [_,.int _ i]=>(2-i).toNat
  | _=>0,.inl ⟨rfl,rfl⟩,?_⟩
 rintro w H5 (⟨rfl,rfl⟩ | ⟨a,c,G,F',rfl,hz1,W,bl,nl,ho,hG⟩ | ⟨a,c,G,F',rfl,hz1,hz2,W,ho,hG⟩) _
 ·refine ⟨_,_,_,_,rfl,?_⟩
  rw [decide_eq_true (by decide)]
  simp only [cond_true]
  obtain ⟨kp5,nb5⟩:=kpA W2
  refine ⟨⟨by decide,by decide⟩,_,rfl,_,_,_,by rw [ao];exact be.cell 0,?_⟩
  refine uV W2.k kp5 nb5 W2.sp (o3.rd W2.up h3) (fun p hp=>(o3.up W2.up p hp).2) (by omega) fun H6 F6 hK6 hs6 hu6=>⟨_,_,rfl,?_⟩
  rw [hRA] at hK6 ⊢
  have W3:=W2.step hK6 hs6 hu6
  rw [bf,ae]
  refine aA (fun hz=>?_) fun hz=>?_
  ·refine W3.stop fun H7 hK7 f7=>?_
   have hP:=hB.up hK7 (W3.up.trans ⟨f7,fun _ h=>.inl h⟩)
   exact bad1 hz H7 F6 hP (fin hP (W3.up.trans ⟨f7,fun _ h=>.inl h⟩))
  ·have hz1:RA.1.2=0:=Classical.byContradiction hz
   refine bg hs1 rfl (by kernel_rfl) (bv.nil 1 H6) rfl (by simp [cC]) (by decide) (by decide) (by decide) fun a' c' G2 H7 g1 g2 g3=>⟨_,_,_,rfl,?_⟩
   have e:IntKind.wrap .i64 ((0:Int)+1)=1:=am (by decide) (by decide)
   rw [e]
   have hfr:=Up.fresh (Fr.refl [] H6) g2 (by simp)
   refine ⟨.inr (.inl ⟨a',c',G2,F6,rfl,hz1,W3.nil hfr.1,(be.fr hu6.1 nlb).fr hfr.1 (by simp),Up.out hu6 nlb be.lt,by simpa [aq] using g1,fun y hy=>?_⟩),by simp⟩
   have h1:=hfr.2 y hy
   refine ⟨Nat.le_trans hu6.1.1 h1,fun hm=>?_⟩
   have h2:=hK6.lt y hm
   omega
 ·refine ⟨_,_,_,_,rfl,?_⟩
  rw [decide_eq_true (by decide)]
  simp only [cond_true]
  obtain ⟨kp5,nb5⟩:=kpA W
  refine ⟨⟨by decide,by decide⟩,_,rfl,_,_,_,by rw [ao];exact bl.cell 1,?_⟩
  refine uV W.k kp5 nb5 W.sp (o4.rd W.up h4) (fun p hp=>(o4.up W.up p hp).2) (by omega) fun H6 F6 hK6 hs6 hu6=>⟨_,_,rfl,?_⟩
  rw [hRB] at hK6 ⊢
  have W3:=W.step hK6 hs6 hu6
  have hG6:∀ y∈G,He.size<=y∧y∉F6:=fun y hy=>⟨(hG y hy).1,fun hm=>by
   rcases hu6.2 y hm with h1 | h1
   ·exact (hG y hy).2 h1
   ·have:=ho.lt y hy;omega⟩
  rw [bf,ae]
  refine aA (fun hz=>?_) fun hz=>?_
  ·refine W3.stop fun H7 hK7 f7=>?_
   have hP:=hB.up hK7 (W3.up.trans ⟨f7,fun _ h=>.inl h⟩)
   exact bad2 hz1 hz H7 F6 hP (fin hP (W3.up.trans ⟨f7,fun _ h=>.inl h⟩))
  ·have hz2:RB.1.2=0:=Classical.byContradiction hz
   refine bg hs1 rfl (by kernel_rfl) (ho.fr hu6.1 fun y hy=>(hG y hy).2) rfl (by simp [cC]) (by decide) (by decide) (by decide) fun a' c' G2 H7 g1 g2 g3=>⟨_,_,_,rfl,?_⟩
   have e:IntKind.wrap .i64 ((1:Int)+1)=2:=am (by decide) (by decide)
   rw [e]
   exact ⟨.inr (.inr ⟨a',c',G2,F6,rfl,hz1,hz2,W3.late g2.1 hG6 W2.up.1.1 W2.b0.lt W2.b1.lt W2.k.kinds.lt,by simpa [aq] using g1,fun y hy hm=>by
    rcases g2.2 y hy with h1 | h1
    ·exact (hG6 y h1).2 hm
    ·have:=hK6.lt y hm;omega⟩),by simp⟩
 ·refine ⟨_,_,_,_,rfl,?_⟩
  rw [decide_eq_false (by decide)]
  simp only [cond_false]
  obtain ⟨p,rfl,hc0,_⟩:=ho.rd.int (i:=0) (by decide) (by decide)
  obtain ⟨p',ep,hc1,_⟩:=ho.rd.int (i:=1) (by decide) (by decide)
  cases ep
  obtain ⟨x,hx,hxf,_⟩:=B1.view.cls hi
  have hfm:∀ y,aH RB.2.h.objs (v.cls[i]).oop=some y->y.fmt=0:=fun y hy=>by rw [hx] at hy;cases hy;exact hxf
  have hfm2:∀ y,aH (RB.2.h.put (v.cls[i]).oop 3 RA.1.1).2.objs (v.cls[i]).oop=some y->y.fmt=0:=fun y hy=>by
   obtain ⟨z,h2,h3⟩:=mQ _ _ _ _ hy
   rw [h3];exact hfm z h2
  have key:∀ {H':aj},Fr F' H5 H'->ac H' (p.add ((1:Int).toNat*1))=some (.int .i64 RB.1.1):=fun {H'} f=>by
   have ho':=ho.fr f hG
   obtain ⟨p',ep,hc1,_⟩:=ho'.rd.int (i:=1) (by decide) (by decide)
   cases ep
   exact hc1
  obtain ⟨F4,hS4,hsub4,_,hup4⟩:=W.k.spAt W.sp
  refine ⟨_,W.b0.cell 0,⟨by decide,by decide⟩,_,rfl,_,hc0,cU hS4 fun hb F5 hR hsub5 hup5=>⟨_,rfl,⟨⟨hc0,trivial⟩,trivial⟩,jS hR hfm fun H6 hR6 hf6=>⟨_,rfl,trivial,?_⟩⟩⟩
  obtain ⟨hK6,hs6⟩:=hup4 H6 _ (hup5 H6 _ hR6 hf6) (hf6.mono hsub5)
  have f6:Fr F' H5 H6:=(hf6.mono hsub5).mono hsub4
  have W6:=W.step hK6 hs6 ⟨f6,fun _ h=>.inl h⟩
  obtain ⟨F7,hS7,hsub7,_,hup7⟩:=W6.k.spAt W6.sp
  refine ⟨_,W6.b0.cell 0,⟨by decide,by decide⟩,_,rfl,_,key f6,cU hS7 fun hb F8 hR8 hsub8 hup8=>⟨_,rfl,⟨⟨key f6,trivial⟩,trivial⟩,jS hR8 hfm2 fun H9 hR9 hf9=>⟨_,rfl,trivial,?_⟩⟩⟩
  obtain ⟨hK9,hs9⟩:=hup7 H9 _ (hup8 H9 _ hR9 hf9) (hf9.mono hsub8)
  have f9:Fr F' H6 H9:=(hf9.mono hsub8).mono hsub7
  have W9:=W6.step hK9 hs9 ⟨f9,fun _ h=>.inl h⟩
  have hB9:=hB.up hK9 W9.up
  refine oD hB9 fun H10 hB10 f10=>⟨rfl,?_⟩
  have hbm:b≠mb:=fun e=>by
   have:=hB9.nm
   rw [←e] at this
   exact this hB9.k.bmem
  have hs10:rB H10 b sb:=by
   unfold rB
   rw [bz f10 (by simpa using hbm) (bN hs9)];exact hs9
  have W10:WSt H10 F' b sb t q0 q1 H10 F' _:=⟨hB10.k,hs10,Up.refl _ _,W9.b0.fr f10 (by simpa using nq0),W9.b1.fr f10 (by simpa using nq1),W9.n0,W9.n1⟩
  refine W10.stop fun H11 hK11 f11=>?_
  have hB11:=hB10.up hK11 ⟨f11,fun _ h=>.inl h⟩
  have u9:=fin hB9 W9.up
  refine good hz1 hz2 H11 F' hB11 ((u9.trans ⟨f10.mono (by simp),fun _ h=>.inl h⟩).trans ⟨f11.mono fun x hx=>by simp [hx],fun _ h=>.inl h⟩)
end
theorem Up.cons {H H':aj}{F F':ay}{m:Nat} (hu:Up F H F' H'):Up (m :: F) H (m :: F') H':=⟨hu.1.mono fun x hx=>by simp [hx],fun x hx=>by
 rcases List.mem_cons.1 hx with rfl | hx
 ·exact .inl (by simp)
 ·exact (hu.2 x hx).imp (fun h=>by simp [h]) id⟩
section
variable {H H':aj}{bb b mb sb:Nat}{F F':ay}{s s':SP}{t t':TB}{v:KV}{es:List ((Int × Int) × Value)}{hits:Int}{Q:QT}
theorem vr {H:aj}{x:Int}{ty:TypeId}:Rd 1 (H.push (.cells #[.int .i64 x] ty)) (some ⟨H.size,0,none⟩) 1 (aq [x]):=by
 refine ⟨rfl,(fun h=>by cases h),fun p hp k hk=>?_⟩
 cases hp
 have:k=0:=by omega
 subst this
 rw [ao]
 exact (bA.new H _ _).cell 0
theorem IR (hB:PB H bb b F mb s t es hits) (hv:KAll s t v) (hd:KD v t){o m:Int}{name:ByteArray}
  (h1:∀ i (hi:i<v.cls.length),dZ v o=some i->∀ H' F',PB H' bb b F' mb (iC s t v.cls[i] name m).2 t (xC (iC s t v.cls[i] name m).1 es) hits->Up (mb :: F) H (mb :: F') H'->Q (.int .i64 (iC s t v.cls[i] name m).1) H')
  (h2:dZ v o=none->∀ H',Fr [] H H'->Q (.int .i64 130) H'):ah PP vg #[.pointer (some ⟨bb,0,none⟩),.int .i64 o,.string name,.int .i64 m] Q H:=by
 apply yz
 unfold Qs A0 iV pV sV lV cS
 refine kL hB.k hv hB.kp (fun i hi hp a l c G a' l' c' G' H1 ho ho' f1 hG hG'=>⟨_,_,_,_,_,_,_,rfl,?_⟩) fun hp H1 f1=>⟨_,_,_,_,_,_,_,rfl,?_⟩
 rotate_left
 ·exact h2 hp _ f1
 have h:=h1 i hi hp
 obtain ⟨hi',rfl⟩:=cd hp
 clear h1 h2
 obtain ⟨ns,hdc⟩:=hd _ (List.getElem_mem hi)
 have ht:=hdc.texts hv.names.wf
 have hmost:=hdc.most
 have hsl:(v.cls[i]).sels.length=ns.length:=by rw [hdc.sel];simp
 have hl:l=ns.length:=by have:=ho.len;rw [←hsl];simpa [aq] using this.symm
 have hl':l'=ns.length:=by have:=ho'.len;rw [←hdc.len];simpa [aq] using this.symm
 have hB1:=hB.nil f1
 simp only [show ((0:Int) != 0)=false from rfl,cond_false]
 unfold iC at h
 refine ⟨_,rfl,_,hB1.kp,iQ hB1.k fun tb F1 _ hT=>⟨_,rfl,zv hT ?_⟩⟩
 unfold qG
 cases hn:bV t.texts name with
 | none =>
  rw [hn] at h
  simp only at h
  refine ⟨_,_,rfl,?_⟩
  simp only [Bool.not_false,cond_true]
  exact h H1 F (by rw [jx (n:=61) (by decide)];exact hB1) (Up.cons (Up.of_nil f1))
 | some n =>
 rw [hn] at h
 simp only at h
 refine ⟨_,_,rfl,?_⟩
 simp only [Bool.not_true,cond_false]
 have stay:∀ {e:Int}{H2:aj},Fr [] H1 H2->(∀ H' F',PB H' bb b F' mb s t (xC e es) hits->Up (mb :: F) H (mb :: F') H'->Q (.int .i64 e) H')->e≠0->Q (.int .i64 e) H2:=fun f2 hq he=>hq _ F (by rw [jx he];exact hB1.nil f2) (Up.cons (Up.of_nil (f1.trans f2)))
 refine ⟨_,rfl,_,hB1.kp,eL hB1.k fun sb F2 _ hS hsub hup hup2=>⟨_,rfl,cU hS fun hb F3 hR hsub3 hup3=>⟨_,rfl,kO hR ⟨_,_,rfl,?_⟩⟩⟩⟩
 rw [bf,ae]
 refine aA (fun hc=>?_) fun hc=>?_
 ·refine stay (Fr.refl _ _) (fun H' F' hP hu=>?_) hc
  have:=h H' F'
  rw [if_pos hc] at this
  exact this hP hu
 have hc:(s.h.clsAt m).2=0:=Classical.byContradiction hc
 rw [if_neg (by simpa using hc)] at h
 obtain ⟨m1,m2⟩:=lQ hv.ks.wf.h hc
 have hoR:=ho.rd
 have hoR':=ho'.rd
 have hoO:fQ H1 a l []:=.inr (bv.out ho (bi.nil_right _))
 have hoO':fQ H1 a' l' []:=.inr (bv.out ho' (bi.nil_right _))
 have elc:l<=c:=ho.2.1
 have elc':l'<=c':=ho'.2.1
 refine qt ⟨m1,m2⟩ ⟨_,_,rfl,?_⟩
 rw [hdc.sel] at hoR
 refine oE hB1.k hB1.kp hoR hoO hdc.num hdc.srt (by omega) fun H2 f2=>⟨_,_,rfl,?_⟩
 have hB2:=hB1.nil f2
 rw [ht] at h
 by_cases hm:name∈ns.map (tx t)
 ·rw [decide_eq_true hm]
  simp only [cond_true]
  rw [if_pos hm] at h
  simp only at h
  have b4:=(hv.ks.view.met hi).bnd hv.ks.wf.h
  have e4:eY s.h (v.cls[i]).oop 4=(v.cls[i]).metA:=by
   unfold eY;rw [hv.ks.c4 hi,cK b4.1 b4.2.1]
  refine jf hB2.k hB2.kp ⟨_,rfl,?_⟩
  rw [e4]
  obtain ⟨x,hx,hxf,_⟩:=hv.ks.view.met hi
  have hfm:∀ y,aH s.h.objs (v.cls[i]).metA=some y->y.fmt=0:=fun y hy=>by rw [hx] at hy;cases hy;exact hxf
  refine jS (hR.fr f2 (bi.nil_right _) (by simp)) hfm fun H3 hR3 f3=>⟨_,rfl,?_⟩
  have f13:Fr F3 H1 H3:=(Fr.of_nil f2).trans f3
  have hS3:=hup3 H3 _ hR3 f13
  have hK3:=hup2 H3 _ hS3 (f13.mono hsub3)
  have u3:Up F H1 F H3:=⟨(f13.mono hsub3).mono hsub,fun _ h=>.inl h⟩
  have hB3:=hB1.up hK3 u3
  refine oD hB3 fun H4 hB4 f4=>⟨rfl,?_⟩
  refine h H4 F (by rw [oL];exact hB4) ((Up.cons ((Up.of_nil f1).trans u3)).trans ⟨f4.mono (by simp),fun _ h=>.inl h⟩)
 ·rw [decide_eq_false hm]
  simp only [cond_false]
  rw [if_neg hm] at h
  rw [hsl] at h
  rw [ae]
  refine aA (fun h128=>?_) fun h128=>?_
  ·rw [if_pos (by omega)] at h
   exact stay f2 h (by decide)
  rw [if_neg (by omega)] at h
  have hps:=kB (ns.map (tx t)) name
  rw [List.length_map] at hps
  have hnl:n<t.texts.length:=by
   have:=jB hn
   exact (cA this).2
  have ht4:=hv.names.wf.len
  have ht5:=hv.names.wf.m1
  refine vK ⟨by omega,by omega⟩ ⟨_,_,rfl,?_⟩
  have hwo:∀ w∈(v.cls[i]).sels,dG w:=((hv.ks.view.sel hi).bnd hv.ks.wf.h).2.2.2
  have hwo':∀ w∈(v.cls[i]).mets,dG w:=((hv.ks.view.met hi).bnd hv.ks.wf.h).2.2.2
  have hoR0:=ho.rd
  refine uW (eC hoO f2 hoR0) elc (hoO.more f2.1) (by omega) (by omega) fun a5 l5 c5 G5 H3 o5 f3 hG5=>⟨_,_,_,rfl,?_⟩
  have f23:=f2.trans f3
  refine uW (eC hoO' f23 hoR') elc' (hoO'.more f23.1) (by omega) (by omega) fun a6 l6 c6 G6 H4 o6 f4 hG6=>⟨_,_,_,rfl,?_⟩
  have fp:Fr [] H4 (H4.push (.cells #[.int .i64 (4*m)] 36)):=Fr.push _ _ _
  have hB5:=hB1.nil ((f23.trans f4).trans fp)
  have o5':=(o5.fr f4 (by simp)).fr fp (by simp)
  have o6':=o6.fr fp (by simp)
  have r7:Rd 1 (H4.push (.cells #[.int .i64 (4*m)] 36)) (some ⟨H4.size,0,none⟩) 1 (aq [4*m]):=vr
  have q7:H4.size<(H4.push (.cells #[.int .i64 (4*m)] 36)).size:=by simp
  have hlt:=(hB1.nil (f23.trans f4)).k.lt
  have hltB:=hB1.k.lt
  have g5:bi G5 F:=fun y hy hm=>by have h1:=hG5 y hy;have h2:=hltB y hm;have:=f2.1;omega
  have g6:bi G6 F:=fun y hy hm=>by have h1:=hG6 y hy;have h2:=hltB y hm;have:=f23.1;omega
  have esy:(4*(n:Int)+2)=bD n:=rfl
  rw [esy] at o5'
  refine sv hB5 hv hi (kp:=[4*m]) (l:=dU (v.cls[i]).sels (bu (ns.map (tx t)) name) (bD n)) (m:=dU (v.cls[i]).mets (bu (ns.map (tx t)) name) (4*m)) (by simpa using cq m1 m2) (by simp) (fun w hw=>?_) (fun w hw=>?_) o5'.rd (bv.out o5' g5) ?_ o6'.rd (bv.out o6' g6) ?_ r7 (.inr fun p hp=>?_) fun H6 F6 hB6 u6=>⟨_,rfl,?_⟩
  ·rcases nh hw with rfl | hw
   ·exact d6 hv.names.wf hnl
   ·exact hwo w hw
  ·rcases nh hw with rfl | hw
   ·exact cq m1 m2
   ·exact hwo' w hw
  ·have:=o5'.len
   have e:=(fz (v.cls[i]).sels (bu (ns.map (tx t)) name) (bD n)).length_eq
   simp only [aq,List.length_map,e,List.length_cons] at this
   omega
  ·have:=o6'.len
   have e:=(fz (v.cls[i]).mets (bu (ns.map (tx t)) name) (4*m)).length_eq
   have e2:=hdc.len
   simp only [aq,List.length_map,e,List.length_cons] at this
   omega
  ·cases hp
   exact ⟨q7,fun hm=>by have:=hlt _ hm;exact Nat.lt_irrefl _ this⟩
  ·exact h H6 F6 hB6 ((Up.cons (Up.of_nil (f1.trans ((f23.trans f4).trans fp)))).trans u6)
theorem wV (hB:PB H bb b F mb s t es hits) (hv:KAll s t v) (hd:KD v t){o:Int}{name:ByteArray}
  (h1:∀ i (hi:i<v.cls.length),dZ v o=some i->∀ H' F',PB H' bb b F' mb (i5 s t v.cls[i] name).2 t (xC (i5 s t v.cls[i] name).1 es) hits->Up (mb :: F) H (mb :: F') H'->Q (.int .i64 (i5 s t v.cls[i] name).1) H')
  (h2:dZ v o=none->∀ H',Fr [] H H'->Q (.int .i64 130) H'):ah PP vE #[.pointer (some ⟨bb,0,none⟩),.int .i64 o,.string name] Q H:=by
 apply zq
 unfold QF iV pV sV lV cS
 refine kL hB.k hv hB.kp (fun i hi hp a l c G a' l' c' G' H1 ho ho' f1 hG hG'=>⟨_,_,_,_,_,_,_,rfl,?_⟩) fun hp H1 f1=>⟨_,_,_,_,_,_,_,rfl,?_⟩
 rotate_left
 ·exact h2 hp _ f1
 have h:=h1 i hi hp
 obtain ⟨hi',rfl⟩:=cd hp
 clear h1 h2
 obtain ⟨ns,hdc⟩:=hd _ (List.getElem_mem hi)
 have ht:=hdc.texts hv.names.wf
 have hmost:=hdc.most
 have hsl:(v.cls[i]).sels.length=ns.length:=by rw [hdc.sel];simp
 have hl:l=ns.length:=by have:=ho.len;rw [←hsl];simpa [aq] using this.symm
 have hl':l'=ns.length:=by have:=ho'.len;rw [←hdc.len];simpa [aq] using this.symm
 have hB1:=hB.nil f1
 simp only [show ((0:Int) != 0)=false from rfl,cond_false]
 unfold i5 at h
 have hoR:=ho.rd
 have hoR0:=ho.rd
 have hoR':=ho'.rd
 have hoO:fQ H1 a l []:=.inr (bv.out ho (bi.nil_right _))
 have hoO':fQ H1 a' l' []:=.inr (bv.out ho' (bi.nil_right _))
 have elc:l<=c:=ho.2.1
 have elc':l'<=c':=ho'.2.1
 rw [hdc.sel] at hoR
 refine oE hB1.k hB1.kp hoR hoO hdc.num hdc.srt (by omega) fun H2 f2=>⟨_,_,rfl,?_⟩
 have hB2:=hB1.nil f2
 rw [ht] at h
 by_cases hm:name∈ns.map (tx t)
 ·rw [decide_eq_true hm]
  simp only [Bool.not_true,cond_false]
  rw [if_pos hm] at h
  have hps:bu (ns.map (tx t)) name<ns.length:=by
   have:=(List.getElem?_eq_some_iff.1 ((gL hdc.srt).1 hm)).1
   simpa using this
  have hwo:∀ w∈(v.cls[i]).sels,dG w:=((hv.ks.view.sel hi).bnd hv.ks.wf.h).2.2.2
  have hwo':∀ w∈(v.cls[i]).mets,dG w:=((hv.ks.view.met hi).bnd hv.ks.wf.h).2.2.2
  refine nV (eC hoO f2 hoR0) elc (hoO.more f2.1) (by omega) (by omega) fun a5 l5 c5 G5 H3 o5 f3 hG5=>⟨_,_,_,rfl,?_⟩
  have f23:=f2.trans f3
  refine nV (eC hoO' f23 hoR') elc' (hoO'.more f23.1) (by omega) (by omega) fun a6 l6 c6 G6 H4 o6 f4 hG6=>⟨_,_,_,rfl,?_⟩
  have hB5:=hB1.nil (f23.trans f4)
  have o5':=o5.fr f4 (by simp)
  have hltB:=hB1.k.lt
  have g5:bi G5 F:=fun y hy hm=>by have h1:=hG5 y hy;have h2:=hltB y hm;have:=f2.1;omega
  have g6:bi G6 F:=fun y hy hm=>by have h1:=hG6 y hy;have h2:=hltB y hm;have:=f23.1;omega
  refine sv hB5 hv hi (kp:=[]) (l:=(v.cls[i]).sels.eraseIdx (bu (ns.map (tx t)) name)) (m:=(v.cls[i]).mets.eraseIdx (bu (ns.map (tx t)) name)) (by simp) (by simp) (fun w hw=>hwo w (List.mem_of_mem_eraseIdx hw)) (fun w hw=>hwo' w (List.mem_of_mem_eraseIdx hw)) o5'.rd (bv.out o5' g5) ?_ o6.rd (bv.out o6 g6) ?_ ⟨rfl,fun _=>rfl,fun p hp=>by cases hp⟩ (.inl rfl) fun H6 F6 hB6 u6=>⟨_,rfl,?_⟩
  ·have:=o5'.len
   simp only [aq,List.length_map] at this
   have h3:=(List.eraseIdx_sublist (v.cls[i]).sels (bu (ns.map (tx t)) name)).length_le
   omega
  ·have:=o6.len
   simp only [aq,List.length_map] at this
   have h3:=(List.eraseIdx_sublist (v.cls[i]).mets (bu (ns.map (tx t)) name)).length_le
   have e2:=hdc.len
   omega
  ·exact h H6 F6 hB6 ((Up.cons (Up.of_nil (f1.trans (f23.trans f4)))).trans u6)
 ·rw [decide_eq_false hm]
  simp only [Bool.not_false,cond_true]
  rw [if_neg hm] at h
  exact h _ F (by rw [jx (n:=140) (by decide)];exact hB2) (Up.cons (Up.of_nil (f1.trans f2)))
end
theorem Hw {H:aj}{x y u w:Value}{ty:TypeId}:au (au (H.push (.cells #[x,y] ty)) (⟨H.size,0,none⟩:Addr) u) ((⟨H.size,0,none⟩:Addr).add 1) w=H.push (.cells #[u,w] ty):=by
 rw [ao,az,az]
 rfl
theorem GO {H:aj}{b:Nat}{x y:Value} (hB:bA H b #[x,y]) (u w:Value):Wr H (⟨b,0,none⟩:Addr)∧Wr (au H (⟨b,0,none⟩:Addr) u) ((⟨b,0,none⟩:Addr).add 1)∧ac (au (au H (⟨b,0,none⟩:Addr) u) ((⟨b,0,none⟩:Addr).add 1) w) (⟨b,0,none⟩:Addr)=some u∧ac (au (au H (⟨b,0,none⟩:Addr) u) ((⟨b,0,none⟩:Addr).add 1) w) ((⟨b,0,none⟩:Addr).add 1)=some w∧Fr [b] H (au (au H (⟨b,0,none⟩:Addr) u) ((⟨b,0,none⟩:Addr).add 1) w):=by
 have h1:=hB.set 0 u
 have h2:=h1.set 1 w
 rw [ao]
 exact ⟨hB.wr (by simp),h1.wr (by simp),h2.cell 0,h2.cell 1,((Fr.refl _ _).step (by simp)).step (by simp)⟩
theorem qp {w:Int}{l:List Int}{j:Nat} (hj:j<l.length):iv w (l.drop j) j=if l[j]=w then some j else iv w (l.drop (j+1)) (j+1):=by
 rw [List.drop_eq_getElem_cons hj]
 rfl
section
variable {H H':aj}{bb b mb sb:Nat}{F F':ay}{s s':SP}{t t':TB}{v:KV}{es:List ((Int × Int) × Value)}{hits:Int}{Q:QT}
theorem Ex {n:Int}{Q:QT}{H:aj} (hn:n<0∨4095<n) (h:Q (.tuple #[.int .i64 0,.int .i64 1]) H):ah PP xK #[.int .i64 n] Q H:=by
 apply u7
 unfold Gc iV
 simp only [ae]
 split
 ·exact h
 ·rw [if_pos (by omega)];exact h
theorem uH (hK:PK H b F s t) (hv:KAll s t v) (hd:KD v t) (hc:KP H bb b){i:Nat} (hi:i<v.cls.length){x:Int} (h:∀ H',Fr [] H H'->Q (fH (cF v (4*x+2) i)) H') :
  ah PP yt #[.pointer (some ⟨bb,0,none⟩),.int .i64 (v.cls[i]).oop,.int .i64 x] Q H:=by
 have ht4:=hv.names.wf.len
 have ht5:=hv.names.wf.m1
 apply DB
 unfold N0 A0 iV wW pV lV cS;dsimp only [shH]
 have f0:Fr [] H (H.push (.cells #[.int .i64 0,.int .i64 0] 265)):=Fr.push _ _ _
 have b0:bA (H.push (.cells #[.int .i64 0,.int .i64 0] 265)) H.size #[.int .i64 0,.int .i64 0]:=bA.new _ _ _
 generalize (H.push (.cells #[.int .i64 0,.int .i64 0] 265))=H0 at f0 b0 ⊢
 have fin:∀ {H2:aj}{r:Int × Int},Fr [] H0 H2->cF v (4*x+2) i=r->Wr H2 (⟨H.size,0,none⟩:Addr)∧Wr (au H2 (⟨H.size,0,none⟩:Addr) (.int .i64 r.1)) ((⟨H.size,0,none⟩:Addr).add 1)∧∃ n42:Int,ac (au (au H2 (⟨H.size,0,none⟩:Addr) (.int .i64 r.1)) ((⟨H.size,0,none⟩:Addr).add 1) (.int .i64 r.2)) (⟨H.size,0,none⟩:Addr)=some (.int .i64 n42)∧∃ n43:Int,ac (au (au H2 (⟨H.size,0,none⟩:Addr) (.int .i64 r.1)) ((⟨H.size,0,none⟩:Addr).add 1) (.int .i64 r.2)) ((⟨H.size,0,none⟩:Addr).add 1)=some (.int .i64 n43)∧Q (.agg #[.int .i64 n42,.int .i64 n43]) (au (au H2 (⟨H.size,0,none⟩:Addr) (.int .i64 r.1)) ((⟨H.size,0,none⟩:Addr).add 1) (.int .i64 r.2)):=fun {H2 r} f2 hr=>by
  obtain ⟨w1,w2,c1,c2,f3⟩:=GO (b0.fr f2 (by simp)) (.int .i64 r.1) (.int .i64 r.2)
  refine ⟨w1,w2,_,c1,_,c2,?_⟩
  subst hr
  refine h _ ⟨?_,fun y hy hn=>?_⟩
  ·exact Nat.le_trans (f0.trans f2).1 f3.1
  ·rw [f3.2 y (Nat.lt_of_lt_of_le hy (f0.trans f2).1) (by simp;omega)]
   exact (f0.trans f2).2 y hy hn
 have main:∀ {n5 n6:Int},(n6=0->n5=4*x+2)->(n6≠0->cF v (4*x+2) i=(0,0))->∃(I7:List Value->aj->Prop) (μ7:List Value->aj->Nat),I7 [.int .i64 (v.cls[i]).oop] H0∧∀ w8 H2,I7 w8 H2->∀ _g:Nat->Value,∃ n9:Int,w8=[.int .i64 n9]∧cond (n9 != 0) (cond (n6 == 0) (ah PP 141 #[.pointer (some ⟨bb,0,none⟩:Option Addr),.int .i64 n9,.int .i64 3] (fun v10 H3=>∃ n11:Int,v10=.int .i64 n11∧ah PP 227 #[.pointer (some ⟨bb,0,none⟩:Option Addr),.int .i64 n11] (fun v12 H4=>∃ a13:Option Addr,∃ l13:Nat,∃ c13:Nat,v12=.slice a13 l13 c13∧∃(I14:List Value->aj->Prop) (μ14:List Value->aj->Nat),I14 [.int .i64 0] H4∧∀ w15 H5,I14 w15 H5->∀ _g:Nat->Value,∃ n16:Int,w15=[.int .i64 n16]∧cond (decide (n16<(l13:Int))) (((0:Int)<=n16∧n16<(l13:Int))∧∃ q17,a13=some q17∧∃ n18:Int,ac H5 (q17.add (Int.toNat n16*1))=some (.int .i64 n18)∧cond (n18 == n5) (∃ q19,(some ⟨bb,0,none⟩:Option Addr)=some q19∧∃ p20:Option Addr,ac H5 q19=some (.pointer p20)∧ah PP 19 #[.pointer p20] (fun v21 H6=>∃ p22:Option Addr,v21=.pointer p22∧ah PP 20 #[.pointer p22] (fun v23 H7=>∃ p24:Option Addr,v23=.pointer p24∧ah PP 141 #[.pointer (some ⟨bb,0,none⟩:Option Addr),.int .i64 n9,.int .i64 4] (fun v25 H8=>∃ n26:Int,v25=.int .i64 n26∧ah PP 233 #[.pointer p24,.int .i64 n26,.int .i64 n16] (fun v27 H9=>∃ n28:Int,∃ n29:Int,v27=.tuple #[.int .i64 n28,.int .i64 n29]∧ah PP 183 #[.int .i64 n28] (fun v30 H00=>∃ n31:Int,∃ n32:Int,v30=.tuple #[.int .i64 n31,.int .i64 n32]∧Wr H00 (⟨H.size,0,none⟩:Addr)∧Wr (au H00 (⟨H.size,0,none⟩:Addr) (.int .i64 n31)) ((⟨H.size,0,none⟩:Addr).add 1)∧∃ n33:Int,ac (au (au H00 (⟨H.size,0,none⟩:Addr) (.int .i64 n31)) ((⟨H.size,0,none⟩:Addr).add 1) (.int .i64 n9)) (⟨H.size,0,none⟩:Addr)=some (.int .i64 n33)∧∃ n34:Int,ac (au (au H00 (⟨H.size,0,none⟩:Addr) (.int .i64 n31)) ((⟨H.size,0,none⟩:Addr).add 1) (.int .i64 n9)) ((⟨H.size,0,none⟩:Addr).add 1)=some (.int .i64 n34)∧Q (.agg #[.int .i64 n33,.int .i64 n34]) (au (au H00 (⟨H.size,0,none⟩:Addr) (.int .i64 n31)) ((⟨H.size,0,none⟩:Addr).add 1) (.int .i64 n9))) H9) H8) H7) H6) H5) (I14 [.int .i64 (IntKind.wrap .i64 (n16+1))] H5∧μ14 [.int .i64 (IntKind.wrap .i64 (n16+1))] H5<μ14 w15 H5)) (∃ q35,(some ⟨bb,0,none⟩:Option Addr)=some q35∧∃ p36:Option Addr,ac H5 q35=some (.pointer p36)∧ah PP 190 #[.pointer p36,.int .i64 n9] (fun v37 H01=>∃ n38:Int,∃ n39:Int,v37=.tuple #[.int .i64 n38,.int .i64 n39]∧I7 [.int .i64 n38] H01∧μ7 [.int .i64 n38] H01<μ7 w8 H2) H5)) H3) H2) (Wr H2 (⟨H.size,0,none⟩:Addr)∧Wr (au H2 (⟨H.size,0,none⟩:Addr) (.int .i64 0)) ((⟨H.size,0,none⟩:Addr).add 1)∧∃ n40:Int,ac (au (au H2 (⟨H.size,0,none⟩:Addr) (.int .i64 0)) ((⟨H.size,0,none⟩:Addr).add 1) (.int .i64 0)) (⟨H.size,0,none⟩:Addr)=some (.int .i64 n40)∧∃ n41:Int,ac (au (au H2 (⟨H.size,0,none⟩:Addr) (.int .i64 0)) ((⟨H.size,0,none⟩:Addr).add 1) (.int .i64 0)) ((⟨H.size,0,none⟩:Addr).add 1)=some (.int .i64 n41)∧Q (.agg #[.int .i64 n40,.int .i64 n41]) (au (au H2 (⟨H.size,0,none⟩:Addr) (.int .i64 0)) ((⟨H.size,0,none⟩:Addr).add 1) (.int .i64 0)))) (Wr H2 (⟨H.size,0,none⟩:Addr)∧Wr (au H2 (⟨H.size,0,none⟩:Addr) (.int .i64 0)) ((⟨H.size,0,none⟩:Addr).add 1)∧∃ n42:Int,ac (au (au H2 (⟨H.size,0,none⟩:Addr) (.int .i64 0)) ((⟨H.size,0,none⟩:Addr).add 1) (.int .i64 0)) (⟨H.size,0,none⟩:Addr)=some (.int .i64 n42)∧∃ n43:Int,ac (au (au H2 (⟨H.size,0,none⟩:Addr) (.int .i64 0)) ((⟨H.size,0,none⟩:Addr).add 1) (.int .i64 0)) ((⟨H.size,0,none⟩:Addr).add 1)=some (.int .i64 n43)∧Q (.agg #[.int .i64 n42,.int .i64 n43]) (au (au H2 (⟨H.size,0,none⟩:Addr) (.int .i64 0)) ((⟨H.size,0,none⟩:Addr).add 1) (.int .i64 0))):=fun {n5 n6} e5 e6=>by
  refine ⟨fun w H'=>Fr [] H0 H'∧((∃ k,∃ hk:k<v.cls.length,w=[.int .i64 (v.cls[k]).oop]∧cF v (4*x+2) k=cF v (4*x+2) i)∨(w=[.int .i64 0]∧cF v (4*x+2) i=(0,0))),fun w _=>match w with
   | [.int _ c]=>(match dZ v c with | some k=>k+1 | none=>0)
   | _=>0,⟨Fr.refl _ _,.inl ⟨i,hi,rfl,rfl⟩⟩,?_⟩
  rintro w H2 ⟨f2,hw⟩ _
  rcases hw with ⟨k,hk,rfl,e⟩ | ⟨rfl,e⟩
  rotate_left
  ·refine ⟨_,rfl,?_⟩
   simp only [show ((0:Int) != 0)=false from rfl,cond_false]
   exact fin f2 e
  refine ⟨_,rfl,?_⟩
  have b1:=((hv.ks.view.cls hk).bnd hv.ks.wf.h).1
  rw [bf,ae,if_pos (by omega),bj,ae]
  refine aA (fun h6=>?_) fun h6=>fin f2 (e6 h6)
  have e5:=e5 h6
  subst e5
  have b3:=(hv.ks.view.sel hk).bnd hv.ks.wf.h
  have b4:=(hv.ks.view.met hk).bnd hv.ks.wf.h
  have e3:eY s.h (v.cls[k]).oop 3=(v.cls[k]).selA:=by
   unfold eY;rw [hv.ks.c3 hk,cK b3.1 b3.2.1]
  have e4:eY s.h (v.cls[k]).oop 4=(v.cls[k]).metA:=by
   unfold eY;rw [hv.ks.c4 hk,cK b4.1 b4.2.1]
  have f02:=f0.trans f2
  refine jf (hK.nil f02) (hc.nil f02) ⟨_,rfl,?_⟩
  rw [e3]
  refine od (hK.nil f02) (hc.nil f02) fun a l c G H3 ho f3 hG=>⟨_,_,_,rfl,?_⟩
  rw [(hv.ks.view.sel hk).kwords] at ho
  have hl:l=(v.cls[k]).sels.length:=by have:=ho.len;simpa [aq] using this.symm
  have f03:=f02.trans f3
  have leq:=kW hv.ks (4*x+2) hk
  obtain ⟨ns,hdc⟩:=hd _ (List.getElem_mem hk)
  have hsl:(v.cls[k]).sels.length=ns.length:=by rw [hdc.sel];simp
  have hmost:=hdc.most
  refine ⟨fun w H'=>∃ j:Nat,w=[.int .i64 j]∧j<=l∧iv (4*x+2) (v.cls[k]).sels 0=iv (4*x+2) ((v.cls[k]).sels.drop j) j∧H'=H3,fun w _=>match w with
   | [.int _ j]=>(l-j).toNat
   | _=>0,⟨0,rfl,Nat.zero_le _,rfl,rfl⟩,?_⟩
  rintro w H4 ⟨j,rfl,hj,hsel,rfl⟩ _
  refine ⟨_,rfl,?_⟩
  rw [ae]
  refine aA (fun hlt=>?_) fun hlt=>?_
  ·have hjl:j<(v.cls[k]).sels.length:=by omega
   obtain ⟨p,rfl,hcell,_⟩:=ho.rd.int (i:=(j:Int)) (by omega) (by omega)
   have eg:((v.cls[k]).sels).getD j 0=(v.cls[k]).sels[j]:=by simp [hjl]
   rw [Int.toNat_natCast,eg] at hcell
   rw [qp hjl] at hsel
   refine ⟨⟨by omega,hlt⟩,_,rfl,_,by rw [Int.toNat_natCast,Nat.mul_one];exact hcell,?_⟩
   rw [bj,ae]
   refine aA (fun hw=>?_) fun hw=>?_
   ·rw [if_pos hw] at hsel
    rw [hsel] at leq
    simp only at leq
    have hml:j<(v.cls[k]).mets.length:=by rw [hdc.len];omega
    obtain ⟨o',eo,o1,o2⟩:=hdc.obj _ (List.getElem_mem hml)
    have egm:((v.cls[k]).mets).getD j 0=4*o':=by rw [List.getD_eq_getElem?_getD,List.getElem?_eq_getElem hml,←eo];rfl
    rw [egm,cK o1 o2] at leq
    refine ⟨_,rfl,_,hc.nil f03,eL (hK.nil f03) fun sb F1 _ hS _ _ _=>⟨_,rfl,cU hS fun hb F2 hR _ _=>⟨_,rfl,?_⟩⟩⟩
    refine jf (hK.nil f03) (hc.nil f03) ⟨_,rfl,?_⟩
    rw [e4]
    refine si hR ?_
    rw [(hv.ks.view.met hk).at (by omega) (by omega)]
    have egt:((v.cls[k]).mets)[((j:Int)).toNat]'(by rw [Int.toNat_natCast];exact hml)=4*o':=by simp only [Int.toNat_natCast];exact eo
    rw [egt]
    refine ⟨_,_,rfl,mu (hK.nil f03).kinds ?_⟩
    unfold qD
    have hk3:cz (4*o')=3:=by have:=bG (4*o');omega
    rw [if_pos hk3]
    simp only [show 4*o' / 4=o' by omega]
    refine ⟨_,_,rfl,?_⟩
    exact fin (r:=(o',(v.cls[k]).oop)) (f2.trans f3) (by rw [←e];exact leq)
   ·rw [if_neg hw] at hsel
    have e1:IntKind.wrap .i64 ((j:Int)+1)=((j+1:Nat):Int):=by rw [am (by omega) (by omega)];omega
    rw [e1]
    exact ⟨⟨j+1,rfl,by omega,hsel,rfl⟩,by simp;omega⟩
  ·have hjl:j=(v.cls[k]).sels.length:=by omega
   rw [hjl,List.drop_length] at hsel
   rw [hsel] at leq
   simp only [iv] at leq
   refine ⟨_,rfl,_,hc.nil f03,yc (hK.nil f03) hv fun H5 f5=>?_⟩
   rw [hv.ks.idx hk]
   refine ⟨_,_,rfl,?_⟩
   have f25:=(f2.trans f3).trans f5
   rcases hv.ks.upI hk with ⟨_,s0,u0⟩ | ⟨j',hj',hjk,s1,_,u1⟩
   ·rw [u0] at leq
    rw [s0]
    refine ⟨⟨f25,.inr ⟨rfl,by rw [←e];exact leq⟩⟩,?_⟩
    simp only [nv hv.ks,hv.ks.idx hk]
    omega
   ·rw [u1] at leq
    rw [s1]
    refine ⟨⟨f25,.inl ⟨j',hj',rfl,by rw [←e];exact leq.symm⟩⟩,?_⟩
    simp only [hv.ks.idx hj',hv.ks.idx hk]
    omega
 by_cases hx:0<=x∧x<4096
 ·refine vK hx ⟨_,_,rfl,?_⟩
  exact main (fun _=>rfl) fun hn=>absurd rfl hn
 ·refine Ex (by omega) ⟨_,_,rfl,?_⟩
  exact main (fun hn=>absurd hn (by decide)) fun _=>xt hd (by omega) i
end
def dX (v:KV) (es:List ((Int × Int) × Value)):Prop:=∀ p∈es,∃ i,dZ v p.1.1=some i∧p.2=fH (cF v (4*p.1.2+2) i)
theorem zK {es:List ((Int × Int) × Value)}{k:Int × Int}{x:Value} (h:fD es k=some x):(k,x)∈es:=by
 induction es with
 | nil=>cases h
 | cons p l ih =>
  unfold fD at h
  by_cases hk:k=p.1
  ·rw [if_pos hk] at h;cases h;subst hk;simp
  ·rw [if_neg hk] at h;exact List.mem_cons_of_mem _ (ih h)
section
variable {H H':aj}{bb b mb sb:Nat}{F F':ay}{s s':SP}{t t':TB}{v:KV}{es:List ((Int × Int) × Value)}{hits:Int}{Q:QT}
theorem pW (hB:PB H bb b F mb s t es hits) (hv:KAll s t v) (hd:KD v t) (hes:dX v es){o x:Int}
  (h1:∀ i (hi:i<v.cls.length),dZ v o=some i->fD es (o,x)≠none->∀ H',PB H' bb b F mb s t es (IntKind.wrap .i64 (hits+1))->Fr (bb :: mb :: F) H H'->Q (mP (cF v (4*x+2) i)) H')
  (h2:∀ i (hi:i<v.cls.length),dZ v o=some i->fD es (o,x)=none->∀ H',PB H' bb b F mb s t (es++[((o,x),fH (cF v (4*x+2) i))]) hits->Fr (bb :: mb :: F) H H'->Q (mP (cF v (4*x+2) i)) H')
  (h3:dZ v o=none->∀ H',Fr [] H H'->Q (.tuple #[.int .i64 0,.int .i64 0]) H'):ah PP ue #[.pointer (some ⟨bb,0,none⟩),.int .i64 o,.int .i64 x] Q H:=by
 have hmt:PP.underlying 194=some (.map 268 265):=by kernel_rfl
 have hpk : oM PP 268 := ⟨by kernel_rfl, { name := "class", type := 3, offset := 0, embedded := false, tag := "", pkgPath := "kiln/dict", byteOffset := 0 }, { name := "symbol", type := 3, offset := 1, embedded := false, tag := "", pkgPath := "kiln/dict", byteOffset := 8 }, by kernel_rfl, by decide, by decide, rfl, rfl, by kernel_rfl, by kernel_rfl⟩
 apply vC
 unfold GX A0 iV wW pV cS;dsimp only [shH]
 refine kx hB.kp ⟨_,rfl,?_⟩
 simp only [Bool.not_true,cond_false]
 refine ⟨_,rfl,_,hB.kp,rW hB.k hv fun H1 f1=>?_⟩
 cases hp:dZ v o with
 | none=>exact ⟨_,_,rfl,h3 hp H1 f1⟩
 | some i =>
 obtain ⟨hi,ho⟩:=cd hp
 refine ⟨_,_,rfl,?_⟩
 simp only [show ((0:Int) != 0)=false from rfl,cond_false]
 have hB1:=hB.nil f1
 refine ⟨_,rfl,_,by rw [ao];exact hB1.blk.cell 1,?_⟩
 have z:(PP.info? 265).bind (·.zero)=some (fH (0,0)):=by kernel_rfl
 obtain ⟨ti,z1,z2⟩:=Option.bind_eq_some_iff.1 z
 refine sK (k:=(o,x)) hmt hpk z1 z2 hB1.map ?_
 cases hg:fD es (o,x) with
 | some val =>
  obtain ⟨i',e1,e2⟩:=hes _ (zK hg)
  simp only at e1 e2
  rw [hp] at e1
  cases e1
  subst e2
  refine ⟨_,_,_,rfl,?_⟩
  rw [Hw]
  have fp:Fr [] H1 (H1.push (.cells #[.int .i64 (cF v (4*x+2) i).1,.int .i64 (cF v (4*x+2) i).2] 265)):=Fr.push _ _ _
  have bp:=bA.new H1 #[.int .i64 (cF v (4*x+2) i).1,.int .i64 (cF v (4*x+2) i).2] 265
  refine ⟨(GO (bA.new H1 _ _) (.int .i64 0) (.int .i64 0)).1,(GO (bA.new H1 _ _) _ (.int .i64 0)).2.1,?_⟩
  generalize (H1.push (.cells #[.int .i64 (cF v (4*x+2) i).1,.int .i64 (cF v (4*x+2) i).2] 265))=H2 at fp bp ⊢
  simp only [Option.isSome_some,cond_true]
  have hB2:=hB1.nil fp
  have nb:bb≠H1.size:=by have:=hB1.blk.lt;omega
  have b3:=hB2.blk.set 2 (.int .i64 (IntKind.wrap .i64 (hits+1)))
  have f3:Fr [bb] H2 (au H2 ⟨bb,2,none⟩ (.int .i64 (IntKind.wrap .i64 (hits+1)))):=Fr.set (by simp)
  have bp3:=bp.fr f3 (by simpa using fun e=>nb e.symm)
  have hB3:PB (au H2 ⟨bb,2,none⟩ (.int .i64 (IntKind.wrap .i64 (hits+1)))) bb b F mb s t es (IntKind.wrap .i64 (hits+1)):=⟨hB2.k.fr f3 (fun y hy hm=>by simp only [List.mem_singleton] at hm;subst hm;exact hB2.nb hy) (by simpa using hB2.gb),b3,hB2.map.fr f3 (by simpa using fun e=>hB2.ne e.symm),hB2.ne,hB2.nb,hB2.nm,hB2.gb,hB2.gm⟩
  refine ⟨_,rfl,_,by rw [ao];exact hB2.blk.cell 2,_,rfl,by rw [ao];exact hB2.blk.wr (by simp),?_⟩
  simp only [ao,Nat.zero_add]
  refine ⟨_,bp3.cell 0,_,bp3.cell 1,?_⟩
  exact h1 i hi hp (by rw [hg];simp) _ hB3 ((Fr.of_nil (f1.trans fp)).trans (f3.mono (by simp)))
 | none =>
  refine ⟨_,_,_,rfl,?_⟩
  rw [Hw]
  have fp:Fr [] H1 (H1.push (.cells #[.int .i64 0,.int .i64 0] 265)):=Fr.push _ _ _
  refine ⟨(GO (bA.new H1 _ _) (.int .i64 0) (.int .i64 0)).1,(GO (bA.new H1 _ _) _ (.int .i64 0)).2.1,?_⟩
  simp only [Option.isSome_none,cond_false]
  show ah PP yt _ _ (H1.push (.cells #[.int .i64 0,.int .i64 0] 265))
  generalize (H1.push (.cells #[.int .i64 0,.int .i64 0] 265))=H2 at fp ⊢
  have hB2:=hB1.nil fp
  rw [←ho]
  refine uH hB2.k hv hd hB2.kp hi fun H3 f3=>⟨_,_,rfl,?_⟩
  have hB3:=hB2.nil f3
  rw [Hw]
  refine ⟨(GO (bA.new H3 _ _) (.int .i64 0) (.int .i64 0)).1,(GO (bA.new H3 _ _) _ (.int .i64 0)).2.1,?_⟩
  have fq:Fr [] H3 (H3.push (.cells #[.int .i64 (cF v (4*x+2) i).1,.int .i64 (cF v (4*x+2) i).2] 265)):=Fr.push _ _ _
  have bq:=bA.new H3 #[.int .i64 (cF v (4*x+2) i).1,.int .i64 (cF v (4*x+2) i).2] 265
  generalize (H3.push (.cells #[.int .i64 (cF v (4*x+2) i).1,.int .i64 (cF v (4*x+2) i).2] 265))=H4 at fq bq ⊢
  have hB4:=hB3.nil fq
  have nm:mb≠H3.size:=by have:=hB3.map.lt;omega
  refine ⟨_,rfl,_,by rw [ao];exact hB4.blk.cell 1,_,bq.cell 0,_,by rw [ao];exact bq.cell 1,?_⟩
  rw [ho]
  refine te (k:=(o,x)) hmt hpk hB4.map hg fun H5 m5 f5=>⟨trivial,?_⟩
  have bq5:=bq.fr f5 (by simpa using fun e=>nm e.symm)
  refine ⟨_,bq5.cell 0,_,by rw [ao];exact bq5.cell 1,?_⟩
  have hB5:PB H5 bb b F mb s t (es++[((o,x),fH (cF v (4*x+2) i))]) hits:=⟨hB4.k.fr f5 (fun y hy hm=>by simp only [List.mem_singleton] at hm;subst hm;exact hB4.nm hy) (by simpa using hB4.gm),hB4.blk.fr f5 (by simpa using hB4.ne),m5,hB4.ne,hB4.nb,hB4.nm,hB4.gb,hB4.gm⟩
  exact h2 i hi hp hg _ hB5 ((Fr.of_nil (((f1.trans fp).trans f3).trans fq)).trans (f5.mono (by simp)))
theorem HO (hK:PK H b F s t) (h:∀ H',PB H' (H.size+1) b F H.size s t [] 0->Fr [] H H'->Q (.tuple #[.pointer (some ⟨H.size+1,0,none⟩),.int .i64 0]) H'):ah PP zn #[.pointer (some ⟨b,0,none⟩)] Q H:=by
 apply vT
 unfold EI iV pV
 simp only [Option.isNone_some,cond_false]
 have f1:Fr [] H (H.push (.map #[] 0)):=Fr.push _ _ _
 have e:(H.push (.map #[] 0)).size=H.size+1:=by simp
 have m1:=ky.new H
 have hlt:=hK.lt
 have hg:=hK.kinds.lt
 rw [e]
 generalize (H.push (.map #[] 0))=H1 at f1 e m1 ⊢
 have f2:Fr [] H1 (H1.push (.cells #[.pointer (some ⟨b,0,none⟩),.map (some H.size),.int .i64 0] 196)):=Fr.push _ _ _
 have b2:=bA.new H1 #[.pointer (some ⟨b,0,none⟩),.map (some H.size),.int .i64 0] 196
 rw [e] at b2
 exact h _ ⟨hK.nil (f1.trans f2),b2,m1.fr f2 (by simp),by omega,fun hm=>by have:=hlt _ hm;omega,fun hm=>by have:=hlt _ hm;omega,by omega,by omega⟩ (f1.trans f2)
end
section
variable {H H':aj}{rb b:Nat}{F F':ay}{s s':SP}{t t':TB}{v:KV}{Q:QT}
theorem jg (hK:RK H b F s t) (hv:KAll s t v) (hc:KP H rb b){o:Int}
  (h1:∀ i (hi:i<v.cls.length),dZ v o=some i->∀ a l c G a' l' c' G' H',bv 1 H' a l c (aq (v.cls[i]).sels) G->bv 1 H' a' l' c' (aq (v.cls[i]).mets) G'->Fr [] H H'->(∀ x∈G,H.size<=x)->(∀ x∈G',H.size<=x)->Q (.tuple #[.slice a l c,.slice a' l' c',.int .i64 0]) H')
  (h2:dZ v o=none->∀ H',Fr [] H H'->Q (.tuple #[.slice none 0 0,.slice none 0 0,.int .i64 130]) H'):ah PP Kd #[.pointer (some ⟨rb,0,none⟩),.int .i64 o] Q H:=by
 apply DO
 unfold Lu iV pV lV cS
 refine ⟨_,rfl,_,hc,r9 hK hv fun H1 f1=>?_⟩
 cases hp:dZ v o with
 | none=>exact ⟨_,_,rfl,h2 hp H1 f1⟩
 | some i =>
  refine ⟨_,_,rfl,?_⟩
  obtain ⟨hi,rfl⟩:=cd hp
  have b3:=(hv.ks.view.sel hi).bnd hv.ks.wf.h
  have b4:=(hv.ks.view.met hi).bnd hv.ks.wf.h
  have hK1:=hK.nil f1
  have hc1:=hc.nil f1
  simp only [show ((0:Int) != 0)=false from rfl,cond_false]
  refine ⟨_,rfl,_,hc1,_,rfl,_,hc1,_,rfl,_,hc1,_,rfl,_,hc1,fW hK1 ⟨_,rfl,⟨⟨hc1,trivial⟩,⟨hc1,trivial⟩,⟨hc1,trivial⟩,trivial⟩,?_⟩⟩
  rw [hv.ks.c3 hi]
  refine ch ⟨by omega,by omega⟩ ⟨_,rfl,⟨⟨hc1,trivial⟩,⟨hc1,trivial⟩,⟨hc1,trivial⟩,trivial⟩,?_⟩
  rw [bZ b3.1]
  refine ga hK1 fun a l c G H2 ho f2 hG=>⟨_,_,_,rfl,⟨⟨hc1.nil f2,trivial⟩,⟨hc1.nil f2,trivial⟩,trivial⟩,?_⟩
  have hK2:=hK1.nil f2
  have hc2:=hc1.nil f2
  refine fW hK2 ⟨_,rfl,⟨⟨hc2,trivial⟩,trivial⟩,?_⟩
  rw [hv.ks.c4 hi]
  refine ch ⟨by omega,by omega⟩ ⟨_,rfl,⟨⟨hc2,trivial⟩,trivial⟩,?_⟩
  rw [bZ b4.1]
  refine ga hK2 fun a' l' c' G' H3 ho' f3 hG'=>⟨_,_,_,rfl,trivial,?_⟩
  rw [(hv.ks.view.sel hi).kwords] at ho
  rw [(hv.ks.view.met hi).kwords] at ho'
  have f12:=f1.trans f2
  exact h1 i hi hp _ _ _ _ _ _ _ _ H3 (ho.fr f3 (by simp)) ho' (f12.trans f3) (fun x hx=>Nat.le_trans f1.1 (hG x hx)) fun x hx=>Nat.le_trans f12.1 (hG' x hx)
theorem vu (hK:RK H b F s t){n:Nat} (hn:n<t.texts.length) (h:Q (.string (tx t n)) H):ah PP tO #[.pointer (some ⟨b,0,none⟩),.int .i64 (bD n)] Q H:=by
 have h1:=hK.wft.len
 have h2:=hK.wft.m1
 refine qL hK ⟨by unfold bD;omega,by unfold bD;omega⟩ ?_
 rw [iY hK.wft hn];exact h
theorem rf (hK:RK H b F s t) (hv:KAll s t v) (hd:KD v t) (hc:KP H rb b){o:Int} (h1:∀ i (hi:i<v.cls.length),dZ v o=some i->∀ a l c G H',bv 1 H' a l c (aO (bM t v.cls[i])) G->Fr [] H H'->(∀ x∈G,H.size<=x)->Q (.slice a l c) H')
  (h2:dZ v o=none->∀ H',Fr [] H H'->Q (.slice none 0 0) H'):ah PP D6 #[.pointer (some ⟨rb,0,none⟩),.int .i64 o] Q H:=by
 have hs1:aF PP 37=some (1,16,some (.string ⟨#[]⟩)):=by kernel_rfl
 apply KY
 unfold Rz A0 iV wW pV sV lV cS
 refine jg hK hv hc (fun i hi hp a l c G a' l' c' G' H1 ho ho' f1 hG hG'=>⟨_,_,_,_,_,_,_,rfl,?_⟩) fun hp H1 f1=>⟨_,_,_,_,_,_,_,rfl,?_⟩
 ·obtain ⟨ns,hdc⟩:=hd _ (List.getElem_mem hi)
  have ht:=hdc.texts hv.names.wf
  have h1:=h1 i hi hp
  rw [ht] at h1
  rw [hdc.sel] at ho
  have hl:l=ns.length:=by have:=ho.len;simpa [aq] using this.symm
  have hmost:=hdc.most
  refine ⟨fun w H'=>∃(i:Nat) (a:Option Addr) (l' c:Nat) (G:ay),w=[.slice a l' c,.int .i64 i]∧i<=l∧bv 1 H' a l' c (aO ((ns.map (tx t)).take i)) G∧Fr [] H1 H'∧(∀ x∈G,H1.size<=x),fun w _=>match w with
   | [_,.int _ i]=>((l:Int)-i).toNat
   | _=>0,⟨0,none,0,0,[],rfl,Nat.zero_le _,by simpa [aO] using bv.nil 1 H1,Fr.refl _ _,by simp⟩,?_⟩
  rintro w H2 ⟨j,a2,l2,c2,G2,rfl,hj,ho2,f2,hG2⟩ _
  have hl2:l2=j:=by have:=ho2.len;simp only [aO,List.length_map,List.length_take] at this;omega
  refine ⟨_,_,_,_,rfl,?_⟩
  rw [ae]
  refine aA (fun hlt=>?_) fun hlt=>?_
  ·have hjl:j<ns.length:=by omega
   have htk:(ns.map (tx t)).take (j+1)=(ns.map (tx t)).take j++[tx t ns[j]]:=by
    rw [List.take_add_one,List.getElem?_eq_getElem (by simpa using hjl)];simp
   have e:IntKind.wrap .i64 ((j:Int)+1)=((j+1:Nat):Int):=by rw [am (by omega) (by omega)];omega
   obtain ⟨p,rfl,hcell,_⟩:=(ho.fr f2 (by simp)).rd.int (i:=(j:Int)) (by omega) (by omega)
   refine ⟨_,rfl,_,(hc.nil (f1.trans f2)),⟨by omega,hlt⟩,_,rfl,_,by rw [Nat.mul_one];exact hcell,?_⟩
   rw [Int.toNat_natCast]
   have e3:(ns.map bD).getD j 0=bD ns[j]:=by simp [hjl]
   rw [e3]
   refine vu (hK.nil (f1.trans f2)) (hdc.num _ (List.getElem_mem hjl)) ⟨_,rfl,trivial,trivial,?_⟩
   refine bg hs1 rfl (by kernel_rfl) ho2 rfl (by simp [cC]) (by omega) (by decide) (by decide) fun a' c' G3 H3 g1 g2 g3=>⟨_,_,_,rfl,trivial,?_⟩
   have hfr:=Up.fresh f2 g2 hG2
   rw [e]
   refine ⟨⟨j+1,a',l2+1,c',G3,rfl,by omega,?_,hfr.1,hfr.2⟩,by simp;omega⟩
   rw [htk,ce];exact g1
  ·rw [List.take_of_length_le (by simp;omega)] at ho2
   exact h1 _ _ _ _ H2 ho2 (f1.trans f2) fun x hx=>Nat.le_trans f1.1 (hG2 x hx)
 ·refine ⟨fun w H'=>w=[.slice none 0 0,.int .i64 0]∧H'=H1,fun _ _=>0,⟨rfl,rfl⟩,?_⟩
  rintro w H2 ⟨rfl,rfl⟩ _
  refine ⟨_,_,_,_,rfl,?_⟩
  rw [ae,if_neg (by omega)]
  exact h2 hp _ f1
theorem uk (hK:RK H b F s t) (hc:KP H rb b){a:Option Addr}{l c:Nat}{ns:List Nat} (hr:Rd 1 H a l (aq (ns.map bD))) (hn:∀ n∈ns,n<t.texts.length) (hsr:(ns.map (tx t)).Pairwise jn) (hlk:l<=1000000){x:ByteArray}
  (h:Q (.tuple #[.int .i64 (if x∈ns.map (tx t) then (bu (ns.map (tx t)) x:Int) else -1),.int .i64 (bu (ns.map (tx t)) x:Nat)]) H):ah PP E8 #[.pointer (some ⟨rb,0,none⟩),.slice a l c,.string x] Q H:=by
 have hl:l=ns.length:=by have:=hr.1;simpa [aq] using this.symm
 have hts:∀ i (hi:i<ns.length),(ns.map (tx t))[i]?=some (tx t ns[i]):=fun i hi=>by simp [hi]
 have hple:=kB (ns.map (tx t)) x
 rw [List.length_map] at hple
 apply A9
 unfold Ly iV wW pV sV cS
 refine ⟨fun w H'=>∃ j:Nat,w=[.int .i64 ((min j (bu (ns.map (tx t)) x):Nat):Int),.int .i64 j]∧j<=l∧(∀ k,k<j->(ns.map (tx t))[k]?≠some x)∧H'=H,fun w _=>match w with
  | [_,.int _ j]=>((l:Int)-j).toNat
  | _=>0,⟨0,by simp,Nat.zero_le _,fun k hk=>by omega,rfl⟩,?_⟩
 rintro w H1 ⟨j,rfl,hj,hno,rfl⟩ _
 refine ⟨_,_,rfl,?_⟩
 rw [ae]
 refine aA (fun hlt=>?_) fun hlt=>?_
 ·have hjl:j<ns.length:=by omega
  have e:IntKind.wrap .i64 ((j:Int)+1)=((j+1:Nat):Int):=by rw [am (by omega) (by omega)];omega
  obtain ⟨p,rfl,hcell,_⟩:=hr.int (i:=(j:Int)) (by omega) (by omega)
  refine ⟨_,rfl,_,hc,⟨by omega,hlt⟩,_,rfl,_,by rw [Nat.mul_one];exact hcell,?_⟩
  rw [Int.toNat_natCast]
  have e3:(ns.map bD).getD j 0=bD ns[j]:=by simp [hjl]
  rw [e3]
  refine vu hK (hn _ (List.getElem_mem hjl)) ⟨_,rfl,trivial,?_⟩
  rw [cL,ae]
  refine aA (fun heq=>?_) fun heq=>?_
  ·have hm:x∈ns.map (tx t):=by rw [←heq];exact List.mem_map.2 ⟨_,List.getElem_mem hjl,rfl⟩
   have hp:=(gL hsr).1 hm
   have:bu (ns.map (tx t)) x=j:=by
    have h1:=(List.getElem?_eq_some_iff.1 hp)
    obtain ⟨hpl,hpe⟩:=h1
    have h2:(ns.map (tx t))[j]'(by simpa using hjl)=x:=by simpa using heq
    exact (List.getElem_inj (pQ hsr)).1 (hpe.trans h2.symm)
   rw [if_pos hm,this] at h
   rw [this,Nat.min_self]
   exact h
  ·have e2:Op.bytesLess (tx t ns[j]).toList x.toList=decide (jn (tx t ns[j]) x):=by rw [Bool.eq_iff_iff,decide_eq_true_iff];exact Iff.rfl
   have hno':∀ k,k<j+1->(ns.map (tx t))[k]?≠some x:=fun k hk=>by
    rcases Nat.lt_or_ge k j with h1 | h1
    ·exact hno k h1
    ·have:k=j:=by omega
     subst this
     rw [hts _ hjl]
     simpa using heq
   rw [e2,ae,e]
   refine aA (fun hls=>?_) fun hls=>?_
   ·have hjp:j<bu (ns.map (tx t)) x:=by
     rcases Nat.lt_or_ge j (bu (ns.map (tx t)) x) with h1 | h1
     ·exact h1
     ·exact absurd hls (mR hsr h1 (hts _ hjl))
    have e4:IntKind.wrap .i64 (((min j (bu (ns.map (tx t)) x):Nat):Int)+1)=((min (j+1) (bu (ns.map (tx t)) x):Nat):Int):=by
     rw [am (by omega) (by omega)];omega
    rw [e4]
    exact ⟨⟨j+1,rfl,by omega,hno',rfl⟩,by simp;omega⟩
   ·have hjp:bu (ns.map (tx t)) x<=j:=by
     rcases Nat.lt_or_ge j (bu (ns.map (tx t)) x) with h1 | h1
     ·exact absurd (mV h1 (hts _ hjl)) hls
     ·exact h1
    have e4:min j (bu (ns.map (tx t)) x)=min (j+1) (bu (ns.map (tx t)) x):=by omega
    rw [e4]
    exact ⟨⟨j+1,rfl,by omega,hno',rfl⟩,by simp;omega⟩
 ·have hjl:j=ns.length:=by omega
  have hm:x∉ns.map (tx t):=fun hm=>by
   obtain ⟨k,hk,e⟩:=List.getElem_of_mem hm
   have hk':k<ns.length:=by simpa using hk
   exact hno k (by omega) (by rw [List.getElem?_eq_getElem hk,e])
  rw [if_neg hm] at h
  have e:min j (bu (ns.map (tx t)) x)=bu (ns.map (tx t)) x:=by omega
  rw [e]
  exact h
theorem NB (hK:RK H b F s t) (hv:KAll s t v) (hd:KD v t) (hc:KP H rb b){o:Int}{x:ByteArray} (h1:∀ i (hi:i<v.cls.length),dZ v o=some i->∀ H',Fr [] H H'->Q (mP (Lo t v.cls[i] x)) H')
  (h2:dZ v o=none->∀ H',Fr [] H H'->Q (.tuple #[.int .i64 0,.int .i64 130]) H'):ah PP yN #[.pointer (some ⟨rb,0,none⟩),.int .i64 o,.string x] Q H:=by
 apply CX
 unfold Nv iV pV sV lV cS
 refine jg hK hv hc (fun i hi hp a l c G a' l' c' G' H1 ho ho' f1 hG hG'=>⟨_,_,_,_,_,_,_,rfl,?_⟩) fun hp H1 f1=>⟨_,_,_,_,_,_,_,rfl,?_⟩
 ·obtain ⟨ns,hdc⟩:=hd _ (List.getElem_mem hi)
  have ht:=hdc.texts hv.names.wf
  have h1:=h1 i hi hp
  unfold Lo at h1
  rw [ht] at h1
  rw [hdc.sel] at ho
  have hl:l=ns.length:=by have:=ho.len;simpa [aq] using this.symm
  have hl':l'=ns.length:=by have:=ho'.len;rw [←hdc.len];simpa [aq] using this.symm
  have hmost:=hdc.most
  simp only [show ((0:Int) != 0)=false from rfl,cond_false]
  refine uk (hK.nil f1) (hc.nil f1) ho.rd hdc.num hdc.srt (by omega) ⟨_,_,rfl,?_⟩
  by_cases hm:x∈ns.map (tx t)
  ·rw [if_pos hm,ae,if_neg (by omega)]
   have hps:bu (ns.map (tx t)) x<ns.length:=by
    have:=(List.getElem?_eq_some_iff.1 ((gL hdc.srt).1 hm)).1
    simpa using this
   obtain ⟨p,rfl,hcell,_⟩:=ho'.rd.int (i:=((bu (ns.map (tx t)) x:Nat):Int)) (by omega) (by omega)
   refine ⟨⟨by omega,by omega⟩,_,rfl,_,by rw [Nat.mul_one];exact hcell,?_⟩
   rw [Int.toNat_natCast]
   have hml:bu (ns.map (tx t)) x<(v.cls[i]).mets.length:=by rw [hdc.len];exact hps
   obtain ⟨o',eo,o1,o2⟩:=hdc.obj _ (List.getElem_mem hml)
   have e:((v.cls[i]).mets).getD (bu (ns.map (tx t)) x) 0=4*o':=by rw [List.getD_eq_getElem?_getD,List.getElem?_eq_getElem hml,←eo];rfl
   have h1:=h1 _ f1
   rw [if_pos hm,e,cK o1 o2] at h1
   rw [e]
   refine ch ⟨by omega,by omega⟩ ⟨_,rfl,?_⟩
   rw [bZ o1]
   exact h1
  ·rw [if_neg hm,ae,if_pos (by omega)]
   have h1:=h1 _ f1
   rw [if_neg hm] at h1
   exact h1
 ·exact h2 hp _ f1
end
theorem mB {a1:Option Addr}{l1:Nat}{n2 n8:Int}{a10:Option Addr}{l10 c10:Nat}{H1 H2:aj}{w6:List Value}{I5:List Value->aj->Prop}{μ5:List Value->aj->Nat}{ws acc:List Int}{G:ay}
  (hr:Rd 1 H2 a1 l1 (aq ws)) (ho:bv 1 H2 a10 l10 c10 (aq acc) G) (hn:0<=n8) (hk:l10<1000000)
  (hnext:∀ a l c G' H',bv 1 H' a l c (aq (acc++if n8<(l1:Int)∧n8≠n2 then [ws.getD n8.toNat 0] else [])) G'->Up G H2 G' H'->I5 [.slice a l c,.int .i64 (IntKind.wrap .i64 (n8+1))] H'∧μ5 [.slice a l c,.int .i64 (IntKind.wrap .i64 (n8+1))] H'<μ5 w6 H1) :
  cond (decide (n8<(l1:Int))) (cond (n8 != n2) (((0:Int)<=n8∧n8<(l1:Int))∧∃ q11,a1=some q11∧∃ n12:Int,ac H2 (q11.add (Int.toNat n8*1))=some (.int .i64 n12)∧bk PP (Builtin.append_ #[108,108] 108 #[.slice a10 l10 c10,.slice (some (⟨H2.size,0,none⟩:Addr)) 1 1]) (fun v13 H3=>∃ a14:Option Addr,∃ l14:Nat,∃ c14:Nat,v13=.slice a14 l14 c14∧I5 [.slice a14 l14 c14,.int .i64 (IntKind.wrap .i64 (n8+1))] H3∧μ5 [.slice a14 l14 c14,.int .i64 (IntKind.wrap .i64 (n8+1))] H3<μ5 w6 H1) (H2.push (.cells #[.int .i64 n12] 36))) (I5 [.slice a10 l10 c10,.int .i64 (IntKind.wrap .i64 (n8+1))] H2∧μ5 [.slice a10 l10 c10,.int .i64 (IntKind.wrap .i64 (n8+1))] H2<μ5 w6 H1)) (I5 [.slice a10 l10 c10,.int .i64 (IntKind.wrap .i64 (n8+1))] H2∧μ5 [.slice a10 l10 c10,.int .i64 (IntKind.wrap .i64 (n8+1))] H2<μ5 w6 H1):=by
 have hs1:aF PP 108=some (1,8,some (.int .i64 0)):=by kernel_rfl
 have skip:¬ (n8<(l1:Int)∧n8≠n2)->I5 [.slice a10 l10 c10,.int .i64 (IntKind.wrap .i64 (n8+1))] H2∧μ5 [.slice a10 l10 c10,.int .i64 (IntKind.wrap .i64 (n8+1))] H2<μ5 w6 H1:=fun hc=>by
  have:=hnext a10 l10 c10 G H2
  rw [if_neg hc,List.append_nil] at this
  exact this ho (Up.refl _ _)
 rw [ae]
 refine aA (fun h1=>?_) fun h1=>skip (fun h=>h1 h.1)
 rw [bf,ae]
 refine aA (fun h2=>?_) fun h2=>skip (fun h=>h2 h.2)
 obtain ⟨p,rfl,hcell,_⟩:=hr.int (i:=n8) hn h1
 refine ⟨⟨hn,h1⟩,_,rfl,_,by rw [Nat.mul_one];exact hcell,?_⟩
 refine bg hs1 rfl (by kernel_rfl) ho rfl (by simp [cC]) (by omega) (by decide) (by decide) fun a' c' G3 H3 g1 g2 g3=>⟨_,_,_,rfl,?_⟩
 refine hnext _ _ _ G3 H3 ?_ g2
 rw [if_pos ⟨h1,h2⟩,bt];exact g1
def tl (ws:List Int) (i n w:Int):Nat->List Int
 | 0=>[]
 | k+1=>(tl ws i n w k++if (k:Int)=n∧w≠0 then [w] else [])++if (k:Int)<(ws.length:Int)∧(k:Int)≠i then [ws.getD k 0] else []
theorem HJ (ws:List Int) (i n w:Int) (k:Nat):(tl ws i n w k).length<=2*k:=by
 induction k with
 | zero=>simp [tl]
 | succ k ih =>
  simp only [tl,List.length_append]
  split <;> split <;> simp <;> omega
theorem ze {ws:List Int}{n:Nat}{w:Int} (hw:w≠0) (hn:n<=ws.length):tl ws (-1) n w (ws.length+1)=dU ws n w:=by
 have key:∀ k,k<=ws.length->tl ws (-1) n w k=if k<=n then ws.take k else ws.take n++w :: (ws.drop n).take (k-n):=by
  intro k
  induction k with
  | zero=>intro _;simp [tl]
  | succ k ih =>
   intro hk
   have hkl:k<ws.length:=by omega
   rw [tl,ih (by omega),if_pos (⟨by omega,by omega⟩:(k:Int)<(ws.length:Int)∧(k:Int)≠-1)]
   have e:ws.getD k 0=ws[k]:=by simp [hkl]
   rw [e]
   rcases Nat.lt_trichotomy k n with h | h | h
   ·rw [if_pos (by omega:k<=n),if_neg (by omega:¬ ((k:Int)=n∧w≠0)),if_pos (by omega:k+1<=n),List.append_nil,List.take_add_one,List.getElem?_eq_getElem hkl]
    rfl
   ·subst h
    rw [if_pos (Nat.le_refl k),if_pos (⟨rfl,hw⟩:(k:Int)=k∧w≠0),if_neg (by omega:¬ k+1<=k)]
    have e2:k+1-k=1:=by omega
    rw [e2,List.drop_eq_getElem_cons hkl]
    simp only [List.take_succ_cons,List.take_zero,List.append_assoc,List.cons_append,List.nil_append]
   ·rw [if_neg (by omega:¬ k<=n),if_neg (by omega:¬ ((k:Int)=n∧w≠0)),if_neg (by omega:¬ k+1<=n)]
    have e2:k+1-n=(k-n)+1:=by omega
    rw [e2,List.take_add_one,List.getElem?_drop,show n+(k-n)=k by omega,List.getElem?_eq_getElem hkl]
    simp
 rw [tl,key _ (Nat.le_refl _),if_neg (by omega:¬ ((ws.length:Int)<(ws.length:Int)∧(ws.length:Int)≠-1)),List.append_nil]
 unfold dU
 rcases Nat.lt_or_ge n ws.length with h | h
 ·rw [if_neg (by omega:¬ ws.length<=n),if_neg (by omega:¬ ((ws.length:Int)=n∧w≠0)),List.append_nil,List.take_of_length_le (l:=ws.drop n) (by simp)]
 ·have:n=ws.length:=by omega
  subst this
  rw [if_pos (Nat.le_refl ws.length),if_pos (⟨rfl,hw⟩:(ws.length:Int)=(ws.length:Nat)∧w≠0)]
  simp
theorem yW {ws:List Int}{i:Nat} (hi:i<ws.length):tl ws i (-1) 0 (ws.length+1)=ws.eraseIdx i:=by
 have key:∀ k,k<=ws.length->tl ws i (-1) 0 k=if k<=i then ws.take k else ws.take i++(ws.drop (i+1)).take (k-(i+1)):=by
  intro k
  induction k with
  | zero=>intro _;simp [tl]
  | succ k ih =>
   intro hk
   have hkl:k<ws.length:=by omega
   rw [tl,ih (by omega),if_neg (by omega:¬ ((k:Int)=-1∧(0:Int)≠0)),List.append_nil]
   have e:ws.getD k 0=ws[k]:=by simp [hkl]
   rcases Nat.lt_trichotomy k i with h | h | h
   ·rw [if_pos (by omega:k<=i),if_pos (by omega:(k:Int)<(ws.length:Int)∧(k:Int)≠i),if_pos (by omega:k+1<=i),e,List.take_add_one,List.getElem?_eq_getElem hkl]
    rfl
   ·subst h
    rw [if_pos (Nat.le_refl k),if_neg (by omega:¬ ((k:Int)<(ws.length:Int)∧(k:Int)≠(k:Nat))),if_neg (by omega:¬ k+1<=k)]
    simp
   ·rw [if_neg (by omega:¬ k<=i),if_pos (by omega:(k:Int)<(ws.length:Int)∧(k:Int)≠i),if_neg (by omega:¬ k+1<=i),e]
    have e2:k+1-(i+1)=(k-(i+1))+1:=by omega
    rw [e2,List.take_add_one,List.getElem?_drop,show i+1+(k-(i+1))=k by omega,List.getElem?_eq_getElem hkl]
    simp
 rw [tl,key _ (Nat.le_refl _),if_neg (by omega:¬ ((ws.length:Int)<(ws.length:Int)∧(ws.length:Int)≠i)),if_neg (by omega:¬ ((ws.length:Int)=-1∧(0:Int)≠0)),List.append_nil,List.append_nil,if_neg (by omega:¬ ws.length<=i),List.eraseIdx_eq_take_drop_succ,List.take_of_length_le (l:=ws.drop (i+1)) (by simp)]
section
variable {H H':aj}{Q:QT}
theorem kA {a:Option Addr}{l c:Nat}{ws:List Int} (hr:Rd 1 H a l (aq ws)) (hout:fQ H a l []) (hlk:l<=100000){i n w:Int}
  (h:∀ a' l' c' G H',bv 1 H' a' l' c' (aq (tl ws i n w (ws.length+1))) G->Fr [] H H'->(∀ x∈G,H.size<=x)->Q (.slice a' l' c') H'):ah PP HL #[.slice a l c,.int .i64 i,.int .i64 n,.int .i64 w] Q H:=by
 have hs1:aF PP 108=some (1,8,some (.int .i64 0)):=by kernel_rfl
 have hl:l=ws.length:=by have:=hr.1;simpa [aq] using this.symm
 apply zT
 unfold Px A0 iV wW lV
 refine ⟨fun v H'=>∃(k:Nat) (a':Option Addr) (l' c':Nat) (G:ay),v=[.slice a' l' c',.int .i64 k]∧k<=l+1∧bv 1 H' a' l' c' (aq (tl ws i n w k)) G∧Fr [] H H'∧∀ x∈G,H.size<=x,fun v _=>match v with
  | [_,.int _ k]=>((l:Int)+1-k).toNat
  | _=>0,⟨0,none,0,0,[],rfl,Nat.zero_le _,by simpa [aq,tl] using bv.nil 1 H,Fr.refl _ _,by simp⟩,?_⟩
 rintro v H1 ⟨k,a',l',c',G,rfl,hk,ho,f1,hG⟩ _
 have hlen:=ho.len
 have htl:=HJ ws i n w k
 simp only [aq,List.length_map,Nat.mul_one] at hlen
 refine ⟨_,_,_,_,rfl,?_⟩
 rw [ae]
 refine aA (fun hle=>?_) fun hle=>?_
 ·have e:IntKind.wrap .i64 ((k:Int)+1)=((k+1:Nat):Int):=by rw [am (by omega) (by omega)];omega
  have next:∀ {a2 l2 c2 G2 H2},bv 1 H2 a2 l2 c2 (aq (tl ws i n w (k+1))) G2->Fr [] H H2->(∀ x∈G2,H.size<=x)->(∃(k':Nat) (a':Option Addr) (l' c':Nat) (G:ay),[Value.slice a2 l2 c2,.int .i64 (IntKind.wrap .i64 ((k:Int)+1))]=[.slice a' l' c',.int .i64 k']∧k'<=l+1∧bv 1 H2 a' l' c' (aq (tl ws i n w k')) G∧Fr [] H H2∧∀ x∈G,H.size<=x) ∧
    (match [Value.slice a2 l2 c2,.int .i64 (IntKind.wrap .i64 ((k:Int)+1))] with
     | [_,.int _ k]=>((l:Int)+1-k).toNat
     | _=>0)<(match [Value.slice a' l' c',.int .i64 (k:Int)] with
     | [_,.int _ k]=>((l:Int)+1-k).toNat
     | _=>0):=fun {a2 l2 c2 G2 H2} o2 f2 g2=>by
   rw [e]
   exact ⟨⟨k+1,a2,l2,c2,G2,rfl,by omega,o2,f2,g2⟩,by simp;omega⟩
  have tail0:¬ ((k:Int)=n∧w≠0)->_:=fun hc=>mB (H1:=H1) (I5:=fun v H'=>∃(k:Nat) (a':Option Addr) (l' c':Nat) (G:ay),v=[.slice a' l' c',.int .i64 k]∧k<=l+1∧bv 1 H' a' l' c' (aq (tl ws i n w k)) G∧Fr [] H H'∧∀ x∈G,H.size<=x) (μ5:=fun v _=>match v with
   | [_,.int _ k]=>((l:Int)+1-k).toNat
   | _=>0) (w6:=[.slice a' l' c',.int .i64 k]) (eC hout f1 hr) ho (n2:=i) (n8:=(k:Int)) (by omega) (by omega) fun a2 l2 c2 G2 H2 o2 u2=>by
    have hfr:=Up.fresh f1 u2 hG
    refine next (G2:=G2) ?_ hfr.1 hfr.2
    rw [tl,if_neg hc,List.append_nil,←hl]
    rw [Int.toNat_natCast] at o2
    exact o2
  rw [bj,ae]
  refine aA (fun hn=>?_) fun hn=>tail0 (fun h=>hn h.1)
  rw [bf,ae]
  refine aA (fun hw=>?_) fun hw=>tail0 (fun h=>hw h.2)
  refine bg hs1 rfl (by kernel_rfl) ho rfl (by simp [cC]) (by omega) (by decide) (by decide) fun a2 c2 G2 H2 g1 g2 g3=>⟨_,_,_,rfl,?_⟩
  have hfr:=Up.fresh f1 g2 hG
  refine mB (H1:=H1) (n2:=i) (n8:=(k:Int)) (acc:=tl ws i n w k++[w]) (I5:=fun v H'=>∃(k:Nat) (a':Option Addr) (l' c':Nat) (G:ay),v=[.slice a' l' c',.int .i64 k]∧k<=l+1∧bv 1 H' a' l' c' (aq (tl ws i n w k)) G∧Fr [] H H'∧∀ x∈G,H.size<=x) (μ5:=fun v _=>match v with
   | [_,.int _ k]=>((l:Int)+1-k).toNat
   | _=>0) (w6:=[.slice a' l' c',.int .i64 k]) (eC hout hfr.1 hr) (by rw [bt];exact g1) (by omega) (by omega) fun a3 l3 c3 G3 H3 o3 u3=>?_
  have hfr3:=Up.fresh hfr.1 u3 hfr.2
  refine next (G2:=G3) ?_ hfr3.1 hfr3.2
  rw [tl,if_pos ⟨hn,hw⟩,←hl]
  rw [Int.toNat_natCast] at o3
  exact o3
 ·have:k=ws.length+1:=by omega
  subst this
  exact h _ _ _ _ H1 ho f1 hG
end
def gt (l:List (Int × Int)):List Value:=l.flatMap fun p=>[.int .i64 p.1,.int .i64 p.2]
structure RBk (H:aj) (rb b:Nat) (F G:ay) (s:SP) (t:TB) (seen:List (Int × Int)) (cnt:Int):Prop where
 k:RK H b F s t
 blk:∃ a l c,bA H rb #[.pointer (some ⟨b,0,none⟩),.slice a l c,.int .i64 cnt]∧bv 2 H a l c (gt seen) G
 nb:rb∉F
 ng:rb∉G
 dis:bi G F
section
variable {H H':aj}{rb b:Nat}{F F' G:ay}{s s':SP}{t t':TB}{v:KV}{seen:List (Int × Int)}{cnt:Int}{Q:QT}
theorem RBk.up (h:RBk H rb b F G s t seen cnt) (hK:RK H' b F' s' t') (hu:Up F H F' H'):RBk H' rb b F' G s' t' seen cnt:=by
 obtain ⟨k,⟨a,l,c,hB,ho⟩,nb,ng,dis⟩:=h
 refine ⟨hK,⟨a,l,c,hB.fr hu.1 nb,ho.fr hu.1 dis⟩,Up.out hu nb hB.lt,ng,fun x hx hm=>?_⟩
 rcases hu.2 x hm with h1 | h1
 ·exact dis x hx h1
 ·have:=ho.lt x hx;omega
theorem RBk.nil (h:RBk H rb b F G s t seen cnt) (f:Fr [] H H'):RBk H' rb b F G s t seen cnt:=h.up (h.k.nil f) (Up.of_nil f)
theorem RBk.kp (h:RBk H rb b F G s t seen cnt):KP H rb b:=by obtain ⟨a,l,c,hB,_⟩:=h.blk;exact hB.cell 0
theorem RBk.lt (h:RBk H rb b F G s t seen cnt):∀ x∈rb :: (G++F),x<H.size:=fun x hx=>by
 obtain ⟨a,l,c,hB,ho⟩:=h.blk
 simp only [List.mem_cons,List.mem_append] at hx
 rcases hx with rfl | hx | hx
 ·exact hB.lt
 ·exact ho.lt x hx
 ·exact h.k.lt x hx
theorem RBk.fr (h:RBk H rb b F G s t seen cnt){G0:ay} (f:Fr G0 H H') (hd:bi (rb :: (G++F)) G0):RBk H' rb b F G s t seen cnt:=by
 obtain ⟨k,⟨a,l,c,hB,ho⟩,nb,ng,dis⟩:=h
 exact ⟨k.fr f (hd.mono (fun x hx=>by simp [hx]) fun _ h=>h),⟨a,l,c,hB.fr f (hd rb (by simp)),ho.fr f fun x hx=>hd x (by simp [hx])⟩,nb,ng,dis⟩
theorem RBk.fin {G':ay} (hu:Up F H F' H') (hG:∀ x∈G',x∈G∨H.size<=x):Up (rb :: (G++F)) H (rb :: (G'++F')) H':=⟨hu.1.mono fun x hx=>by simp [hx],fun x hx=>by
 simp only [List.mem_cons,List.mem_append] at hx ⊢
 rcases hx with rfl | hx | hx
 ·exact .inl (.inl rfl)
 ·exact (hG x hx).imp (fun h=>.inr (.inl h)) id
 ·exact (hu.2 x hx).imp (fun h=>.inr (.inr h)) id⟩
theorem RBk.clear (h:RBk H rb b F G s t seen cnt):Wr H ((⟨rb,0,none⟩:Addr).add 1)∧RBk (au H ((⟨rb,0,none⟩:Addr).add 1) (.slice none 0 0)) rb b F [] s t [] cnt∧Fr [rb] H (au H ((⟨rb,0,none⟩:Addr).add 1) (.slice none 0 0)):=by
 obtain ⟨k,⟨a,l,c,hB,ho⟩,nb,ng,dis⟩:=h
 have hf:Fr [rb] H (au H ((⟨rb,0,none⟩:Addr).add 1) (.slice none 0 0)):=by rw [ao];exact Fr.set (by simp)
 have hB':=hB.set 1 (.slice none 0 0)
 rw [ao] at hf ⊢
 exact ⟨hB.wr (by simp),⟨k.fr hf (fun x hx hm=>by simp only [List.mem_singleton] at hm;subst hm;exact nb hx),⟨none,0,0,hB',bv.nil 2 _⟩,nb,by simp,bi.nil_left _⟩,hf⟩
def lP (n:Int) (seen:List (Int × Int)):List (Int × Int):=if n=0 then [] else seen
theorem iK {n:Int} (h:n≠0) (l:List (Int × Int)):lP n l=l:=by unfold lP;rw [if_neg h]
theorem qh (l:List (Int × Int)):lP 0 l=[]:=rfl
end
section
variable {H H':aj}{rb b:Nat}{F F' G:ay}{s s':SP}{t t':TB}{v:KV}{seen:List (Int × Int)}{cnt:Int}{Q:QT}
theorem Cu {tb:Nat}{F2:ay} (hT:pZ H tb F2 t){x:ByteArray} (h:Q (qG t x) H):ah PP GH #[.pointer (some ⟨tb,0,none⟩),.string x] Q H:=by
 apply BV
 unfold My iV pV sV cS
 simp only [Option.isNone_some,cond_false]
 refine Eo hT ⟨_,rfl,?_⟩
 unfold qG at h
 cases hn:bV t.texts x with
 | none =>
  rw [hn] at h
  rw [ae,if_pos (by decide)]
  exact h
 | some n =>
  rw [hn] at h
  rw [ae,if_neg (by simp only;omega)]
  exact h
theorem yG (hB:RBk H rb b F G s t seen cnt){c:Int}{l m:List Int}{a3 a4:Option Addr}{l3 c3 l4 c4:Nat} (h3:Rd 1 H a3 l3 (aq l)) (o3:mM H a3 F) (k3:l3<=1000000) (h4:Rd 1 H a4 l4 (aq m)) (o4:mM H a4 F) (k4:l4<=1000000){RA RB:(Int × Int) × SP} (eA:s.array l=RA) (eB:RA.2.array m=RB)
  (bad1:RA.1.2≠0->∀ H' F',RBk H' rb b F' G RA.2 t seen cnt->Up F H F' H'->Q (.int .i64 RA.1.2) H')
  (bad2:RA.1.2=0->RB.1.2≠0->∀ H' F',RBk H' rb b F' G RB.2 t seen cnt->Up F H F' H'->Q (.int .i64 RB.1.2) H')
  (good:RA.1.2=0->RB.1.2=0->∀ H' F',RBk H' rb b F' [] { RB.2 with h:=((RB.2.h.put c 3 RA.1.1).2.put c 4 RB.1.1).2 } t [] cnt->Up (rb :: F) H (rb :: F') H'->Q (.int .i64 0) H') :
  ah PP E4 #[.pointer (some ⟨rb,0,none⟩),.int .i64 c,.slice a3 l3 c3,.slice a4 l4 c4] Q H:=by
 apply Ch
 unfold MQ iV pV lV cS
 refine ⟨_,rfl,_,hB.kp,li hB.k h3 o3 (by omega) fun H1 F1 hK1 u1=>⟨_,_,rfl,?_⟩⟩
 rw [eA] at hK1 ⊢
 have hB1:=hB.up hK1 u1
 rw [bf,ae]
 refine aA (fun hz=>bad1 hz _ _ hB1 u1) fun hz=>?_
 have hz1:RA.1.2=0:=Classical.byContradiction hz
 refine ⟨_,rfl,_,hB1.kp,li hK1 (o4.rd u1 h4) (o4.up u1) (by omega) fun H2 F2 hK2 u2=>⟨_,_,rfl,?_⟩⟩
 rw [eB] at hK2 ⊢
 have hB2:=hB1.up hK2 u2
 rw [bf,ae]
 refine aA (fun hz=>bad2 hz1 hz _ _ hB2 (u1.trans u2)) fun hz=>?_
 have hz2:RB.1.2=0:=Classical.byContradiction hz
 obtain ⟨sb,hb,F3,hc3,h03,hR3,hsub3,_,hup3⟩:=hK2.hp
 refine ⟨_,rfl,_,hB2.kp,_,rfl,_,hc3,_,rfl,_,h03,ku hR3 fun H4 hR4 f4=>⟨_,rfl,?_⟩⟩
 obtain ⟨F4,hK4,u4⟩:=hup3 H4 F3 _ hR4 ⟨f4,fun _ h=>.inl h⟩
 have hB4:=hB2.up hK4 u4
 obtain ⟨sb5,hb5,F5,hc5,h05,hR5,hsub5,_,hup5⟩:=hK4.hp
 refine ⟨_,rfl,_,hB4.kp,_,rfl,_,hc5,_,rfl,_,h05,ku hR5 fun H6 hR6 f6=>⟨_,rfl,?_⟩⟩
 obtain ⟨F6,hK6,u6⟩:=hup5 H6 F5 _ hR6 ⟨f6,fun _ h=>.inl h⟩
 have hB6:=hB4.up hK6 u6
 obtain ⟨w7,hB7,f7⟩:=hB6.clear
 refine ⟨_,rfl,w7,?_⟩
 have u:=((u1.trans u2).trans u4).trans u6
 exact good hz1 hz2 _ F6 hB7 ((Up.cons u).trans ⟨f7.mono (by simp),fun _ h=>.inl h⟩)
theorem rK {H3:aj} (hB:RBk H3 rb b F G s t seen cnt){n21:Int} (hq:∀ H6 F6,RBk H6 rb b F6 G { s with stack:=[] } t seen cnt->Up F H3 F6 H6->Q (.int .i64 n21) H6):∃ q22,(some ⟨rb,0,none⟩:Option Addr)=some q22∧∃ p23:Option Addr,ac H3 q22=some (.pointer p23)∧∃ q24,p23=some q24∧∃ p25:Option Addr,ac H3 q24=some (.pointer p25)∧∃ q26,(some ⟨rb,0,none⟩:Option Addr)=some q26∧∃ p27:Option Addr,ac H3 q26=some (.pointer p27)∧∃ q28,p27=some q28∧∃ p29:Option Addr,ac H3 q28=some (.pointer p29)∧∃ q30,p29=some q30∧∃ a31:Option Addr,∃ l31:Nat,∃ c31:Nat,ac H3 (q30.add 2)=some (.slice a31 l31 c31)∧ah PP 218 #[.pointer p25,.int .i64 (IntKind.wrap .i64 ((l31:Int)-((0:Nat):Int)))] (fun v32 H4=>∃ n33:Int,v32=.int .i64 n33∧True∧Q (.int .i64 n21) H4) H3:=by
 obtain ⟨sb,F1,hc,hS,hsub,_,hup⟩:=hB.k.sp
 have hS':=hS
 obtain ⟨_,as_,ls_,cs_,_,F4,_,_,_,_,_,_,_,_,hBs,_,hO,_⟩:=hS'
 have hcS:ac H3 ⟨sb,2,none⟩=some (.slice as_ ls_ cs_):=hBs.cell 2
 have hl:ls_=s.stack.length:=by have:=hO.len;simpa [aq] using this.symm
 have hm:=hS.wf.many
 subst hl
 refine ⟨_,rfl,_,hB.kp,_,rfl,_,hc,_,rfl,_,hB.kp,_,rfl,_,hc,_,rfl,_,_,_,by rw [ao];exact hcS,?_⟩
 rw [am (by omega) (by omega)]
 refine sW hS fun H6 F6 hS6 u6=>⟨_,rfl,trivial,?_⟩
 rw [show ((0:Nat):Int)=0 from rfl,kM rfl] at hS6
 obtain ⟨F',hK6,hu6⟩:=hup H6 F6 _ hS6 u6
 exact hq H6 F' (hB.up hK6 hu6) hu6
theorem uO (hB:RBk H rb b F G s t seen cnt) (hv:KAll s t v){c:Int}{kp l m:List Int}{w:Int} (hw:kp=if w≠0 then [w] else []) (hkp:∀ w∈kp,dG w)
  {a3 a4:Option Addr}{l3 c3 l4 c4:Nat} (h3:Rd 1 H a3 l3 (aq l)) (o3:mM H a3 F) (k3:l3<=1000000) (h4:Rd 1 H a4 l4 (aq m)) (o4:mM H a4 F) (k4:l4<=1000000)
  (h:∀ H' F' G',RBk H' rb b F' G' (de s c kp l m).2 t (lP (de s c kp l m).1 seen) cnt->Up (rb :: (G++F)) H (rb :: (G'++F')) H'->Q (.int .i64 (de s c kp l m).1) H') :
  ah PP HE #[.pointer (some ⟨rb,0,none⟩),.int .i64 c,.slice a3 l3 c3,.slice a4 l4 c4,.int .i64 w] Q H:=by
 obtain ⟨hk,hn,hst⟩:=hv
 have hk1:kp.length<=1:=by rw [hw];split <;> simp
 obtain ⟨ek,hk0⟩:=kQ hk hst hkp hk1
 unfold de at h
 rw [ek] at h
 simp only at h
 generalize hRA:SP.array { s with stack:=kp } l=RA at h
 generalize hRB:SP.array RA.2 m=RB at h
 have bad1:RA.1.2≠0->∀ H' F',RBk H' rb b F' G { RA.2 with stack:=[] } t seen cnt->Up F H F' H'->Q (.int .i64 RA.1.2) H':=fun hz H' F' hP hu=>by
  have:=h H' F' G
  rw [if_pos hz] at this
  exact this (by rw [iK hz];exact hP) (RBk.fin hu fun _ h=>.inl h)
 have bad2:RA.1.2=0->RB.1.2≠0->∀ H' F',RBk H' rb b F' G { RB.2 with stack:=[] } t seen cnt->Up F H F' H'->Q (.int .i64 RB.1.2) H':=fun h0 hz H' F' hP hu=>by
  have:=h H' F' G
  rw [if_neg (by simpa using h0),if_pos hz] at this
  exact this (by rw [iK hz];exact hP) (RBk.fin hu fun _ h=>.inl h)
 have good:RA.1.2=0->RB.1.2=0->∀ H' F',RBk H' rb b F' [] { RB.2 with h:=((RB.2.h.put c 3 RA.1.1).2.put c 4 RB.1.1).2,stack:=[] } t [] cnt->Up (rb :: F) H (rb :: F') H'->Q (.int .i64 0) H':=fun h0 hz H' F' hP hu=>by
  have:=h H' F' []
  rw [if_neg (by simpa using h0),if_neg (by simpa using hz)] at this
  exact this (by rw [qh];exact hP) ⟨hu.1.mono fun x hx=>by
   rcases List.mem_cons.1 hx with rfl | hx
   ·simp
   ·simp [hx],fun x hx=>(hu.2 x hx).imp (fun h=>by
    rcases List.mem_cons.1 h with rfl | h
    ·simp
    ·simp [h]) id⟩
 clear h
 apply Cx
 unfold M4 A0 iV wW pV lV cS
 obtain ⟨sb,F1,hc,hS,hsub,_,hup⟩:=hB.k.sp
 have hS':=hS
 obtain ⟨_,as_,ls_,cs_,_,F4,_,_,_,_,_,_,_,_,hBs,_,hO,_⟩:=hS'
 have hcS:ac H ⟨sb,2,none⟩=some (.slice as_ ls_ cs_):=hBs.cell 2
 have hl:ls_=0:=by have:=hO.len;rw [hst] at this;simpa [aq] using this.symm
 subst hl
 refine ⟨_,rfl,_,hB.kp,_,rfl,_,hc,_,rfl,_,_,_,by rw [ao];exact hcS,?_⟩
 refine ⟨fun w H'=>w=[]∧∃ F2,RBk H' rb b F2 G { s with stack:=kp } t seen cnt∧Up F H F2 H',?_,?_⟩
 ·rw [bf,ae]
  refine aA (fun hw0=>?_) fun hw0=>?_
  ·rw [if_pos hw0] at hw
   have fp:Fr [] H (H.push (.cells #[.int .i64 w] 36)):=Fr.push _ _ _
   have r1:Rd 1 (H.push (.cells #[.int .i64 w] 36)) (some ⟨H.size,0,none⟩) 1 (aq [w]):=vr
   refine ⟨_,rfl,_,hB.kp,_,rfl,_,hc,?_⟩
   have hB1:=hB.nil fp
   obtain ⟨sb1,F1',hc1,hS1,_,_,hup1⟩:=hB1.k.sp
   have e:sb1=sb:=by
    have h1:=hc
    rw [←bz fp (by simp) (bN hc)] at h1
    rw [hc1] at h1
    simpa using h1
   subst e
   refine sD hS1 r1 (by omega) fun H2 F2 hS2 u2=>⟨_,rfl,rfl,?_⟩
   rw [←hw,ek] at hS2
   obtain ⟨F',hK2,hu2⟩:=hup1 H2 F2 _ hS2 u2
   exact ⟨F',hB1.up hK2 hu2,(Up.of_nil fp).trans hu2⟩
  ·rw [if_neg hw0] at hw
   subst hw
   have e:{ s with stack:=[] }=s:=by rw [←hst]
   exact ⟨rfl,F,by rw [e];exact hB,Up.refl _ _⟩
 ·rintro w2 H2 ⟨rfl,F2,hB2,u2⟩ _
  refine ⟨rfl,yG hB2 (o3.rd u2 h3) (o3.up u2) k3 (o4.rd u2 h4) (o4.up u2) k4 hRA hRB (fun hz H3 F3 hB3 u3=>⟨_,rfl,rK hB3 fun H6 F6 hB6 u6=>?_⟩) (fun hz1 hz H3 F3 hB3 u3=>⟨_,rfl,rK hB3 fun H6 F6 hB6 u6=>?_⟩) fun hz1 hz2 H3 F3 hB3 u3=>⟨_,rfl,rK hB3 fun H6 F6 hB6 u6=>?_⟩⟩
  ·exact bad1 hz H6 F6 hB6 ((u2.trans u3).trans u6)
  ·exact bad2 hz1 hz H6 F6 hB6 ((u2.trans u3).trans u6)
  ·exact good hz1 hz2 H6 F6 hB6 (((Up.cons u2).trans u3).trans (Up.cons u6))
theorem KH (hB:RBk H rb b F G s t seen cnt) (hv:KAll s t v) (hd:KD v t){o m:Int}{name:ByteArray}
  (h1:∀ i (hi:i<v.cls.length),dZ v o=some i->∀ H' F' G',RBk H' rb b F' G' (iC s t v.cls[i] name m).2 t (lP (iC s t v.cls[i] name m).1 seen) cnt->Up (rb :: (G++F)) H (rb :: (G'++F')) H'->Q (.int .i64 (iC s t v.cls[i] name m).1) H')
  (h2:dZ v o=none->∀ H',Fr [] H H'->Q (.int .i64 130) H'):ah PP yn #[.pointer (some ⟨rb,0,none⟩),.int .i64 o,.string name,.int .i64 m] Q H:=by
 apply Kj
 unfold Rq iV wW pV sV lV cS
 refine jg hB.k hv hB.kp (fun i hi hp a l c Ga a' l' c' G' H1 ho ho' f1 hG hG'=>⟨_,_,_,_,_,_,_,rfl,?_⟩) fun hp H1 f1=>⟨_,_,_,_,_,_,_,rfl,?_⟩
 rotate_left
 ·exact h2 hp _ f1
 have h:=h1 i hi hp
 obtain ⟨hi',rfl⟩:=cd hp
 clear h1 h2
 obtain ⟨ns,hdc⟩:=hd _ (List.getElem_mem hi)
 have ht:=hdc.texts hv.names.wf
 have hmost:=hdc.most
 have hsl:(v.cls[i]).sels.length=ns.length:=by rw [hdc.sel];simp
 have hl:l=ns.length:=by have:=ho.len;rw [←hsl];simpa [aq] using this.symm
 have hl':l'=ns.length:=by have:=ho'.len;rw [←hdc.len];simpa [aq] using this.symm
 have hB1:=hB.nil f1
 simp only [show ((0:Int) != 0)=false from rfl,cond_false]
 unfold iC at h
 obtain ⟨tb,F2,hct,hT,_⟩:=hB1.k.tb
 refine ⟨_,rfl,_,hB1.kp,_,rfl,_,hct,Cu hT ?_⟩
 unfold qG
 cases hn:bV t.texts name with
 | none =>
  rw [hn] at h
  simp only at h
  refine ⟨_,_,rfl,?_⟩
  simp only [Bool.not_false,cond_true]
  exact h H1 F G (by rw [iK (n:=61) (by decide)];exact hB1) (RBk.fin (Up.of_nil f1) fun _ h=>.inl h)
 | some n =>
 rw [hn] at h
 simp only at h
 refine ⟨_,_,rfl,?_⟩
 simp only [Bool.not_true,cond_false]
 have stay:∀ {e:Int}{H2:aj},Fr [] H1 H2->(∀ H' F' G',RBk H' rb b F' G' s t (lP e seen) cnt->Up (rb :: (G++F)) H (rb :: (G'++F')) H'->Q (.int .i64 e) H')->e≠0->Q (.int .i64 e) H2:=fun f2 hq he=>hq _ F G (by rw [iK he];exact hB1.nil f2) (RBk.fin (Up.of_nil (f1.trans f2)) fun _ h=>.inl h)
 obtain ⟨sb,hb,F3,hc3,h03,hR3,hsub3,_,hup3⟩:=hB1.k.hp
 refine ⟨_,rfl,_,hB1.kp,_,rfl,_,hc3,_,rfl,_,h03,kZ hR3 ⟨_,_,rfl,?_⟩⟩
 rw [bf,ae]
 refine aA (fun hc=>?_) fun hc=>?_
 ·refine stay (Fr.refl _ _) (fun H' F' G' hP hu=>?_) hc
  have:=h H' F' G'
  rw [if_pos hc] at this
  exact this hP hu
 have hc:(s.h.clsAt m).2=0:=Classical.byContradiction hc
 rw [if_neg (by simpa using hc)] at h
 obtain ⟨m1,m2⟩:=lQ hv.ks.wf.h hc
 have hoR:=ho.rd
 have hoR0:=ho.rd
 have hoR':=ho'.rd
 have hoO:fQ H1 a l []:=.inr (bv.out ho (bi.nil_right _))
 have hoO':fQ H1 a' l' []:=.inr (bv.out ho' (bi.nil_right _))
 rw [hdc.sel] at hoR
 refine uk hB1.k hB1.kp hoR hdc.num hdc.srt (by omega) ⟨_,_,rfl,?_⟩
 rw [ht] at h
 have hoIs:∀ {Q':Value->aj->Prop}{H':aj},Q' (.int .i64 (4*m)) H'->ah PP Ee #[.int .i64 m] Q' H':=fun hq=>bX ⟨by omega,by omega⟩ hq
 by_cases hm:name∈ns.map (tx t)
 ·rw [if_pos hm,ae,if_pos (by omega)]
  rw [if_pos hm] at h
  simp only at h
  have b4:=(hv.ks.view.met hi).bnd hv.ks.wf.h
  have hkp:=hB1.kp
  refine ⟨_,rfl,_,hkp,_,rfl,_,hc3,_,rfl,_,h03,_,rfl,_,hkp,fW hB1.k ⟨_,rfl,⟨⟨h03,trivial⟩,⟨hc3,trivial⟩,⟨hkp,trivial⟩,trivial⟩,?_⟩⟩
  rw [hv.ks.c4 hi]
  refine ch ⟨by omega,by omega⟩ ⟨_,rfl,⟨⟨h03,trivial⟩,⟨hc3,trivial⟩,⟨hkp,trivial⟩,trivial⟩,?_⟩
  rw [bZ b4.1]
  refine hoIs ⟨_,rfl,⟨⟨h03,trivial⟩,⟨hc3,trivial⟩,⟨hkp,trivial⟩,trivial⟩,?_⟩
  refine ku hR3 fun H4 hR4 f4=>⟨_,rfl,trivial,?_⟩
  obtain ⟨F4,hK4,u4⟩:=hup3 H4 F3 _ hR4 ⟨f4,fun _ h=>.inl h⟩
  have hB4:=hB1.up hK4 u4
  obtain ⟨w5,hB5,f5⟩:=hB4.clear
  refine ⟨_,rfl,w5,?_⟩
  refine h _ F4 [] (by rw [qh];exact hB5) ⟨((Fr.of_nil f1).trans (u4.1.mono fun x hx=>by simp [hx])).trans (f5.mono (by simp)),fun x hx=>?_⟩
  simp only [List.nil_append,List.mem_cons] at hx
  rcases hx with rfl | hx
  ·exact .inl (by simp)
  ·exact (u4.2 x hx).imp (fun h=>by simp [h]) fun h=>Nat.le_trans f1.1 h
 ·rw [if_neg hm,ae,if_neg (by omega)]
  rw [if_neg hm] at h
  rw [hsl] at h
  rw [ae]
  refine aA (fun h128=>?_) fun h128=>?_
  ·rw [if_pos (by omega)] at h
   exact stay (Fr.refl _ _) h (by decide)
  rw [if_neg (by omega)] at h
  have hps:=kB (ns.map (tx t)) name
  rw [List.length_map] at hps
  have hnl:n<t.texts.length:=(cA (jB hn)).2
  have ht4:=hv.names.wf.len
  have ht5:=hv.names.wf.m1
  refine hoIs ⟨_,rfl,?_⟩
  have e4:IntKind.wrap .i64 (4*(n:Int))=4*n:=am (by omega) (by omega)
  have e5:IntKind.wrap .i64 (4*(n:Int)+2)=bD n:=am (by omega) (by omega)
  rw [e4,e5]
  refine kA hoR0 hoO (by omega) fun a5 l5 c5 G5 H3 o5 f3 hG5=>⟨_,_,_,rfl,?_⟩
  refine kA (eC hoO' f3 hoR') (hoO'.more f3.1) (by omega) fun a6 l6 c6 G6 H4 o6 f4 hG6=>⟨_,_,_,rfl,?_⟩
  rw [ze (by unfold bD;omega) (by omega)] at o5
  rw [ze (by omega) (by have:=hdc.len;omega)] at o6
  have hB5:=hB1.nil (f3.trans f4)
  have o5':=o5.fr f4 (by simp)
  have hltB:=hB1.k.lt
  have g5:bi G5 F:=fun y hy hm=>by have h1:=hG5 y hy;have h2:=hltB y hm;omega
  have g6:bi G6 F:=fun y hy hm=>by have h1:=hG6 y hy;have h2:=hltB y hm;have:=f3.1;omega
  refine uO hB5 hv (kp:=[4*m]) (l:=dU (v.cls[i]).sels (bu (ns.map (tx t)) name) (bD n)) (m:=dU (v.cls[i]).mets (bu (ns.map (tx t)) name) (4*m)) (by rw [if_pos (by omega)]) (by simpa using cq m1 m2) o5'.rd (bv.out o5' g5) ?_ o6.rd (bv.out o6 g6) ?_ fun H6 F6 G7 hB6 u6=>⟨_,rfl,?_⟩
  ·have:=o5'.len
   have e:=(fz (v.cls[i]).sels (bu (ns.map (tx t)) name) (bD n)).length_eq
   simp only [aq,List.length_map,e,List.length_cons] at this
   omega
  ·have:=o6.len
   have e:=(fz (v.cls[i]).mets (bu (ns.map (tx t)) name) (4*m)).length_eq
   have e2:=hdc.len
   simp only [aq,List.length_map,e,List.length_cons] at this
   omega
  ·exact h H6 F6 G7 hB6 ((RBk.fin (Up.of_nil (f1.trans (f3.trans f4))) fun _ h=>.inl h).trans u6)
theorem wk (hB:RBk H rb b F G s t seen cnt) (hv:KAll s t v) (hd:KD v t){o:Int}{name:ByteArray}
  (h1:∀ i (hi:i<v.cls.length),dZ v o=some i->∀ H' F' G',RBk H' rb b F' G' (i5 s t v.cls[i] name).2 t (lP (i5 s t v.cls[i] name).1 seen) cnt->Up (rb :: (G++F)) H (rb :: (G'++F')) H'->Q (.int .i64 (i5 s t v.cls[i] name).1) H')
  (h2:dZ v o=none->∀ H',Fr [] H H'->Q (.int .i64 130) H'):ah PP xQ #[.pointer (some ⟨rb,0,none⟩),.int .i64 o,.string name] Q H:=by
 apply Fy
 unfold Rk iV pV sV lV cS
 refine jg hB.k hv hB.kp (fun i hi hp a l c Ga a' l' c' G' H1 ho ho' f1 hG hG'=>⟨_,_,_,_,_,_,_,rfl,?_⟩) fun hp H1 f1=>⟨_,_,_,_,_,_,_,rfl,?_⟩
 rotate_left
 ·exact h2 hp _ f1
 have h:=h1 i hi hp
 obtain ⟨hi',rfl⟩:=cd hp
 clear h1 h2
 obtain ⟨ns,hdc⟩:=hd _ (List.getElem_mem hi)
 have ht:=hdc.texts hv.names.wf
 have hmost:=hdc.most
 have hsl:(v.cls[i]).sels.length=ns.length:=by rw [hdc.sel];simp
 have hl:l=ns.length:=by have:=ho.len;rw [←hsl];simpa [aq] using this.symm
 have hl':l'=ns.length:=by have:=ho'.len;rw [←hdc.len];simpa [aq] using this.symm
 have hB1:=hB.nil f1
 simp only [show ((0:Int) != 0)=false from rfl,cond_false]
 unfold i5 at h
 have hoR:=ho.rd
 have hoR0:=ho.rd
 have hoR':=ho'.rd
 have hoO:fQ H1 a l []:=.inr (bv.out ho (bi.nil_right _))
 have hoO':fQ H1 a' l' []:=.inr (bv.out ho' (bi.nil_right _))
 rw [hdc.sel] at hoR
 refine uk hB1.k hB1.kp hoR hdc.num hdc.srt (by omega) ⟨_,_,rfl,?_⟩
 rw [ht] at h
 by_cases hm:name∈ns.map (tx t)
 ·rw [if_pos hm,ae,if_neg (by omega)]
  rw [if_pos hm] at h
  have hps:bu (ns.map (tx t)) name<ns.length:=by
   have:=(List.getElem?_eq_some_iff.1 ((gL hdc.srt).1 hm)).1
   simpa using this
  refine kA hoR0 hoO (by omega) fun a5 l5 c5 G5 H3 o5 f3 hG5=>⟨_,_,_,rfl,?_⟩
  refine kA (eC hoO' f3 hoR') (hoO'.more f3.1) (by omega) fun a6 l6 c6 G6 H4 o6 f4 hG6=>⟨_,_,_,rfl,?_⟩
  rw [yW (by omega)] at o5
  rw [yW (by have:=hdc.len;omega)] at o6
  have hB5:=hB1.nil (f3.trans f4)
  have o5':=o5.fr f4 (by simp)
  have hltB:=hB1.k.lt
  have g5:bi G5 F:=fun y hy hm=>by have h1:=hG5 y hy;have h2:=hltB y hm;omega
  have g6:bi G6 F:=fun y hy hm=>by have h1:=hG6 y hy;have h2:=hltB y hm;have:=f3.1;omega
  refine uO hB5 hv (kp:=[]) (l:=(v.cls[i]).sels.eraseIdx (bu (ns.map (tx t)) name)) (m:=(v.cls[i]).mets.eraseIdx (bu (ns.map (tx t)) name)) (by simp) (by simp) o5'.rd (bv.out o5' g5) ?_ o6.rd (bv.out o6 g6) ?_ fun H6 F6 G7 hB6 u6=>⟨_,rfl,?_⟩
  ·have:=o5'.len
   simp only [aq,List.length_map] at this
   have h3:=(List.eraseIdx_sublist (v.cls[i]).sels (bu (ns.map (tx t)) name)).length_le
   omega
  ·have:=o6.len
   simp only [aq,List.length_map] at this
   have h3:=(List.eraseIdx_sublist (v.cls[i]).mets (bu (ns.map (tx t)) name)).length_le
   have e2:=hdc.len
   omega
  ·exact h H6 F6 G7 hB6 ((RBk.fin (Up.of_nil (f1.trans (f3.trans f4))) fun _ h=>.inl h).trans u6)
 ·rw [if_neg hm,ae,if_pos (by omega)]
  rw [if_neg hm] at h
  exact h _ F G (by rw [iK (n:=140) (by decide)];exact hB1) (RBk.fin (Up.of_nil f1) fun _ h=>.inl h)
end
theorem rp (l m:List (Int × Int)):gt (l++m)=gt l++gt m:=by simp [gt]
theorem qv:∀ {l:List (Int × Int)}{i:Nat} (hi:i<l.length),(gt l)[i*2]?=some (.int .i64 l[i].1)∧(gt l)[i*2+1]?=some (.int .i64 l[i].2)
 | p :: l,0,_=>by simp [gt]
 | p :: l,i+1,hi=>by
  have:=qv (l:=l) (i:=i) (by simpa using hi)
  have e:gt (p :: l)=.int .i64 p.1 :: .int .i64 p.2 :: gt l:=by simp [gt]
  rw [e,show (i+1)*2=i*2+2 by omega,show i*2+2+1=i*2+1+2 by omega]
  simpa using this
theorem R3 {H:aj}{a:Option Addr}{l c:Nat}{seen:List (Int × Int)}{G:ay} (ho:bv 2 H a l c (gt seen) G) (hl:l=seen.length){i:Nat} (hi:i<l):∃ p,∃ hi':i<seen.length,a=some p∧ac H (p.add (i*2))=some (.int .i64 seen[i].1)∧ac H ((p.add (i*2)).add 1)=some (.int .i64 seen[i].2):=by
 have hr:=ho.rd
 have hi':i<seen.length:=by omega
 cases a with
 | none=>have:=hr.2.1 rfl;omega
 | some p =>
  obtain ⟨h1,h2⟩:=qv hi'
  refine ⟨p,hi',rfl,?_,?_⟩
  ·rw [hr.2.2 p rfl _ (by omega)];exact h1
  ·have e:(p.add (i*2)).add 1=p.add (i*2+1):=by
    unfold Addr.add
    by_cases h0:i*2=0
    ·rw [if_pos h0,h0]
    ·rw [if_neg h0,if_neg (by decide),if_neg (by omega)]
     simp only [Nat.add_assoc]
   rw [e,hr.2.2 p rfl _ (by omega)];exact h2
theorem wi (l:List (Int × Int)):(gt l).length=l.length*2:=by
 induction l with
 | nil=>rfl
 | cons p l ih =>
  have e:gt (p :: l)=.int .i64 p.1 :: .int .i64 p.2 :: gt l:=by simp [gt]
  rw [e,List.length_cons,List.length_cons,ih,List.length_cons];omega
section
variable {H H':aj}{rb b:Nat}{F F' G:ay}{s s':SP}{t t':TB}{v:KV}{seen:List (Int × Int)}{cnt:Int}{Q:QT}
theorem E0 (hB:RBk H rb b F G s t seen cnt) (hn:seen.length<=1200000000000){o x:Int}
  (h1:(o,x)∈seen->∀ H',RBk H' rb b F G s t seen (IntKind.wrap .i64 (cnt+1))->Fr [rb] H H'->Q (.tuple #[]) H')
  (h2:(o,x)∉seen->∀ H' G',RBk H' rb b F G' s t (seen++[(o,x)]) cnt->Up (rb :: G) H (rb :: G') H'->Q (.tuple #[]) H'):ah PP Ht #[.pointer (some ⟨rb,0,none⟩),.int .i64 o,.int .i64 x] Q H:=by
 have hs1:aF PP 204=some (2,16,some (.agg #[.int .i64 0,.int .i64 0])):=by kernel_rfl
 apply Cr
 unfold Ph A0 iV wW lV
 have hB0:=hB
 obtain ⟨k,⟨a,l,c,hb,ho⟩,nb,ng,dis⟩:=hB
 have hl:l=seen.length:=by have:=ho.len;rw [wi] at this;omega
 have c1:ac H ((⟨rb,0,none⟩:Addr).add 1)=some (.slice a l c):=by rw [ao];exact hb.cell 1
 have c2:ac H ((⟨rb,0,none⟩:Addr).add 2)=some (.int .i64 cnt):=by rw [ao];exact hb.cell 2
 refine ⟨fun w H'=>∃ j:Nat,w=[.int .i64 j]∧j<=l∧(∀ k (hk:k<seen.length),k<j->seen[k]≠(o,x))∧H'=H,fun w _=>match w with
  | [.int _ j]=>((l:Int)-j).toNat
  | _=>0,⟨0,rfl,Nat.zero_le _,fun k hk h=>by omega,rfl⟩,?_⟩
 rintro w H1 ⟨j,rfl,hj,hno,rfl⟩ _
 refine ⟨_,rfl,_,rfl,_,_,_,c1,?_⟩
 rw [ae]
 refine aA (fun hlt=>?_) fun hlt=>?_
 ·obtain ⟨p,hjs,rfl,q1,q2⟩:=R3 ho hl (i:=j) (by omega)
  have e:IntKind.wrap .i64 ((j:Int)+1)=((j+1:Nat):Int):=by rw [am (by omega) (by omega)];omega
  have next:seen[j]≠(o,x)->(∃ j':Nat,[Value.int .i64 (IntKind.wrap .i64 ((j:Int)+1))]=[.int .i64 j']∧j'<=l∧(∀ k (hk:k<seen.length),k<j'->seen[k]≠(o,x))∧H1=H1)∧(match [Value.int .i64 (IntKind.wrap .i64 ((j:Int)+1))] with
    | [.int _ j]=>((l:Int)-j).toNat
    | _=>0)<(match [Value.int .i64 (j:Int)] with
    | [.int _ j]=>((l:Int)-j).toNat
    | _=>0):=fun hne=>by
   rw [e]
   refine ⟨⟨j+1,rfl,by omega,fun k hk hkj=>?_,rfl⟩,by simp;omega⟩
   rcases Nat.lt_or_ge k j with h | h
   ·exact hno k hk h
   ·have:k=j:=by omega
    subst this;exact hne
  refine ⟨_,rfl,_,_,_,c1,⟨by omega,hlt⟩,_,rfl,_,by rw [Int.toNat_natCast];exact q1,?_⟩
  rw [bj,ae]
  refine aA (fun e1=>?_) fun e1=>next fun he=>e1 (by rw [he])
  refine ⟨_,rfl,_,_,_,c1,⟨by omega,hlt⟩,_,rfl,_,by rw [Int.toNat_natCast];exact q2,?_⟩
  rw [bj,ae]
  refine aA (fun e2=>?_) fun e2=>next fun he=>e2 (by rw [he])
  refine ⟨_,rfl,_,c2,_,rfl,by rw [ao];exact hb.wr (by simp),?_⟩
  have hf:Fr [rb] H1 (au H1 ((⟨rb,0,none⟩:Addr).add 2) (.int .i64 (IntKind.wrap .i64 (cnt+1)))):=by rw [ao];exact Fr.set (by simp)
  have hb':=hb.set 2 (.int .i64 (IntKind.wrap .i64 (cnt+1)))
  refine h1 ?_ _ ⟨k.fr hf (fun y hy hm=>by simp only [List.mem_singleton] at hm;subst hm;exact nb hy),⟨_,_,_,by rw [ao];exact hb',ho.fr hf fun y hy hm=>by simp only [List.mem_singleton] at hm;subst hm;exact ng hy⟩,nb,ng,dis⟩ hf
  have:seen[j]=(o,x):=Prod.ext e1 e2
  rw [←this];exact List.getElem_mem hjs
 ·have hjl:j=seen.length:=by omega
  refine ⟨_,rfl,_,_,_,c1,?_⟩
  refine jm hs1 rfl (by kernel_rfl) ho rfl (by simp [cC]) (fun c hc=>by
   have:=lD hc
   generalize Builtin.nextslicecap (l+1) c=z at this ⊢
   omega) (by decide) fun a' c' G' H2 g1 g2 g3=>⟨_,_,_,rfl,_,rfl,?_⟩
  have hb2:=hb.fr g2.1 ng
  have k2:=k.fr g2.1 (dis.symm)
  have hf:Fr [rb] H2 (au H2 ((⟨rb,0,none⟩:Addr).add 1) (.slice a' (l+1) c')):=by rw [ao];exact Fr.set (by simp)
  have hb':=hb2.set 1 (.slice a' (l+1) c')
  have ng':rb∉G':=Up.out g2 ng hb.lt
  refine ⟨by rw [ao];exact hb2.wr (by simp),h2 (fun hm=>?_) _ G' ⟨k2.fr hf (fun y hy hm=>by simp only [List.mem_singleton] at hm;subst hm;exact nb hy),⟨_,_,_,by rw [ao];exact hb',?_⟩,nb,ng',fun y hy hm=>?_⟩ ?_⟩
  ·obtain ⟨i,hi,e⟩:=List.getElem_of_mem hm
   exact hno i hi (by omega) e
  ·rw [rp]
   exact g1.fr hf fun y hy hm=>by simp only [List.mem_singleton] at hm;subst hm;exact ng' hy
  ·rcases g2.2 y hy with h | h
   ·exact dis y h hm
   ·have:=k.lt y hm;omega
  ·exact (Up.cons g2).trans ⟨hf.mono (by simp),fun _ h=>.inl h⟩
theorem lO (hB:RBk H rb b F G s t seen cnt) (hn:seen.length<=1200000000000) (hv:KAll s t v) (hd:KD v t){o x:Int}
  (h1:∀ i (hi:i<v.cls.length),dZ v o=some i->(o,x)∈seen->∀ H',RBk H' rb b F G s t seen (IntKind.wrap .i64 (cnt+1))->Fr [rb] H H'->Q (mP (cF v (4*x+2) i)) H')
  (h2:∀ i (hi:i<v.cls.length),dZ v o=some i->(o,x)∉seen->∀ H' G',RBk H' rb b F G' s t (seen++[(o,x)]) cnt->Up (rb :: G) H (rb :: G') H'->Q (mP (cF v (4*x+2) i)) H')
  (h3:dZ v o=none->∀ H',Fr [] H H'->Q (.tuple #[.int .i64 0,.int .i64 0]) H'):ah PP yd #[.pointer (some ⟨rb,0,none⟩),.int .i64 o,.int .i64 x] Q H:=by
 have ht4:=hv.names.wf.len
 have ht5:=hv.names.wf.m1
 apply Bw
 unfold L9 iV wW pV lV cS
 refine ⟨_,rfl,_,hB.kp,r9 hB.k hv fun H1 f1=>?_⟩
 cases hp:dZ v o with
 | none=>exact ⟨_,_,rfl,h3 hp H1 f1⟩
 | some i =>
 obtain ⟨hi,ho⟩:=cd hp
 refine ⟨_,_,rfl,?_⟩
 simp only [show ((0:Int) != 0)=false from rfl,cond_false]
 have hB1:=hB.nil f1
 have walk:∀ {H2:aj}{G2:ay}{seen2:List (Int × Int)}{cnt2:Int},RBk H2 rb b F G2 s t seen2 cnt2->(∀ H',Fr [] H2 H'->Q (mP (cF v (4*x+2) i)) H')->∃(I10:List Value->aj->Prop) (μ10:List Value->aj->Nat),I10 [.int .i64 o] H2∧∀ w11 H3,I10 w11 H3->∀ _g:Nat->Value,∃ n12:Int,w11=[.int .i64 n12]∧cond (n12 != 0) (ah PP 146 #[.pointer (some ⟨rb,0,none⟩:Option Addr),.int .i64 n12] (fun v13 H4=>∃ a14:Option Addr,∃ l14:Nat,∃ c14:Nat,∃ a15:Option Addr,∃ l15:Nat,∃ c15:Nat,∃ n16:Int,v13=.tuple #[.slice a14 l14 c14,.slice a15 l15 c15,.int .i64 n16]∧∃(I17:List Value->aj->Prop) (μ17:List Value->aj->Nat),I17 [.int .i64 0] H4∧∀ w18 H5,I17 w18 H5->∀ _g:Nat->Value,∃ n19:Int,w18=[.int .i64 n19]∧cond (decide (n19<(l14:Int))) (cond (decide (x ≥ 0)) (∃ q20,(some ⟨rb,0,none⟩:Option Addr)=some q20∧∃ p21:Option Addr,ac H5 q20=some (.pointer p21)∧∃ q22,p21=some q22∧∃ p23:Option Addr,ac H5 (q22.add 1)=some (.pointer p23)∧ah PP 214 #[.pointer p23] (fun v24 H6=>∃ n25:Int,v24=.int .i64 n25∧cond (decide (x<n25)) (((0:Int)<=n19∧n19<(l14:Int))∧∃ q26,a14=some q26∧∃ n27:Int,ac H6 (q26.add (Int.toNat n19*1))=some (.int .i64 n27)∧cond (n27 == (IntKind.wrap .i64 ((IntKind.wrap .i64 (4*x))+2))) (((0:Int)<=n19∧n19<(l15:Int))∧∃ q28,a15=some q28∧∃ n29:Int,ac H6 (q28.add (Int.toNat n19*1))=some (.int .i64 n29)∧ah PP 119 #[.int .i64 n29] (fun v30 H7=>∃ n31:Int,v30=.int .i64 n31∧Q (.tuple #[.int .i64 n31,.int .i64 n12]) H7) H6) (I17 [.int .i64 (IntKind.wrap .i64 (n19+1))] H6∧μ17 [.int .i64 (IntKind.wrap .i64 (n19+1))] H6<μ17 w18 H5)) (I17 [.int .i64 (IntKind.wrap .i64 (n19+1))] H6∧μ17 [.int .i64 (IntKind.wrap .i64 (n19+1))] H6<μ17 w18 H5)) H5) (I17 [.int .i64 (IntKind.wrap .i64 (n19+1))] H5∧μ17 [.int .i64 (IntKind.wrap .i64 (n19+1))] H5<μ17 w18 H5)) (∃ q32,(some ⟨rb,0,none⟩:Option Addr)=some q32∧∃ p33:Option Addr,ac H5 q32=some (.pointer p33)∧ah PP 191 #[.pointer p33,.int .i64 n12] (fun v34 H8=>∃ n35:Int,∃ n36:Int,v34=.tuple #[.int .i64 n35,.int .i64 n36]∧I10 [.int .i64 n35] H8∧μ10 [.int .i64 n35] H8<μ10 w11 H3) H5)) H3) (Q (.tuple #[.int .i64 0,.int .i64 0]) H3):=fun {H2 G2 seen2 cnt2} hB2 h=>by
  subst ho
  refine ⟨fun w H'=>Fr [] H2 H'∧((∃ k,∃ hk:k<v.cls.length,w=[.int .i64 (v.cls[k]).oop]∧cF v (4*x+2) k=cF v (4*x+2) i)∨(w=[.int .i64 0]∧cF v (4*x+2) i=(0,0))),fun w _=>match w with
   | [.int _ c]=>(match dZ v c with | some k=>k+1 | none=>0)
   | _=>0,⟨Fr.refl _ _,.inl ⟨i,hi,rfl,rfl⟩⟩,?_⟩
  rintro w H3 ⟨f2,hw⟩ _
  rcases hw with ⟨k,hk,rfl,e⟩ | ⟨rfl,e⟩
  rotate_left
  ·refine ⟨_,rfl,?_⟩
   simp only [show ((0:Int) != 0)=false from rfl,cond_false]
   have:=h H3 f2
   rw [e] at this
   exact this
  refine ⟨_,rfl,?_⟩
  have b1:=((hv.ks.view.cls hk).bnd hv.ks.wf.h).1
  rw [bf,ae,if_pos (by omega)]
  have hB3:=hB2.nil f2
  refine jg hB3.k hv hB3.kp (fun i' hi' hp' a l c Ga a' l' c' G' H4 oa oa' f4 hG hG'=>⟨_,_,_,_,_,_,_,rfl,?_⟩) fun hp'=>?_
  rotate_left
  ·rw [hv.ks.idx hk] at hp';cases hp'
  rw [hv.ks.idx hk] at hp'
  cases hp'
  have hl:l=(v.cls[k]).sels.length:=by have:=oa.len;simpa [aq] using this.symm
  have hl':l'=(v.cls[k]).mets.length:=by have:=oa'.len;simpa [aq] using this.symm
  have leq:=kW hv.ks (4*x+2) hk
  obtain ⟨ns,hdc⟩:=hd _ (List.getElem_mem hk)
  have hsl:(v.cls[k]).sels.length=ns.length:=by rw [hdc.sel];simp
  have hmost:=hdc.most
  have hB4:=hB3.nil f4
  have f24:=f2.trans f4
  refine ⟨fun w H'=>∃ j:Nat,w=[.int .i64 j]∧j<=l∧iv (4*x+2) (v.cls[k]).sels 0=iv (4*x+2) ((v.cls[k]).sels.drop j) j∧H'=H4,fun w _=>match w with
   | [.int _ j]=>(l-j).toNat
   | _=>0,⟨0,rfl,Nat.zero_le _,rfl,rfl⟩,?_⟩
  rintro w H5 ⟨j,rfl,hj,hsel,rfl⟩ _
  refine ⟨_,rfl,?_⟩
  rw [ae]
  refine aA (fun hlt=>?_) fun hlt=>?_
  ·have hjl:j<(v.cls[k]).sels.length:=by omega
   obtain ⟨p,rfl,hcell,_⟩:=oa.rd.int (i:=(j:Int)) (by omega) (by omega)
   have eg:((v.cls[k]).sels).getD j 0=(v.cls[k]).sels[j]:=by simp [hjl]
   rw [Int.toNat_natCast,eg] at hcell
   rw [qp hjl] at hsel
   have e1:IntKind.wrap .i64 ((j:Int)+1)=((j+1:Nat):Int):=by rw [am (by omega) (by omega)];omega
   have sj:(v.cls[k]).sels[j]=bD (ns[j]'(by omega)):=by simp only [hdc.sel,List.getElem_map]
   have sn:ns[j]'(by omega)<t.texts.length:=hdc.num _ (List.getElem_mem _)
   have next:(v.cls[k]).sels[j]≠4*x+2->(∃ j':Nat,[Value.int .i64 (IntKind.wrap .i64 ((j:Int)+1))]=[.int .i64 j']∧j'<=l∧iv (4*x+2) (v.cls[k]).sels 0=iv (4*x+2) ((v.cls[k]).sels.drop j') j'∧H5=H5)∧(match [Value.int .i64 (IntKind.wrap .i64 ((j:Int)+1))] with
     | [.int _ j]=>(l-j).toNat
     | _=>0)<(match [Value.int .i64 (j:Int)] with
     | [.int _ j]=>(l-j).toNat
     | _=>0):=fun hne=>by
    rw [if_neg hne] at hsel
    rw [e1]
    exact ⟨⟨j+1,rfl,by omega,hsel,rfl⟩,by simp;omega⟩
   rw [ae]
   refine aA (fun hx0=>?_) fun hx0=>next (by rw [sj];unfold bD;omega)
   obtain ⟨tb,F2,hct,hT,_⟩:=hB4.k.tb
   refine ⟨_,rfl,_,hB4.kp,_,rfl,_,by rw [ao];exact hct,sG hT ⟨_,rfl,?_⟩⟩
   rw [ae]
   refine aA (fun hx1=>?_) fun hx1=>next (by rw [sj];unfold bD;omega)
   refine ⟨⟨by omega,hlt⟩,_,rfl,_,by rw [Int.toNat_natCast,Nat.mul_one];exact hcell,?_⟩
   have e4:IntKind.wrap .i64 (4*x)=4*x:=am (by omega) (by omega)
   have e5:IntKind.wrap .i64 (4*x+2)=4*x+2:=am (by omega) (by omega)
   rw [e4,e5,bj,ae]
   refine aA (fun hw=>?_) fun hw=>next hw
   rw [if_pos hw] at hsel
   rw [hsel] at leq
   simp only at leq
   have hml:j<(v.cls[k]).mets.length:=by rw [hdc.len];omega
   obtain ⟨o',eo,o1,o2⟩:=hdc.obj _ (List.getElem_mem hml)
   have egm:((v.cls[k]).mets).getD j 0=4*o':=by rw [List.getD_eq_getElem?_getD,List.getElem?_eq_getElem hml,←eo];rfl
   rw [egm,cK o1 o2] at leq
   obtain ⟨p',rfl,hcell',_⟩:=oa'.rd.int (i:=(j:Int)) (by omega) (by omega)
   rw [Int.toNat_natCast,egm] at hcell'
   refine ⟨⟨by omega,by omega⟩,_,rfl,_,by rw [Int.toNat_natCast,Nat.mul_one];exact hcell',?_⟩
   refine ch ⟨by omega,by omega⟩ ⟨_,rfl,?_⟩
   rw [bZ o1]
   have:=h _ f24
   rw [←e,leq] at this
   exact this
  ·have hjl:j=(v.cls[k]).sels.length:=by omega
   rw [hjl,List.drop_length] at hsel
   rw [hsel] at leq
   simp only [iv] at leq
   refine ⟨_,rfl,_,hB4.kp,Bl hB4.k hv fun H6 f6=>?_⟩
   rw [hv.ks.idx hk]
   refine ⟨_,_,rfl,?_⟩
   have f26:=f24.trans f6
   rcases hv.ks.upI hk with ⟨_,s0,u0⟩ | ⟨j',hj',hjk,s1,_,u1⟩
   ·rw [u0] at leq
    rw [s0]
    refine ⟨⟨f26,.inr ⟨rfl,by rw [←e];exact leq⟩⟩,?_⟩
    simp only [nv hv.ks,hv.ks.idx hk]
    omega
   ·rw [u1] at leq
    rw [s1]
    refine ⟨⟨f26,.inl ⟨j',hj',rfl,by rw [←e];exact leq.symm⟩⟩,?_⟩
    simp only [hv.ks.idx hj',hv.ks.idx hk]
    omega
 refine E0 hB1 hn (fun hm H2 hB2 f2=>⟨rfl,walk hB2 fun H3 f3=>?_⟩) fun hm H2 G2 hB2 u2=>⟨rfl,walk hB2 fun H3 f3=>?_⟩
 ·exact h1 i hi hp hm H3 (hB2.nil f3) (((Fr.of_nil f1).trans f2).trans (Fr.of_nil f3))
 ·exact h2 i hi hp hm H3 G2 (hB2.nil f3) ((Up.of_nil f1).trans (u2.trans (Up.of_nil f3)))
theorem yI (hB:RBk H rb b F G s t seen cnt) (h:∀ H',RBk H' rb b F [] s t [] cnt->Fr [rb] H H'->Q (.tuple #[]) H'):ah PP In #[.pointer (some ⟨rb,0,none⟩)] Q H:=by
 apply Dd
 unfold PZ lV
 obtain ⟨w,hB',f⟩:=hB.clear
 exact ⟨_,rfl,w,h _ hB' f⟩
theorem Hn (hK:RK H b F s t) (h:∀ H',RBk H' H.size b F [] s t [] 0->Fr [] H H'->Q (.pointer (some ⟨H.size,0,none⟩)) H'):ah PP Fi #[.pointer (some ⟨b,0,none⟩)] Q H:=by
 apply Bg
 unfold LI A0 iV pV lV
 have hlt:=hK.lt
 exact h _ ⟨hK.nil (Fr.push _ _ _),⟨none,0,0,bA.new _ _ _,bv.nil 2 _⟩,fun hm=>by have:=hlt _ hm;omega,by simp,bi.nil_left _⟩ (Fr.push _ _ _)
end
abbrev za:=Int × ByteArray × Int
def eX (t:TB) (c:CV):List za:=(cB t c).map fun e=>(c.oop,e.1,e.2)
def eN (t:TB) (v:KV):List za:=v.cls.flatMap (eX t)
def other (o:Int) (name:ByteArray) (x:za):Bool:=decide (x.1≠o∨x.2.1≠name)
theorem nW {t:TB}{v:KV}{i:Nat} (hi:i<v.cls.length):eN t v=(v.cls.take i).flatMap (eX t)++(eX t v.cls[i]++(v.cls.drop (i+1)).flatMap (eX t)):=by
 unfold eN
 have e:v.cls=v.cls.take i++v.cls[i] :: v.cls.drop (i+1):=by rw [List.getElem_cons_drop,List.take_append_drop]
 conv=>lhs;rw [e]
 rw [List.flatMap_append,List.flatMap_cons]
theorem ya {t:TB}{v:KV}{i:Nat} (hi:i<v.cls.length) (c:CV):eN t (v.setC i c)=(v.cls.take i).flatMap (eX t)++(eX t c++(v.cls.drop (i+1)).flatMap (eX t)):=by
 have hi2:i<(v.setC i c).cls.length:=by simpa [KV.setC] using hi
 rw [nW hi2]
 have e1:(v.setC i c).cls.take i=v.cls.take i:=by simp [KV.setC,List.take_set_of_le]
 have e2:(v.setC i c).cls.drop (i+1)=v.cls.drop (i+1):=by simp [KV.setC,List.drop_set_of_lt]
 have e3:(v.setC i c).cls[i]=c:=by simp [KV.setC]
 rw [e1,e2,e3]
theorem qg {t:TB}{l:List CV}{o:Int}{name:ByteArray} (h:∀ c∈l,c.oop≠o):(l.flatMap (eX t)).filter (other o name)=l.flatMap (eX t):=by
 refine List.filter_eq_self.2 fun x hx=>?_
 obtain ⟨c,hc,hx⟩:=List.mem_flatMap.1 hx
 unfold eX at hx
 obtain ⟨e,_,rfl⟩:=List.mem_map.1 hx
 unfold other
 simp only [decide_eq_true_eq]
 exact .inl (h c hc)
theorem wA {t:TB}{c:CV}{name:ByteArray}:(eX t c).filter (other c.oop name)=((cB t c).filter fun e=>decide (e.1≠name)).map fun e=>(c.oop,e.1,e.2):=by
 unfold eX
 rw [List.filter_map]
 congr 1
 apply List.filter_congr
 intro e _
 simp [other,Function.comp]
theorem sY {s:SP}{t:TB}{v v':KV} (hk:KS s v){i:Nat} (hi:i<v.cls.length){a b:Int}{l m:List Int}{name:ByteArray}{pre:List (ByteArray × Int)} (hv:v'=v.setC i ((v.cls[i]).lists a b l m))
  (he:(cB t ((v.cls[i]).lists a b l m)).Perm (pre++(cB t (v.cls[i])).filter fun e=>decide (e.1≠name))) :
  (eN t v').Perm ((eN t v).filter (other (v.cls[i]).oop name)++pre.map fun e=>((v.cls[i]).oop,e.1,e.2)):=by
 subst hv
 rw [ya hi,nW hi,List.filter_append,List.filter_append]
 have hA:∀ c∈v.cls.take i,c.oop≠(v.cls[i]).oop:=fun c hc e=>by
  obtain ⟨j,hj,ej⟩:=List.getElem_of_mem hc
  rw [List.getElem_take] at ej
  rw [List.length_take] at hj
  subst ej
  have:=hk.view.inj (by omega) hi e
  omega
 have hB:∀ c∈v.cls.drop (i+1),c.oop≠(v.cls[i]).oop:=fun c hc e=>by
  obtain ⟨j,hj,ej⟩:=List.getElem_of_mem hc
  rw [List.getElem_drop] at ej
  rw [List.length_drop] at hj
  subst ej
  have:=hk.view.inj (by omega) hi e
  omega
 rw [qg hA,qg hB,wA]
 have h1:(eX t ((v.cls[i]).lists a b l m)).Perm ((pre.map fun e=>((v.cls[i]).oop,e.1,e.2))++((cB t v.cls[i]).filter fun e=>decide (e.1≠name)).map fun e=>((v.cls[i]).oop,e.1,e.2)):=by
  have:=he.map fun e:ByteArray × Int=>((v.cls[i]).oop,e.1,e.2)
  rw [List.map_append] at this
  exact this
 generalize (v.cls.take i).flatMap (eX t)=A at *
 generalize (v.cls.drop (i+1)).flatMap (eX t)=B at *
 generalize ((cB t v.cls[i]).filter fun e=>decide (e.1≠name)).map (fun e=>((v.cls[i]).oop,e.1,e.2))=X at *
 generalize (pre.map fun e=>((v.cls[i]).oop,e.1,e.2))=Y at *
 refine ((h1.append_right B).append_left A).trans ?_
 have h2:(A++(Y++X++B)).Perm (Y++(A++(X++B))):=by
  rw [List.append_assoc]
  exact List.perm_append_comm_assoc A Y (X++B)
 exact h2.trans List.perm_append_comm
theorem sR {v v':KV}{t t':TB} (hw:WFT t) (hd:KD v t) (hw':WFT t') (he:Ext v v' t t'):eN t' v'=eN t v:=by
 obtain ⟨l,hl,hn⟩:=he.cls
 unfold eN
 rw [hl,List.flatMap_append]
 have h2:l.flatMap (eX t')=[]:=by
  rw [List.flatMap_eq_nil_iff]
  intro c hc
  unfold eX cB bM
  rw [(hn c hc).1]
  rfl
 rw [h2,List.append_nil]
 have:∀ c∈v.cls,eX t' c=eX t c:=fun c hc=>by
  obtain ⟨ns,h⟩:=hd c hc
  unfold eX cB
  rw [h.texts hw,(h.grow he.txt).texts hw']
  rw [List.map_congr_left fun n hn=>rl he.txt (h.num n hn)]
 rw [List.flatMap_def,List.flatMap_def,List.map_congr_left this]
variable {Q:QT}{H:aj}
abbrev Pa:Nat:=31
def Rr (n1:Int) (n2:Int) (Q:QT) (H:aj):Prop :=
 ah PP 10 #[iV n1,iV n2] (fun v3 H1=>∃ p4 n5,v3=.tuple #[pV p4,iV n5]∧cS 11 #[iV n1,iV n2] (fun v6 H2=>∃ p7 n8,v6=.tuple #[pV p7,iV n8]∧cS 33 #[iV n5] (fun v9 H3=>∃ n10,v9=iV n10∧cond (n10 != n8) (Q (.tuple #[pV none,.bool false]) H3) (cond (!((Option.isNone p4) == (Option.isNone p7))) (Q (.tuple #[pV none,.bool false]) H3) (cond (Option.isNone p4) (Q (.tuple #[pV none,.bool true]) H3) (cS 129 #[pV p4] (fun v11 H4=>∃ p12 n13,v11=.tuple #[pV p12,iV n13]∧cond (Option.isNone p12) (Q (.tuple #[pV none,.bool false]) H4) (cS 33 #[iV n13] (fun v14 H5=>∃ n15,v14=iV n15∧cond (n15 != 0) (Q (.tuple #[pV none,.bool false]) H5) (cS 18 #[pV p4,sV (⟨#[71]⟩:ByteArray)] (fun v16 H6=>∃ n17,v16=iV n17∧cS 33 #[iV n17] (fun v18 H7=>∃ n19,v18=iV n19∧cS 27 #[pV p7,sV (⟨#[71]⟩:ByteArray)] (fun v20 H8=>∃ n21,v20=iV n21∧cond (n19 != n21) (Q (.tuple #[pV none,.bool false]) H8) (cS 130 #[pV p7] (fun v22 H9=>∃ p23,v22=pV p23∧Q (.tuple #[pV (some (A0 H9.size)),.bool true]) (H9.push (.cells #[pV p4,pV p12,pV p7,pV p23] 72))) H8)) H7) H6) H5)) H4)) H3)))) H2) H1) H
theorem Kk {n1:Int}{n2:Int} (h:Rr n1 n2 Q H):ah PP 31 #[.int .i64 n1,.int .i64 n2] Q H :=
 okF Tryz.func31 rfl h
abbrev uR:Nat:=32
def RX  (Q:QT) (H:aj):Prop :=
 ah PP 31 #[iV 400,iV 60] (fun v1 H1=>∃ p2 b3,v1=.tuple #[pV p2,.bool b3]∧cond (Option.isNone p2) (Q (.bool false) H1) (cond (!b3) (Q (.bool false) H1) (∃ q4,p2=some q4∧∃ p5,ac H1 q4=some (pV p5)∧cS 26 #[pV p5] (fun v6 H2=>∃ p7,v6=pV p7∧cS 131 #[pV p7,sV (⟨#[102,111,111]⟩:ByteArray)] (fun v8 H3=>∃ n9 n10,v8=.tuple #[iV n9,iV n10]∧∃ q11,p2=some q11∧∃ p12,ac H3 q11=some (pV p12)∧cS 17 #[pV p12,sV (⟨#[80]⟩:ByteArray),sV (⟨#[79,98,106,101,99,116]⟩:ByteArray),lV none 0 0] (fun v13 H4=>∃ n14 n15,v13=.tuple #[iV n14,iV n15]∧cS 33 #[iV n10] (fun v16 H5=>∃ n17,v16=iV n17∧cond (n17 != 0) (Q (.bool false) H5) (cS 33 #[iV n15] (fun v18 H6=>∃ n19,v18=iV n19∧cond (n19 != 0) (Q (.bool false) H6) (∃ q20,p2=some q20∧∃ p21,ac H6 (q20.add 1)=some (pV p21)∧cS 34 #[pV p21,iV 4,sV (⟨#[102,111,111]⟩:ByteArray),iV 18] (fun v22 H7=>∃ n23,v22=iV n23∧cS 33 #[iV n23] (fun v24 H8=>∃ n25,v24=iV n25∧cond (n25 != 0) (Q (.bool false) H8) (∃ q26,p2=some q26∧∃ p27,ac H8 (q26.add 1)=some (pV p27)∧cS 132 #[pV p27,iV n14,iV n9] (fun v28 H9=>∃ n29 n30,v28=.tuple #[iV n29,iV n30]∧cS 132 #[pV none,iV 4,iV 0] (fun v31 H10=>∃ n32 n33,v31=.tuple #[iV n32,iV n33]∧cS 133 #[pV none,iV 4,sV (⟨#[102,111,111]⟩:ByteArray)] (fun v34 H11=>∃ n35 n36,v34=.tuple #[iV n35,iV n36]∧cS 129 #[pV none] (fun v37 H12=>∃ p38 n39,v37=.tuple #[pV p38,iV n39]∧cond (n29 == 18) (cond (n30 == 4) (cond (n32 == 0) (cond (n33 == 0) (cS 33 #[iV n36] (fun v40 H13=>∃ n41,v40=iV n41∧cond (n41 == 2) (cS 33 #[iV n39] (fun v42 H14=>∃ n43,v42=iV n43∧cond (n43 == 2) (cond (Option.isNone p38) (cS 34 #[pV none,iV 4,sV (⟨#[102,111,111]⟩:ByteArray),iV 1] (fun v44 H15=>∃ n45,v44=iV n45∧cS 33 #[iV n45] (fun v46 H16=>∃ n47,v46=iV n47∧cond (n47 == 2) (cS 36 #[pV none,iV 4,sV (⟨#[102,111,111]⟩:ByteArray)] (fun v48 H17=>∃ n49,v48=iV n49∧cS 33 #[iV n49] (fun v50 H18=>∃ n51,v50=iV n51∧cond (n51 == 2) (cS 41 #[pV none,iV 4] (fun v52 H19=>∃ a53 l53 c53,v52=lV a53 l53 c53∧cond ((l53:Int) == 0) (cS 134 #[pV none] (fun v54 H20=>∃ n55,v54=iV n55∧Q (.bool (n55 == 0)) H20) H19) (Q (.bool false) H19)) H18) (Q (.bool false) H18)) H17) H16) (Q (.bool false) H16)) H15) H14) (Q (.bool false) H14)) (Q (.bool false) H14)) H13) (Q (.bool false) H13)) H12) (Q (.bool false) H12)) (Q (.bool false) H12)) (Q (.bool false) H12)) (Q (.bool false) H12)) H11) H10) H9) H8)) H7) H6)) H5)) H4) H3) H2) H1))) H
theorem Fc  (h:RX  Q H):ah PP 32 #[] Q H :=
 okF Tryz.func32 rfl h
abbrev uU:Nat:=33
def Q3 (n1:Int) (Q:QT) (H:aj):Prop :=
 Q (iV n1) H
theorem Fz {n1:Int} (h:Q3 n1 Q H):ah PP 33 #[.int .i64 n1] Q H :=
 okF Tryz.func33 rfl h
abbrev D5:Nat:=38
def Rw (p1:Option Addr) (n2:Int) (n3:Int) (n4:Int) (n5:Int) (s6:ByteArray) (s7:ByteArray) (Q:QT) (H:aj):Prop :=
 shH (H.push (.cells #[iV n2,iV n3,iV n4,iV n5,sV s6,sV s7] 68)) fun C1=>∃ n8,ac C1 (A0 H.size)=some (iV n8)∧cond (n8 == 1) (∃ q9,p1=some q9∧∃ p10,ac C1 (q9.add 1)=some (pV p10)∧∃ n11,ac C1 ((A0 H.size).add 1)=some (iV n11)∧∃ s12,ac C1 ((A0 H.size).add 4)=some (sV s12)∧∃ n13,ac C1 ((A0 H.size).add 2)=some (iV n13)∧∃ q14,p1=some q14∧∃ p15,ac C1 (q14.add 3)=some (pV p15)∧∃ n16,ac C1 ((A0 H.size).add 1)=some (iV n16)∧∃ s17,ac C1 ((A0 H.size).add 4)=some (sV s17)∧∃ n18,ac C1 ((A0 H.size).add 2)=some (iV n18)∧cS 34 #[pV p10,iV n11,sV s12,iV n13] (fun v19 H1=>∃ n20,v19=iV n20∧((ac H1 ((A0 H.size).add 2)=some (iV n18)∧True)∧((ac H1 ((A0 H.size).add 4)=some (sV s17)∧True)∧((ac H1 ((A0 H.size).add 1)=some (iV n16)∧True)∧((ac H1 (q14.add 3)=some (pV p15)∧True)∧True))))∧cS 33 #[iV n20] (fun v21 H2=>∃ n22,v21=iV n22∧((ac H2 ((A0 H.size).add 2)=some (iV n18)∧True)∧((ac H2 ((A0 H.size).add 4)=some (sV s17)∧True)∧((ac H2 ((A0 H.size).add 1)=some (iV n16)∧True)∧((ac H2 (q14.add 3)=some (pV p15)∧True)∧True))))∧cS 35 #[pV p15,iV n16,sV s17,iV n18] (fun v23 H3=>∃ n24,v23=iV n24∧True∧Q (.bool (n22 == n24)) H3) H2) H1) C1) (cond (n8 == 2) (∃ q25,p1=some q25∧∃ p26,ac C1 (q25.add 1)=some (pV p26)∧∃ n27,ac C1 ((A0 H.size).add 1)=some (iV n27)∧∃ s28,ac C1 ((A0 H.size).add 4)=some (sV s28)∧∃ q29,p1=some q29∧∃ p30,ac C1 (q29.add 3)=some (pV p30)∧∃ n31,ac C1 ((A0 H.size).add 1)=some (iV n31)∧∃ s32,ac C1 ((A0 H.size).add 4)=some (sV s32)∧cS 36 #[pV p26,iV n27,sV s28] (fun v33 H4=>∃ n34,v33=iV n34∧((ac H4 ((A0 H.size).add 4)=some (sV s32)∧True)∧((ac H4 ((A0 H.size).add 1)=some (iV n31)∧True)∧((ac H4 (q29.add 3)=some (pV p30)∧True)∧True)))∧cS 33 #[iV n34] (fun v35 H5=>∃ n36,v35=iV n36∧((ac H5 ((A0 H.size).add 4)=some (sV s32)∧True)∧((ac H5 ((A0 H.size).add 1)=some (iV n31)∧True)∧((ac H5 (q29.add 3)=some (pV p30)∧True)∧True)))∧cS 37 #[pV p30,iV n31,sV s32] (fun v37 H6=>∃ n38,v37=iV n38∧True∧Q (.bool (n36 == n38)) H6) H5) H4) C1) (cond (n8 == 3) (∃ q39,p1=some q39∧∃ p40,ac C1 (q39.add 1)=some (pV p40)∧∃ n41,ac C1 ((A0 H.size).add 1)=some (iV n41)∧∃ n42,ac C1 ((A0 H.size).add 3)=some (iV n42)∧cS 132 #[pV p40,iV n41,iV n42] (fun v43 H7=>∃ n44 n45,v43=.tuple #[iV n44,iV n45]∧True∧∃ q46,p1=some q46∧∃ p47,ac H7 (q46.add 3)=some (pV p47)∧∃ n48,ac H7 ((A0 H.size).add 1)=some (iV n48)∧∃ n49,ac H7 ((A0 H.size).add 3)=some (iV n49)∧cS 153 #[pV p47,iV n48,iV n49] (fun v50 H8=>∃ n51 n52,v50=.tuple #[iV n51,iV n52]∧True∧cond (n44 == n51) (Q (.bool (n45 == n52)) H8) (Q (.bool false) H8)) H7) C1) (cond (n8 == 4) (∃ q53,p1=some q53∧∃ p54,ac C1 (q53.add 1)=some (pV p54)∧∃ n55,ac C1 ((A0 H.size).add 1)=some (iV n55)∧∃ s56,ac C1 ((A0 H.size).add 4)=some (sV s56)∧cS 133 #[pV p54,iV n55,sV s56] (fun v57 H9=>∃ n58 n59,v57=.tuple #[iV n58,iV n59]∧True∧∃ q60,p1=some q60∧∃ p61,ac H9 (q60.add 3)=some (pV p61)∧∃ n62,ac H9 ((A0 H.size).add 1)=some (iV n62)∧∃ s63,ac H9 ((A0 H.size).add 4)=some (sV s63)∧cS 154 #[pV p61,iV n62,sV s63] (fun v64 H10=>∃ n65 n66,v64=.tuple #[iV n65,iV n66]∧True∧cond (n58 == n65) (cS 33 #[iV n59] (fun v67 H11=>∃ n68,v67=iV n68∧Q (.bool (n68 == n66)) H11) H10) (Q (.bool false) H10)) H9) C1) (cond (n8 == 5) (∃ q69,p1=some q69∧∃ p70,ac C1 (q69.add 1)=some (pV p70)∧∃ n71,ac C1 ((A0 H.size).add 1)=some (iV n71)∧∃ q72,p1=some q72∧∃ p73,ac C1 (q72.add 3)=some (pV p73)∧∃ n74,ac C1 ((A0 H.size).add 1)=some (iV n74)∧cS 41 #[pV p70,iV n71] (fun v75 H12=>∃ a76 l76 c76,v75=lV a76 l76 c76∧((ac H12 ((A0 H.size).add 1)=some (iV n74)∧True)∧((ac H12 (q72.add 3)=some (pV p73)∧True)∧True))∧cS 42 #[pV p73,iV n74] (fun v77 H13=>∃ a78 l78 c78,v77=lV a78 l78 c78∧True∧cS 43 #[lV a76 l76 c76,lV a78 l78 c78] (fun v79 H14=>∃ b80,v79=.bool b80∧True∧Q (.bool b80) H14) H13) H12) C1) (cond (n8 == 6) (∃ q81,p1=some q81∧∃ p82,ac C1 (q81.add 1)=some (pV p82)∧cS 142 #[pV p82] (fun v83 H15=>v83=.tuple #[]∧∃ q84,p1=some q84∧∃ p85,ac H15 (q84.add 3)=some (pV p85)∧cS 155 #[pV p85] (fun v86 H16=>v86=.tuple #[]∧Q (.bool true) H16) H15) C1) (cond (n8 == 7) (∃ q87,p1=some q87∧∃ p88,ac C1 (q87.add 1)=some (pV p88)∧∃ q89,p1=some q89∧∃ p90,ac C1 (q89.add 3)=some (pV p90)∧∃ q91,p90=some q91∧∃ n92,ac C1 (q91.add 2)=some (iV n92)∧cS 134 #[pV p88] (fun v93 H17=>∃ n94,v93=iV n94∧((ac H17 (q91.add 2)=some (iV n92)∧True)∧((ac H17 (q89.add 3)=some (pV p90)∧True)∧True))∧Q (.bool (n94 == n92)) H17) C1) (cond (n8 == 8) (∃ q95,p1=some q95∧∃ p96,ac C1 q95=some (pV p96)∧∃ n97,ac C1 ((A0 H.size).add 3)=some (iV n97)∧∃ q98,p1=some q98∧∃ p99,ac C1 (q98.add 2)=some (pV p99)∧∃ q100,p99=some q100∧∃ p101,ac C1 q100=some (pV p101)∧∃ q102,p101=some q102∧∃ p103,ac C1 q102=some (pV p103)∧∃ n104,ac C1 ((A0 H.size).add 3)=some (iV n104)∧cS 19 #[pV p96] (fun v105 H18=>∃ p106,v105=pV p106∧((ac H18 ((A0 H.size).add 3)=some (iV n104)∧True)∧((ac H18 q102=some (pV p103)∧True)∧((ac H18 q100=some (pV p101)∧True)∧((ac H18 (q98.add 2)=some (pV p99)∧True)∧((ac H18 ((A0 H.size).add 3)=some (iV n97)∧True)∧True)))))∧cS 20 #[pV p106] (fun v107 H19=>∃ p108,v107=pV p108∧((ac H19 ((A0 H.size).add 3)=some (iV n104)∧True)∧((ac H19 q102=some (pV p103)∧True)∧((ac H19 q100=some (pV p101)∧True)∧((ac H19 (q98.add 2)=some (pV p99)∧True)∧((ac H19 ((A0 H.size).add 3)=some (iV n97)∧True)∧True)))))∧cS 21 #[pV p108,iV n97] (fun v109 H20=>∃ n110,v109=iV n110∧((ac H20 ((A0 H.size).add 3)=some (iV n104)∧True)∧((ac H20 q102=some (pV p103)∧True)∧((ac H20 q100=some (pV p101)∧True)∧((ac H20 (q98.add 2)=some (pV p99)∧True)∧True))))∧cS 33 #[iV n110] (fun v111 H21=>∃ n112,v111=iV n112∧((ac H21 ((A0 H.size).add 3)=some (iV n104)∧True)∧((ac H21 q102=some (pV p103)∧True)∧((ac H21 q100=some (pV p101)∧True)∧((ac H21 (q98.add 2)=some (pV p99)∧True)∧True))))∧cS 107 #[pV p103,iV n104] (fun v113 H22=>∃ n114,v113=iV n114∧True∧Q (.bool (n112 == n114)) H22) H21) H20) H19) H18) C1) (cond (n8 == 9) (∃ q115,p1=some q115∧∃ p116,ac C1 q115=some (pV p116)∧cS 19 #[pV p116] (fun v117 H23=>∃ p118,v117=pV p118∧cS 108 #[pV p118] (fun v119 H24=>∃ n120 n121 n122,v119=.tuple #[iV n120,iV n121,iV n122]∧∃ q123,p1=some q123∧∃ p124,ac H24 (q123.add 2)=some (pV p124)∧∃ q125,p124=some q125∧∃ p126,ac H24 q125=some (pV p126)∧cS 109 #[pV p126] (fun v127 H25=>∃ n128 n129 n130,v127=.tuple #[iV n128,iV n129,iV n130]∧Q (.bool true) H25) H24) H23) C1) (cond (n8 == 10) (∃ q131,p1=some q131∧∃ p132,ac C1 q131=some (pV p132)∧∃ s133,ac C1 ((A0 H.size).add 4)=some (sV s133)∧∃ s134,ac C1 ((A0 H.size).add 5)=some (sV s134)∧cS 17 #[pV p132,sV s133,sV s134,lV none 0 0] (fun v135 H26=>∃ n136 n137,v135=.tuple #[iV n136,iV n137]∧True∧∃ q138,p1=some q138∧∃ p139,ac H26 (q138.add 2)=some (pV p139)∧∃ s140,ac H26 ((A0 H.size).add 4)=some (sV s140)∧∃ s141,ac H26 ((A0 H.size).add 5)=some (sV s141)∧cS 103 #[pV p139,sV s140,sV s141,lV none 0 0] (fun v142 H27=>∃ n143 n144,v142=.tuple #[iV n143,iV n144]∧True∧cond (n136 == n143) (cS 33 #[iV n137] (fun v145 H28=>∃ n146,v145=iV n146∧Q (.bool (n146 == n144)) H28) H27) (Q (.bool false) H27)) H26) C1) (cond (n8 == 11) (∃ q147,p1=some q147∧∃ p148,ac C1 q147=some (pV p148)∧∃ s149,ac C1 ((A0 H.size).add 4)=some (sV s149)∧cS 26 #[pV p148] (fun v150 H29=>∃ p151,v150=pV p151∧((ac H29 ((A0 H.size).add 4)=some (sV s149)∧True)∧True)∧cS 131 #[pV p151,sV s149] (fun v152 H30=>∃ n153 n154,v152=.tuple #[iV n153,iV n154]∧True∧∃ q155,p1=some q155∧∃ p156,ac H30 (q155.add 2)=some (pV p156)∧∃ q157,p156=some q157∧∃ p158,ac H30 (q157.add 1)=some (pV p158)∧∃ s159,ac H30 ((A0 H.size).add 4)=some (sV s159)∧cS 60 #[pV p158,sV s159] (fun v160 H31=>∃ n161 n162,v160=.tuple #[iV n161,iV n162]∧True∧cond (n153 == n161) (cS 33 #[iV n154] (fun v163 H32=>∃ n164,v163=iV n164∧Q (.bool (n164 == n162)) H32) H31) (Q (.bool false) H31)) H30) H29) C1) (cond (n8 == 12) (cS 156 #[pV p1] (fun v165 H33=>∃ b166,v165=.bool b166∧Q (.bool b166) H33) C1) (Q (.bool true) C1))))))))))))
theorem HT {p1:Option Addr}{n2:Int}{n3:Int}{n4:Int}{n5:Int}{s6:ByteArray}{s7:ByteArray} (h:Rw p1 n2 n3 n4 n5 s6 s7 Q H):ah PP 38 #[.pointer p1,.agg #[.int .i64 n2,.int .i64 n3,.int .i64 n4,.int .i64 n5,.string s6,.string s7]] Q H :=
 okF Tryz.func38 rfl h
abbrev D0:Nat:=43
def QN (a1:Option Addr) (l1:Nat) (_c1:Nat) (a2:Option Addr) (l2:Nat) (_c2:Nat) (Q:QT) (H:aj):Prop :=
 cond ((l1:Int) != (l2:Int)) (Q (.bool false) H) (∃(I3:IT) (μ3:MT),I3 [iV 0] H∧∀ w4 H1,I3 w4 H1->∀ _g:Nat->Value,∃ n5,w4=[iV n5]∧cond (decide (n5<(l1:Int))) (((0:Int)<=n5∧n5<(l1:Int))∧∃ q6,a1=some q6∧∃ s7,ac H1 (q6.add (Int.toNat n5*1))=some (sV s7)∧((0:Int)<=n5∧n5<(l2:Int))∧∃ q8,a2=some q8∧∃ s9,ac H1 (q8.add (Int.toNat n5*1))=some (sV s9)∧cond (!(cQ s7 s9)) (Q (.bool false) H1) (I3 [iV (wW (n5+1))] H1∧μ3 [iV (wW (n5+1))] H1<μ3 w4 H1)) (Q (.bool true) H1))
theorem Gi {a1:Option Addr}{l1:Nat}{c1:Nat}{a2:Option Addr}{l2:Nat}{c2:Nat} (h:QN a1 l1 c1 a2 l2 c2 Q H):ah PP 43 #[.slice a1 l1 c1,.slice a2 l2 c2] Q H :=
 aN good Tryz.func43 rfl (Ls:=fun | 4=>some [(5,3)] | _=>none) (by kernel_rfl) h
abbrev Md:Nat:=44
def Rb (n1:Int) (Q:QT) (H:aj):Prop :=
 bk PP (convert 214 9 (lV (some (A0 H.size)) 3 3)) (fun v2 H1=>∃ s3,v2=sV s3∧Q (sV s3) H1) (H.push (.cells #[.int .u8 109,.int .u8 (IntKind.wrap .u8 (eZ .i64 n1 8)),.int .u8 (IntKind.wrap .u8 n1)] 5))
theorem Gq {n1:Int} (h:Rb n1 Q H):ah PP 44 #[.int .i64 n1] Q H :=
 okF Tryz.func44 rfl h
abbrev D9:Nat:=45
def RI (p1:Option Addr) (Q:QT) (H:aj):Prop :=
 ∃ q2,p1=some q2∧∃ p3,ac H (q2.add 2)=some (pV p3)∧cS 40 #[pV p3] (fun v4 H1=>∃ a5 l5 c5,v4=lV a5 l5 c5∧∃(I6:IT) (μ6:MT),I6 [iV 0] H1∧∀ w7 H2,I6 w7 H2->∀ _g:Nat->Value,∃ n8,w7=[iV n8]∧cond (decide (n8<(l5:Int))) (∃ q9,p1=some q9∧∃ p10,ac H2 (q9.add 3)=some (pV p10)∧((0:Int)<=n8∧n8<(l5:Int))∧∃ q11,a5=some q11∧∃ n12,ac H2 (q11.add (Int.toNat n8*1))=some (iV n12)∧cS 42 #[pV p10,iV n12] (fun v13 H3=>∃ a14 l14 c14,v13=lV a14 l14 c14∧True∧∃ q15,p1=some q15∧∃ p16,ac H3 (q15.add 1)=some (pV p16)∧((0:Int)<=n8∧n8<(l5:Int))∧∃ q17,a5=some q17∧∃ n18,ac H3 (q17.add (Int.toNat n8*1))=some (iV n18)∧cS 41 #[pV p16,iV n18] (fun v19 H4=>∃ a20 l20 c20,v19=lV a20 l20 c20∧True∧cS 43 #[lV a20 l20 c20,lV a14 l14 c14] (fun v21 H5=>∃ b22,v21=.bool b22∧True∧cond (!b22) (Q (.bool false) H5) (∃(I23:IT) (μ23:MT),I23 [iV 0] H5∧∀ w24 H6,I23 w24 H6->∀ _g:Nat->Value,∃ n25,w24=[iV n25]∧cond (decide (n25<(l14:Int))) (∃ q26,p1=some q26∧∃ p27,ac H6 (q26.add 1)=some (pV p27)∧((0:Int)<=n8∧n8<(l5:Int))∧∃ q28,a5=some q28∧∃ n29,ac H6 (q28.add (Int.toNat n8*1))=some (iV n29)∧((0:Int)<=n25∧n25<(l14:Int))∧∃ q30,a14=some q30∧∃ s31,ac H6 (q30.add (Int.toNat n25*1))=some (sV s31)∧cS 133 #[pV p27,iV n29,sV s31] (fun v32 H7=>∃ n33 n34,v32=.tuple #[iV n33,iV n34]∧True∧∃ q35,p1=some q35∧∃ p36,ac H7 (q35.add 3)=some (pV p36)∧((0:Int)<=n8∧n8<(l5:Int))∧∃ q37,a5=some q37∧∃ n38,ac H7 (q37.add (Int.toNat n8*1))=some (iV n38)∧((0:Int)<=n25∧n25<(l14:Int))∧∃ q39,a14=some q39∧∃ s40,ac H7 (q39.add (Int.toNat n25*1))=some (sV s40)∧cS 154 #[pV p36,iV n38,sV s40] (fun v41 H8=>∃ n42 n43,v41=.tuple #[iV n42,iV n43]∧True∧cond (n33 != n42) (Q (.bool false) H8) (cS 33 #[iV n34] (fun v44 H9=>∃ n45,v44=iV n45∧cond (n45 != n43) (Q (.bool false) H9) (I23 [iV (wW (n25+1))] H9∧μ23 [iV (wW (n25+1))] H9<μ23 w24 H6)) H8)) H7) H6) (I6 [iV (wW (n8+1))] H6∧μ6 [iV (wW (n8+1))] H6<μ6 w7 H2))) H4) H3) H2) (∃ q46,p1=some q46∧∃ p47,ac H2 q46=some (pV p47)∧cS 19 #[pV p47] (fun v48 H10=>∃ p49,v48=pV p49∧cS 85 #[pV p49] (fun v50 H11=>∃ n51 n52,v50=.tuple #[iV n51,iV n52]∧∃ q53,p1=some q53∧∃ p54,ac H11 (q53.add 2)=some (pV p54)∧∃ q55,p54=some q55∧∃ p56,ac H11 q55=some (pV p56)∧cS 86 #[pV p56] (fun v57 H12=>∃ n58 n59,v57=.tuple #[iV n58,iV n59]∧cond (n51 == n58) (cond (n52 == n59) (∃ q60,p1=some q60∧∃ p61,ac H12 q60=some (pV p61)∧∃ q62,p1=some q62∧∃ p63,ac H12 (q62.add 2)=some (pV p63)∧∃ q64,p63=some q64∧∃ p65,ac H12 q64=some (pV p65)∧∃ q66,p65=some q66∧∃ p67,ac H12 q66=some (pV p67)∧cS 19 #[pV p61] (fun v68 H13=>∃ p69,v68=pV p69∧((ac H13 q66=some (pV p67)∧True)∧((ac H13 q64=some (pV p65)∧True)∧((ac H13 (q62.add 2)=some (pV p63)∧True)∧True)))∧cS 20 #[pV p69] (fun v70 H14=>∃ p71,v70=pV p71∧((ac H14 q66=some (pV p67)∧True)∧((ac H14 q64=some (pV p65)∧True)∧((ac H14 (q62.add 2)=some (pV p63)∧True)∧True)))∧cS 81 #[pV p71] (fun v72 H15=>∃ n73,v72=iV n73∧((ac H15 q66=some (pV p67)∧True)∧((ac H15 q64=some (pV p65)∧True)∧((ac H15 (q62.add 2)=some (pV p63)∧True)∧True)))∧cS 82 #[pV p67] (fun v74 H16=>∃ n75,v74=iV n75∧True∧cond (n73 == n75) (∃ q76,p1=some q76∧∃ p77,ac H16 q76=some (pV p77)∧cS 19 #[pV p77] (fun v78 H17=>∃ p79,v78=pV p79∧True∧cS 83 #[pV p79] (fun v80 H18=>∃ a81 l81 c81,v80=lV a81 l81 c81∧True∧cond ((l81:Int) == 0) (∃ q82,p1=some q82∧∃ p83,ac H18 (q82.add 1)=some (pV p83)∧∃ q84,p1=some q84∧∃ p85,ac H18 (q84.add 3)=some (pV p85)∧∃ q86,p85=some q86∧∃ n87,ac H18 (q86.add 2)=some (iV n87)∧cS 134 #[pV p83] (fun v88 H19=>∃ n89,v88=iV n89∧((ac H19 (q86.add 2)=some (iV n87)∧True)∧((ac H19 (q84.add 3)=some (pV p85)∧True)∧True))∧Q (.bool (n89 == n87)) H19) H18) (Q (.bool false) H18)) H17) H16) (Q (.bool false) H16)) H15) H14) H13) H12) (Q (.bool false) H12)) (Q (.bool false) H12)) H11) H10) H2)) H
theorem Iu {p1:Option Addr} (h:RI p1 Q H):ah PP 45 #[.pointer p1] Q H :=
 aN good Tryz.func45 rfl (Ls:=fun | 3=>some [(4,3)] | 9=>some [(6,3)] | _=>none) (by kernel_rfl) h
abbrev KN:Nat:=156
def PG (p1:Option Addr) (Q:QT) (H:aj):Prop :=
 ∃ q2,p1=some q2∧∃ p3,ac H q2=some (pV p3)∧cS 19 #[pV p3] (fun v4 H1=>∃ p5,v4=pV p5∧cS 238 #[pV p5,iV 40,iV 1,iV 1] (fun v6 H2=>∃ n7 n8,v6=.tuple #[iV n7,iV n8]∧∃ q9,p1=some q9∧∃ p10,ac H2 (q9.add 2)=some (pV p10)∧∃ q11,p10=some q11∧∃ p12,ac H2 q11=some (pV p12)∧cS 216 #[pV p12,iV 40,iV 1,iV 1] (fun v13 H3=>∃ n14 n15,v13=.tuple #[iV n14,iV n15]∧cond (n7 != n14) (Q (.bool false) H3) (cS 33 #[iV n8] (fun v16 H4=>∃ n17,v16=iV n17∧cond (n17 != n15) (Q (.bool false) H4) (cond (n15 != 0) (Q (.bool true) H4) (∃ q18,p1=some q18∧∃ p19,ac H4 q18=some (pV p19)∧∃ q20,p1=some q20∧∃ p21,ac H4 (q20.add 2)=some (pV p21)∧cS 69 #[pV p19,iV 0,iV n7] (fun v22 H5=>∃ n23,v22=iV n23∧((ac H5 (q20.add 2)=some (pV p21)∧True)∧True)∧cS 33 #[iV n23] (fun v24 H6=>∃ n25,v24=iV n25∧((ac H6 (q20.add 2)=some (pV p21)∧True)∧True)∧cS 105 #[pV p21,iV 0,iV n14] (fun v26 H7=>∃ n27,v26=iV n27∧True∧Q (.bool (n25 == n27)) H7) H6) H5) H4))) H3)) H2) H1) H
theorem z6 {p1:Option Addr} (h:PG p1 Q H):ah PP 156 #[.pointer p1] Q H :=
 okF Tryz.func156 rfl h
end Go.Proofs.YtmkdkplipbocjaaGreatDoor
namespace Go.Proofs.YtmkdkplipbocjaaGreatDoor
open Kw
def M6:CV:=⟨0,0,0,[],0,0,0,[],[],0⟩
noncomputable def mf (s:SP) (t:TB) (v:KV) (o:Int) (name:ByteArray) (m:Int):Int × SP:=match dZ v o with
 | some i=>iC s t (v.cls.getD i M6) name m
 | none=>(130,s)
noncomputable def oV (s:SP) (t:TB) (v:KV) (o:Int) (name:ByteArray):Int × SP:=match dZ v o with
 | some i=>i5 s t (v.cls.getD i M6) name
 | none=>(130,s)
structure ChgO (v:KV) (t:TB) (o n:Int) (name:ByteArray) (pre:List (ByteArray × Int)) (v':KV):Prop where
 kd:KD v' t
 bad:n≠0->v'=v
 ent:n=0->(eN t v').Perm ((eN t v).filter (other o name)++pre.map fun e=>(o,e.1,e.2))
theorem mL {v:KV}{i:Nat} (hi:i<v.cls.length):v.cls.getD i M6=v.cls[i]:=by simp [hi]
theorem DL {s:SP}{t:TB}{v:KV} (h:KAll s t v) (hd:KD v t) (o:Int) (name:ByteArray) (m:Int):∃ v',KAll (mf s t v o name m).2 t v'∧ChgO v t o (mf s t v o name m).1 name [(name,m)] v':=by
 unfold mf
 cases hp:dZ v o with
 | none=>exact ⟨v,h,hd,fun _=>rfl,fun hn=>absurd (show (130:Int)=0 from hn) (by decide)⟩
 | some i =>
  obtain ⟨hi,rfl⟩:=cd hp
  simp only [mL hi]
  obtain ⟨v',hv,hc⟩:=zr h hd hi name m
  refine ⟨v',hv,hc.kd,hc.bad,fun hn=>?_⟩
  obtain ⟨_,a,b,l,ms,e,hE⟩:=hc.good hn
  exact sY (pre:=[(name,m)]) h.ks hi e hE
theorem Av {s:SP}{t:TB}{v:KV} (h:KAll s t v) (hd:KD v t) (o:Int) (name:ByteArray):∃ v',KAll (oV s t v o name).2 t v'∧ChgO v t o (oV s t v o name).1 name [] v':=by
 unfold oV
 cases hp:dZ v o with
 | none=>exact ⟨v,h,hd,fun _=>rfl,fun hn=>absurd (show (130:Int)=0 from hn) (by decide)⟩
 | some i =>
  obtain ⟨hi,rfl⟩:=cd hp
  simp only [mL hi]
  obtain ⟨v',hv,hc⟩:=zc h hd hi name
  refine ⟨v',hv,hc.kd,hc.bad,fun hn=>?_⟩
  obtain ⟨_,a,b,l,ms,e,hE⟩:=hc.good hn
  exact sY (pre:=[]) h.ks hi e hE
theorem dX.ext {s s':SP}{v v':KV}{t t':TB}{es:List ((Int × Int) × Value)} (h:dX v es) (hk:KS s v) (hk':KS s' v') (he:Ext v v' t t'):dX v' es:=fun p hp=>by
 obtain ⟨i,e1,e2⟩:=h p hp
 obtain ⟨hi,_⟩:=cd e1
 refine ⟨i,uX he e1,?_⟩
 rw [e2]
 unfold cF
 rw [pM hk hk' he _ _ i hi]
theorem dX.nil (v:KV):dX v []:=fun p hp=>by cases hp
section
variable {H H1 H2:aj}{bb b mb rb br x:Nat}{F Fp Fq G:ay}{s:SP}{t:TB}{v:KV}{es:List ((Int × Int) × Value)}{seen:List (Int × Int)}{hits cnt:Int}{n:Nat}{Q:QT}
theorem vA (hB:PB H bb b F mb s t es hits) (hv:KAll s t v) (hd:KD v t){o m:Int}{name:ByteArray}
  (h:∀ H' F',PB H' bb b F' mb (mf s t v o name m).2 t (xC (mf s t v o name m).1 es) hits->Up (mb :: F) H (mb :: F') H'->Q (.int .i64 (mf s t v o name m).1) H'):ah PP vg #[.pointer (some ⟨bb,0,none⟩),.int .i64 o,.string name,.int .i64 m] Q H:=by
 unfold mf at h
 refine IR hB hv hd (fun i hi hp H' F' hP hu=>?_) fun hp H' f=>?_
 ·rw [hp] at h
  simp only [mL hi] at h
  exact h H' F' hP hu
 ·rw [hp] at h
  exact h H' F (by rw [jx (n:=130) (by decide)];exact hB.nil f) (Up.cons (Up.of_nil f))
theorem BW (hB:PB H bb b F mb s t es hits) (hv:KAll s t v) (hd:KD v t){o:Int}{name:ByteArray}
  (h:∀ H' F',PB H' bb b F' mb (oV s t v o name).2 t (xC (oV s t v o name).1 es) hits->Up (mb :: F) H (mb :: F') H'->Q (.int .i64 (oV s t v o name).1) H'):ah PP vE #[.pointer (some ⟨bb,0,none⟩),.int .i64 o,.string name] Q H:=by
 unfold oV at h
 refine wV hB hv hd (fun i hi hp H' F' hP hu=>?_) fun hp H' f=>?_
 ·rw [hp] at h
  simp only [mL hi] at h
  exact h H' F' hP hu
 ·rw [hp] at h
  exact h H' F (by rw [jx (n:=130) (by decide)];exact hB.nil f) (Up.cons (Up.of_nil f))
theorem CY (hB:RBk H rb b F G s t seen cnt) (hv:KAll s t v) (hd:KD v t){o m:Int}{name:ByteArray}
  (h:∀ H' F' G',RBk H' rb b F' G' (mf s t v o name m).2 t (lP (mf s t v o name m).1 seen) cnt->Up (rb :: (G++F)) H (rb :: (G'++F')) H'->Q (.int .i64 (mf s t v o name m).1) H'):ah PP yn #[.pointer (some ⟨rb,0,none⟩),.int .i64 o,.string name,.int .i64 m] Q H:=by
 unfold mf at h
 refine KH hB hv hd (fun i hi hp H' F' G' hP hu=>?_) fun hp H' f=>?_
 ·rw [hp] at h
  simp only [mL hi] at h
  exact h H' F' G' hP hu
 ·rw [hp] at h
  exact h H' F G (by rw [iK (n:=130) (by decide)];exact hB.nil f) (RBk.fin (Up.of_nil f) fun _ h=>.inl h)
theorem zN (hB:RBk H rb b F G s t seen cnt) (hv:KAll s t v) (hd:KD v t){o:Int}{name:ByteArray}
  (h:∀ H' F' G',RBk H' rb b F' G' (oV s t v o name).2 t (lP (oV s t v o name).1 seen) cnt->Up (rb :: (G++F)) H (rb :: (G'++F')) H'->Q (.int .i64 (oV s t v o name).1) H'):ah PP xQ #[.pointer (some ⟨rb,0,none⟩),.int .i64 o,.string name] Q H:=by
 unfold oV at h
 refine wk hB hv hd (fun i hi hp H' F' G' hP hu=>?_) fun hp H' f=>?_
 ·rw [hp] at h
  simp only [mL hi] at h
  exact h H' F' G' hP hu
 ·rw [hp] at h
  exact h H' F G (by rw [iK (n:=130) (by decide)];exact hB.nil f) (RBk.fin (Up.of_nil f) fun _ h=>.inl h)
structure Bo (H:aj) (x bb b rb br mb:Nat) (Fp Fq G:ay) (s:SP) (t:TB) (v:KV) (es:List ((Int × Int) × Value)) (seen:List (Int × Int)) (hits:Int) (n:Nat):Prop where
 xb:bA H x #[.pointer (some ⟨b,0,none⟩),.pointer (some ⟨bb,0,none⟩),.pointer (some ⟨br,0,none⟩),.pointer (some ⟨rb,0,none⟩)]
 p:PB H bb b Fp mb s t es hits
 r:RBk H rb br Fq G s t seen hits
 dis:bi (bb :: mb :: Fp) (rb :: (G++Fq))
 gk:aE∉rb :: (G++Fq)
 xp:x∉bb :: mb :: Fp
 xq:x∉rb :: (G++Fq)
 va:KAll s t v
 kd:KD v t
 ok:dX v es
 same:∀ k,fD es k≠none↔k∈seen
 num:seen.length<=n
abbrev FA (bb mb:Nat) (Fp:ay) (rb:Nat) (G Fq:ay):ay:=(bb :: mb :: Fp)++(rb :: (G++Fq))
theorem Bo.r1 (h:Bo H x bb b rb br mb Fp Fq G s t v es seen hits n){Fp':ay} (u:Up (bb :: mb :: Fp) H (bb :: mb :: Fp') H1):RBk H1 rb br Fq G s t seen hits:=h.r.fr u.1 h.dis.symm
theorem Bo.both (h:Bo H x bb b rb br mb Fp Fq G s t v es seen hits n){Fp' Fq' G':ay}{s':SP}{t':TB}{v':KV}{es':List ((Int × Int) × Value)}{seen':List (Int × Int)}{hits':Int}{n':Nat}
  (hP:PB H1 bb b Fp' mb s' t' es' hits') (u1:Up (bb :: mb :: Fp) H (bb :: mb :: Fp') H1) (hR:RBk H2 rb br Fq' G' s' t' seen' hits') (u2:Up (rb :: (G++Fq)) H1 (rb :: (G'++Fq')) H2)
  (hv:KAll s' t' v') (hd:KD v' t') (hc:dX v' es') (hs:∀ k,fD es' k≠none↔k∈seen') (hn:seen'.length<=n') :
  Bo H2 x bb b rb br mb Fp' Fq' G' s' t' v' es' seen' hits' n'∧Up (FA bb mb Fp rb G Fq) H (FA bb mb Fp' rb G' Fq') H2:=by
 have l0:∀ y∈rb :: (G++Fq),y<H.size:=h.r.lt
 have l1:∀ y∈bb :: mb :: Fp',y<H1.size:=hP.lt
 have d1:bi (bb :: mb :: Fp') (rb :: (G++Fq)):=fun y hy hm=>by
  rcases u1.2 y hy with h1 | h1
  ·exact h.dis y h1 hm
  ·have:=l0 y hm;omega
 have d2:bi (bb :: mb :: Fp') (rb :: (G'++Fq')):=fun y hy hm=>by
  rcases u2.2 y hm with h1 | h1
  ·exact d1 y hy h1
  ·have:=l1 y hy;omega
 have hgl:aE<H.size:=h.p.k.kinds.lt
 have hs1:=u1.1.1
 have q1:=h.xb.lt
 have xp':=Up.out u1 h.xp q1
 have xq':=Up.out u2 h.xq (Nat.lt_of_lt_of_le q1 hs1)
 refine ⟨⟨(h.xb.fr u1.1 h.xp).fr u2.1 h.xq,hP.fr u2.1 d1 h.gk,hR,d2,fun hm=>?_,xp',xq',hv,hd,hc,hs,hn⟩,(u1.1.mono fun y hy=>List.mem_append.2 (.inl hy)).trans (u2.1.mono fun y hy=>List.mem_append.2 (.inr hy)),fun y hy=>?_⟩
 ·rcases u2.2 _ hm with h1 | h1
  ·exact h.gk h1
  ·omega
 ·rcases List.mem_append.1 hy with hy | hy
  ·exact (u1.2 y hy).imp (fun h=>List.mem_append.2 (.inl h)) id
  ·exact (u2.2 y hy).imp (fun h=>List.mem_append.2 (.inr h)) fun h=>Nat.le_trans hs1 h
theorem Bo.fr (h:Bo H x bb b rb br mb Fp Fq G s t v es seen hits n){K:ay} (f:Fr K H H1) (hd:bi (FA bb mb Fp rb G Fq) K) (hg:aE∉K) (hx:x∉K):Bo H1 x bb b rb br mb Fp Fq G s t v es seen hits n :=
 ⟨h.xb.fr f hx,h.p.fr f (hd.mono (fun y hy=>List.mem_append.2 (.inl hy)) fun _ h=>h) hg,h.r.fr f (hd.mono (fun y hy=>List.mem_append.2 (.inr hy)) fun _ h=>h),h.dis,h.gk,h.xp,h.xq,h.va,h.kd,h.ok,h.same,h.num⟩
theorem Bo.nil (h:Bo H x bb b rb br mb Fp Fq G s t v es seen hits n) (f:Fr [] H H1):Bo H1 x bb b rb br mb Fp Fq G s t v es seen hits n:=h.fr f (bi.nil_right _) (by simp) (by simp)
theorem Bo.more (h:Bo H x bb b rb br mb Fp Fq G s t v es seen hits n){n':Nat} (hn:n<=n'):Bo H x bb b rb br mb Fp Fq G s t v es seen hits n' :=
 ⟨h.xb,h.p,h.r,h.dis,h.gk,h.xp,h.xq,h.va,h.kd,h.ok,h.same,Nat.le_trans h.num hn⟩
theorem QA {Fp':ay} (u:Up Fp H Fp' H1):Up (bb :: mb :: Fp) H (bb :: mb :: Fp') H1:=Up.cons (Up.cons u)
theorem R2 {Fq':ay} (u:Up Fq H Fq' H1):Up (rb :: (G++Fq)) H (rb :: (G++Fq')) H1:=RBk.fin u fun _ h=>.inl h
theorem Bo.kern (h:Bo H x bb b rb br mb Fp Fq G s t v es seen hits n){Fp' Fq':ay}{s':SP}{t':TB}{v':KV} (hP:PK H1 b Fp' s' t') (u1:Up Fp H Fp' H1) (hR:RK H2 br Fq' s' t') (u2:Up Fq H1 Fq' H2) (hv:KAll s' t' v') (he:Ext v v' t t') :
  Bo H2 x bb b rb br mb Fp' Fq' G s' t' v' es seen hits n∧Up (FA bb mb Fp rb G Fq) H (FA bb mb Fp' rb G Fq') H2∧eN t' v'=eN t v:=by
 have r1:=h.r1 (QA (bb:=bb) (mb:=mb) u1)
 obtain ⟨a1,a2⟩:=h.both (h.p.up hP u1) (QA u1) (r1.up hR u2) (R2 u2) hv (h.kd.ext he) (h.ok.ext h.va.ks hv.ks he) h.same h.num
 exact ⟨a1,a2,sR h.va.names.wf h.kd hv.names.wf he⟩
theorem Bo.rk (h:Bo H x bb b rb br mb Fp Fq G s t v es seen hits n){Fp':ay} (u1:Up Fp H Fp' H1):RK H1 br Fq s t:=(h.r1 (QA (bb:=bb) (mb:=mb) u1)).k
end
def qJ (v:KV) (t:TB) (o:Int):List ByteArray:=match dZ v o with
 | some i=>bM t (v.cls.getD i M6)
 | none=>[]
noncomputable def Qm (v:KV) (t:TB) (o:Int) (x:ByteArray):Int × Int:=match dZ v o with
 | some i=>Lo t (v.cls.getD i M6) x
 | none=>(0,130)
def xX (v:KV) (o x:Int):Int × Int:=match dZ v o with
 | some i=>cF v (4*x+2) i
 | none=>(0,0)
theorem sH {s:SP}{c n f:Int}:(if (s.alloc c n f).1.2=0 then (s.alloc c n f).1.1 else 0)=(s.alloc c n f).1.1:=by
 have key:∀ r:RH,(r.alloc c n f).1.2≠0->(r.alloc c n f).1.1=0:=fun r h=>by
  unfold RH.alloc at h ⊢
  split
  ·rfl
  split
  ·rfl
  split
  ·rfl
  split
  ·rfl
  rename_i h1 h2 h3 h4
  rw [if_neg h1,if_neg h2,if_neg h3,if_neg h4] at h
  exact absurd rfl h
 by_cases h:(s.alloc c n f).1.2=0
 ·rw [if_pos h]
 ·rw [if_neg h]
  unfold SP.alloc at h ⊢
  split
  ·rename_i hc
   rw [if_pos hc] at h
   simp only [key _ h];rfl
  ·rename_i hc
   rw [if_neg hc] at h
   simp only [key _ h];rfl
theorem wP {es:List ((Int × Int) × Value)}{k k':Int × Int}{w:Value}:fD (es++[(k',w)]) k≠none↔fD es k≠none∨k=k':=by
 induction es with
 | nil =>
  unfold fD
  by_cases h:k=k'
  ·simp [h]
  ·simp [h,fD]
 | cons p l ih =>
  simp only [List.cons_append]
  unfold fD
  by_cases h:k=p.1
  ·simp [h]
  ·rw [if_neg h,if_neg h];exact ih
section
variable {H H1 H2:aj}{bb b mb rb br x sb:Nat}{F Fp Fq G:ay}{s:SP}{t:TB}{v:KV}{es:List ((Int × Int) × Value)}{seen:List (Int × Int)}{hits cnt:Int}{n:Nat}{Q:QT}
theorem dW {n:Int} (h:Q (.int .i64 n) H):ah PP uU #[.int .i64 n] Q H:=by
 apply Fz
 unfold Q3 iV
 exact h
theorem rP (hK:PK H b F s t) (hv:KAll s t v) (hd:KD v t) (hc:KP H bb b){o:Int} (h:∀ a l c G H',bv 1 H' a l c (aO (qJ v t o)) G->Fr [] H H'->(∀ x∈G,H.size<=x)->Q (.slice a l c) H'):ah PP yy #[.pointer (some ⟨bb,0,none⟩),.int .i64 o] Q H:=by
 unfold qJ at h
 refine rO hK hv hd hc (fun i hi hp a l c G H' ho f hG=>?_) fun hp H' f=>?_
 ·rw [hp] at h
  simp only [mL hi] at h
  exact h _ _ _ _ H' ho f hG
 ·rw [hp] at h
  exact h _ _ _ _ H' (bv.nil 1 _) f (by simp)
theorem rI (hK:RK H b F s t) (hv:KAll s t v) (hd:KD v t) (hc:KP H rb b){o:Int} (h:∀ a l c G H',bv 1 H' a l c (aO (qJ v t o)) G->Fr [] H H'->(∀ x∈G,H.size<=x)->Q (.slice a l c) H'):ah PP D6 #[.pointer (some ⟨rb,0,none⟩),.int .i64 o] Q H:=by
 unfold qJ at h
 refine rf hK hv hd hc (fun i hi hp a l c G H' ho f hG=>?_) fun hp H' f=>?_
 ·rw [hp] at h
  simp only [mL hi] at h
  exact h _ _ _ _ H' ho f hG
 ·rw [hp] at h
  exact h _ _ _ _ H' (bv.nil 1 _) f (by simp)
theorem xD (hK:PK H b F s t) (hv:KAll s t v) (hd:KD v t) (hc:KP H bb b){o:Int}{y:ByteArray} (h:∀ H',Fr [] H H'->Q (mP (Qm v t o y)) H'):ah PP uf #[.pointer (some ⟨bb,0,none⟩),.int .i64 o,.string y] Q H:=by
 unfold Qm at h
 refine Po hK hv hd hc (fun i hi hp H' f=>?_) fun hp H' f=>?_
 ·rw [hp] at h
  simp only [mL hi] at h
  exact h H' f
 ·rw [hp] at h
  exact h H' f
theorem x9 (hK:RK H b F s t) (hv:KAll s t v) (hd:KD v t) (hc:KP H rb b){o:Int}{y:ByteArray} (h:∀ H',Fr [] H H'->Q (mP (Qm v t o y)) H'):ah PP yN #[.pointer (some ⟨rb,0,none⟩),.int .i64 o,.string y] Q H:=by
 unfold Qm at h
 refine NB hK hv hd hc (fun i hi hp H' f=>?_) fun hp H' f=>?_
 ·rw [hp] at h
  simp only [mL hi] at h
  exact h H' f
 ·rw [hp] at h
  exact h H' f
theorem yk (hB:Bo H x bb b rb br mb Fp Fq G s t v es seen hits n) (hn:n<=1200000000000){o y:Int}
  (h:∀ H1,Fr (bb :: mb :: Fp) H H1->(∀ Q2:Value->aj->Prop,(∀ H2 G' es' seen' hits',Bo H2 x bb b rb br mb Fp Fq G' s t v es' seen' hits' (n+1)->Up (FA bb mb Fp rb G Fq) H (FA bb mb Fp rb G' Fq) H2->Q2 (mP (xX v o y)) H2)->ah PP yd #[.pointer (some ⟨rb,0,none⟩),.int .i64 o,.int .i64 y] Q2 H1)->Q (mP (xX v o y)) H1) :
  ah PP ue #[.pointer (some ⟨bb,0,none⟩),.int .i64 o,.int .i64 y] Q H:=by
 have hle:seen.length<=1200000000000:=Nat.le_trans hB.num hn
 unfold xX at h
 refine pW hB.p hB.va hB.kd hB.ok (fun i hi hp hg H1 hP f1=>?_) (fun i hi hp hg H1 hP f1=>?_) fun hp H1 f1=>?_
 ·rw [hp] at h
  have u1:Up (bb :: mb :: Fp) H (bb :: mb :: Fp) H1:=⟨f1,fun _ h=>.inl h⟩
  have hR:=hB.r1 u1
  refine h H1 f1 fun Q2 hq=>lO hR hle hB.va hB.kd (fun i' hi' hp' hm H2 hR2 f2=>?_) (fun i' hi' hp' hm H2 G2 hR2 u2=>?_) fun hp'=>?_
  ·rw [hp] at hp';cases hp'
   obtain ⟨b1,b2⟩:=hB.both hP u1 hR2 ⟨f2.mono (by simp),fun _ h=>.inl h⟩ hB.va hB.kd hB.ok hB.same (Nat.le_trans hB.num (Nat.le_succ n))
   exact hq H2 G es seen _ b1 b2
  ·exact absurd ((hB.same _).1 hg) hm
  ·rw [hp] at hp';cases hp'
 ·rw [hp] at h
  have u1:Up (bb :: mb :: Fp) H (bb :: mb :: Fp) H1:=⟨f1,fun _ h=>.inl h⟩
  have hR:=hB.r1 u1
  have hno:(o,y)∉seen:=fun hm=>(hB.same _).2 hm hg
  refine h H1 f1 fun Q2 hq=>lO hR hle hB.va hB.kd (fun i' hi' hp' hm H2 hR2 f2=>absurd hm hno) (fun i' hi' hp' hm H2 G2 hR2 u2=>?_) fun hp'=>?_
  ·rw [hp] at hp';cases hp'
   have u2':Up (rb :: (G++Fq)) H1 (rb :: (G2++Fq)) H2:=⟨u2.1.mono fun z hz=>by
    rcases List.mem_cons.1 hz with rfl | hz
    ·simp
    ·simp [hz],fun z hz=>by
    simp only [List.mem_cons,List.mem_append] at hz ⊢
    rcases hz with rfl | hz | hz
    ·exact .inl (.inl rfl)
    ·exact (u2.2 z (by simp [hz])).imp (fun h=>by
      rcases List.mem_cons.1 h with rfl | h
      ·exact .inl rfl
      ·exact .inr (.inl h)) id
    ·exact .inl (.inr (.inr hz))⟩
   obtain ⟨b1,b2⟩:=hB.both (n':=n+1) hP u1 hR2 u2' hB.va hB.kd (fun p hp'=>by
    rcases List.mem_append.1 hp' with hp' | hp'
    ·exact hB.ok p hp'
    ·simp only [List.mem_singleton] at hp'
     subst hp'
     exact ⟨i,hp,rfl⟩) (fun k=>by
    rw [wP,hB.same k]
    simp) (by have:=hB.num;simp;omega)
   exact hq H2 G2 _ _ _ b1 b2
  ·rw [hp] at hp';cases hp'
 ·rw [hp] at h
  have hB1:=hB.nil f1
  refine h H1 (Fr.of_nil f1) fun Q2 hq=>lO hB1.r hle hB1.va hB1.kd (fun i' hi' hp'=>?_) (fun i' hi' hp'=>?_) fun hp' H2 f2=>?_
  ·rw [hp] at hp';cases hp'
  ·rw [hp] at hp';cases hp'
  ·exact hq H2 G es seen hits ((hB1.nil f2).more (Nat.le_succ n)) (Up.of_nil (f1.trans f2))
end
section
variable {H H1 H2:aj}{bb b mb rb br x sb:Nat}{F Fp Fq G:ay}{s:SP}{t:TB}{v:KV}{es:List ((Int × Int) × Value)}{seen:List (Int × Int)}{hits cnt:Int}{n:Nat}{Q:QT}
theorem Bo.x0 (h:Bo H x bb b rb br mb Fp Fq G s t v es seen hits n):ac H ⟨x,0,none⟩=some (.pointer (some ⟨b,0,none⟩)):=h.xb.cell 0
theorem Bo.x1 (h:Bo H x bb b rb br mb Fp Fq G s t v es seen hits n):ac H ((⟨x,0,none⟩:Addr).add 1)=some (.pointer (some ⟨bb,0,none⟩)):=by rw [ao];exact h.xb.cell 1
theorem Bo.x2 (h:Bo H x bb b rb br mb Fp Fq G s t v es seen hits n):ac H ((⟨x,0,none⟩:Addr).add 2)=some (.pointer (some ⟨br,0,none⟩)):=by rw [ao];exact h.xb.cell 2
theorem Bo.x3 (h:Bo H x bb b rb br mb Fp Fq G s t v es seen hits n):ac H ((⟨x,0,none⟩:Addr).add 3)=some (.pointer (some ⟨rb,0,none⟩)):=by rw [ao];exact h.xb.cell 3
theorem Bo.xu (h:Bo H x bb b rb br mb Fp Fq G s t v es seen hits n){Fp':ay} (u:Up Fp H Fp' H1):bA H1 x #[.pointer (some ⟨b,0,none⟩),.pointer (some ⟨bb,0,none⟩),.pointer (some ⟨br,0,none⟩),.pointer (some ⟨rb,0,none⟩)]:=h.xb.fr u.1 fun hm=>h.xp (by simp [hm])
theorem xc {x:Nat}{v0 v1 v2 v3:Value} (h:bA H x #[v0,v1,v2,v3]):ac H ⟨x,0,none⟩=some v0∧ac H ((⟨x,0,none⟩:Addr).add 1)=some v1∧ac H ((⟨x,0,none⟩:Addr).add 2)=some v2∧ac H ((⟨x,0,none⟩:Addr).add 3)=some v3:=by
 simp only [ao,Nat.zero_add]
 exact ⟨h.cell 0,h.cell 1,h.cell 2,h.cell 3⟩
theorem wq (hB:Bo H x bb b rb br mb Fp Fq G s t v es seen hits n) (h:∀ H' Fp' Fq' s' v',Bo H' x bb b rb br mb Fp' Fq' G s' t v' es seen hits n->Up (FA bb mb Fp rb G Fq) H (FA bb mb Fp' rb G Fq') H'->eN t v'=eN t v->Q (.bool true) H') :
  ah PP KN #[.pointer (some ⟨x,0,none⟩)] Q H:=by
 apply z6
 unfold PG iV pV cS
 refine ⟨_,rfl,_,hB.x0,eL hB.p.k fun sb F1 _ hS hsub hup hup2=>⟨_,rfl,lZ hS fun H1 hS1 f1=>?_⟩⟩
 rw [sH]
 refine ⟨_,_,rfl,?_⟩
 have hK1:=hup2 H1 _ hS1 f1
 have u1:Up Fp H Fp H1:=⟨f1.mono hsub,fun _ h=>.inl h⟩
 have x1:=xc (hB.xu u1)
 have hR1:=hB.rk u1
 obtain ⟨sq,F2,hcq,hSq,_,_,hupq⟩:=hR1.sp
 refine ⟨_,rfl,_,x1.2.2.1,_,rfl,_,hcq,qb hSq fun H2 F3 hS2 u2=>⟨_,_,rfl,?_⟩⟩
 obtain ⟨Fq',hK2,hu2⟩:=hupq H2 F3 _ hS2 u2
 have hv2:KAll (s.alloc (4*10) 1 1).2 t v:=wm hB.va (by decide) 1 1
 rw [show (4*10:Int)=40 from rfl] at hv2
 obtain ⟨hB2,uu,ee⟩:=hB.kern hK1 u1 hK2 hu2 hv2 (Ext.refl v t)
 rw [bf,ae,if_neg (fun hn=>hn rfl)]
 refine dW ⟨_,rfl,?_⟩
 rw [bf,ae,if_neg (fun hn=>hn rfl),bf,ae]
 refine aA (fun he=>h H2 Fp Fq' _ v hB2 uu rfl) fun he=>?_
 generalize (s.alloc 40 1 1).2=s2 at hB2 hv2 hK2 ⊢
 generalize (s.alloc 40 1 1).1.1=w
 refine ⟨_,rfl,_,hB2.x0,_,rfl,_,hB2.x2,uz hB2.p.k hB2.va fun H3 F4 hK3 u3=>⟨_,rfl,⟨⟨(xc (hB2.xu u3)).2.2.1,trivial⟩,trivial⟩,dW ⟨_,rfl,⟨⟨(xc (hB2.xu u3)).2.2.1,trivial⟩,trivial⟩,?_⟩⟩⟩
 refine ui (hB2.rk u3) hB2.va fun H4 F5 hK4 u4=>⟨_,rfl,trivial,?_⟩
 obtain ⟨v',hv',he'⟩:=pg hB2.va 0 w
 obtain ⟨hB4,uu4,ee4⟩:=hB2.kern hK3 u3 hK4 u4 hv' he'
 rw [bj,decide_eq_true rfl]
 exact h H4 F4 F5 _ v' hB4 (uu.trans uu4) ee4
theorem dz {a b:Int}{A B:Prop} (h1:a=b->A) (h2:a≠b->B):cond (a == b) A B:=by
 rw [bj,ae]
 exact aA h1 h2
theorem lN {y e:Int} (h:Q (.bool true) H):cond (y == y) (ah PP uU #[.int .i64 e] (fun v59 H16=>∃ n60:Int,v59=.int .i64 n60∧Q (.bool (n60 == e)) H16) H) (Q (.bool false) H):=by
 refine dz (fun _=>dW ⟨_,rfl,?_⟩) fun hn=>absurd rfl hn
 rw [bj,decide_eq_true rfl];exact h
theorem Nz {sb:Nat}{v0 v1 v2 v3 v4 v5:Value} (h:bA H sb #[v0,v1,v2,v3,v4,v5]):ac H ⟨sb,0,none⟩=some v0∧ac H ((⟨sb,0,none⟩:Addr).add 1)=some v1∧ac H ((⟨sb,0,none⟩:Addr).add 2)=some v2∧ac H ((⟨sb,0,none⟩:Addr).add 3)=some v3∧ac H ((⟨sb,0,none⟩:Addr).add 4)=some v4∧ac H ((⟨sb,0,none⟩:Addr).add 5)=some v5:=by
 simp only [ao,Nat.zero_add]
 exact ⟨h.cell 0,h.cell 1,h.cell 2,h.cell 3,h.cell 4,h.cell 5⟩
theorem rJ {a1 a2:Option Addr}{l1 l2 c1 c2:Nat}{xs ys:List ByteArray} (h1:Rd 1 H a1 l1 (aO xs)) (h2:Rd 1 H a2 l2 (aO ys)) (hb:l1<=1000000000000000) (h:Q (.bool (decide (xs=ys))) H):ah PP D0 #[.slice a1 l1 c1,.slice a2 l2 c2] Q H:=by
 have e1:l1=xs.length:=by have:=h1.1;simpa [aO] using this.symm
 have e2:l2=ys.length:=by have:=h2.1;simpa [aO] using this.symm
 apply Gi
 unfold QN iV wW sV
 have no:xs≠ys->Q (.bool false) H:=fun hn=>by rw [decide_eq_false hn] at h;exact h
 rw [bf,ae]
 refine aA (fun hne=>no fun e=>hne (by rw [e1,e2,e])) fun hne=>?_
 have hlen:l1=l2:=by omega
 refine ⟨fun w H'=>H'=H∧∃ i:Nat,w=[.int .i64 i]∧i<=l1∧xs.take i=ys.take i,fun w _=>match w with
  | [.int _ i]=>(l1-i).toNat
  | _=>0,⟨rfl,0,rfl,Nat.zero_le _,rfl⟩,?_⟩
 rintro w H1 ⟨rfl,i,rfl,hi,hall⟩ _
 refine ⟨_,rfl,?_⟩
 rw [ae]
 refine aA (fun hlt=>?_) fun hlt=>?_
 ·obtain ⟨p,hp2,rfl,hc1⟩:=h1.str (i:=(i:Int)) (by omega) (by omega)
  obtain ⟨q,hq2,rfl,hc2⟩:=h2.str (i:=(i:Int)) (by omega) (by omega)
  simp only [Int.toNat_natCast] at hc1 hp2 hc2 hq2
  have e:IntKind.wrap .i64 ((i:Int)+1)=((i+1:Nat):Int):=by rw [am (by omega) (by omega)];omega
  refine ⟨⟨by omega,by omega⟩,_,rfl,_,by rw [Int.toNat_natCast,Nat.mul_one];exact hc1,⟨by omega,by omega⟩,_,rfl,_,by rw [Int.toNat_natCast,Nat.mul_one];exact hc2,?_⟩
  rw [cL,←decide_not,ae]
  refine aA (fun he=>no fun e=>he (by subst e;rfl)) fun he=>?_
  rw [e]
  have he':xs[i]=ys[i]:=Classical.byContradiction he
  refine ⟨⟨rfl,i+1,rfl,by omega,?_⟩,by simp;omega⟩
  rw [List.take_add_one,List.take_add_one,List.getElem?_eq_getElem hp2,List.getElem?_eq_getElem hq2,hall,he']
 ·have hil:i=l1:=by omega
  subst hil
  rw [List.take_of_length_le (by omega),List.take_of_length_le (by omega)] at hall
  rw [decide_eq_true hall] at h
  exact h
theorem oH {v:KV}{t:TB} (hd:KD v t) (hw:WFT t) (o:Int):(qJ v t o).length<=128:=by
 unfold qJ
 cases hp:dZ v o with
 | none=>simp
 | some i =>
  obtain ⟨hi,_⟩:=cd hp
  simp only [mL hi]
  obtain ⟨ns,h⟩:=hd _ (List.getElem_mem hi)
  rw [h.texts hw,List.length_map]
  exact h.most
theorem tG {e:Int}{es:List ((Int × Int) × Value)}{seen:List (Int × Int)} (h:∀ k,fD es k≠none↔k∈seen):∀ k,fD (xC e es) k≠none↔k∈lP e seen:=fun k=>by
 unfold xC lP
 split
 ·simp [fD]
 ·exact h k
theorem tB {e:Int}{seen:List (Int × Int)}{n:Nat} (h:seen.length<=n):(lP e seen).length<=n:=by
 unfold lP;split
 ·simp
 ·exact h
theorem ChgO.cache {s':SP}{v':KV}{o e:Int}{name:ByteArray}{pre:List (ByteArray × Int)} (hc:ChgO v t o e name pre v') (h:dX v es):dX v' (xC e es):=by
 by_cases he:e=0
 ·rw [he,oL];exact dX.nil v'
 ·rw [jx he,hc.bad he];exact h
theorem A5 (hB:Bo H x bb b rb br mb Fp Fq G s t v es seen hits n){o m:Int}{name:ByteArray}
  (h:∀ H1 e,Fr (bb :: mb :: Fp) H H1->(∀ Q2:Value->aj->Prop,(∀ H2 Fp' Fq' G' s' v' es' seen',Bo H2 x bb b rb br mb Fp' Fq' G' s' t v' es' seen' hits n->Up (FA bb mb Fp rb G Fq) H (FA bb mb Fp' rb G' Fq') H2->ChgO v t o e name [(name,m)] v'->Q2 (.int .i64 e) H2)->ah PP yn #[.pointer (some ⟨rb,0,none⟩),.int .i64 o,.string name,.int .i64 m] Q2 H1)->Q (.int .i64 e) H1) :
  ah PP vg #[.pointer (some ⟨bb,0,none⟩),.int .i64 o,.string name,.int .i64 m] Q H:=by
 obtain ⟨v',hv',hc⟩:=DL hB.va hB.kd o name m
 refine vA hB.p hB.va hB.kd fun H1 F1 hP u1=>?_
 have uA:Up (bb :: mb :: Fp) H (bb :: mb :: F1) H1:=Up.cons u1
 refine h H1 _ uA.1 fun Q2 hq=>CY (hB.r1 uA) hB.va hB.kd fun H2 F2 G2 hR u2=>?_
 obtain ⟨b1,b2⟩:=hB.both hP uA hR u2 hv' hc.kd (hc.cache (s':=s) hB.ok) (tG hB.same) (tB hB.num)
 exact hq H2 F1 F2 G2 _ v' _ _ b1 b2 hc
theorem AB (hB:Bo H x bb b rb br mb Fp Fq G s t v es seen hits n){o:Int}{name:ByteArray}
  (h:∀ H1 e,Fr (bb :: mb :: Fp) H H1->(∀ Q2:Value->aj->Prop,(∀ H2 Fp' Fq' G' s' v' es' seen',Bo H2 x bb b rb br mb Fp' Fq' G' s' t v' es' seen' hits n->Up (FA bb mb Fp rb G Fq) H (FA bb mb Fp' rb G' Fq') H2->ChgO v t o e name [] v'->Q2 (.int .i64 e) H2)->ah PP xQ #[.pointer (some ⟨rb,0,none⟩),.int .i64 o,.string name] Q2 H1)->Q (.int .i64 e) H1) :
  ah PP vE #[.pointer (some ⟨bb,0,none⟩),.int .i64 o,.string name] Q H:=by
 obtain ⟨v',hv',hc⟩:=Av hB.va hB.kd o name
 refine BW hB.p hB.va hB.kd fun H1 F1 hP u1=>?_
 have uA:Up (bb :: mb :: Fp) H (bb :: mb :: F1) H1:=Up.cons u1
 refine h H1 _ uA.1 fun Q2 hq=>zN (hB.r1 uA) hB.va hB.kd fun H2 F2 G2 hR u2=>?_
 obtain ⟨b1,b2⟩:=hB.both hP uA hR u2 hv' hc.kd (hc.cache (s':=s) hB.ok) (tG hB.same) (tB hB.num)
 exact hq H2 F1 F2 G2 _ v' _ _ b1 b2 hc
end
section
variable {H H1 H2:aj}{bb b mb rb br x:Nat}{F Fp Fq G:ay}{s:SP}{t:TB}{v:KV}{es:List ((Int × Int) × Value)}{seen:List (Int × Int)}{hits cnt:Int}{n:Nat}{Q:QT}
theorem Bo.lt (h:Bo H x bb b rb br mb Fp Fq G s t v es seen hits n):∀ y∈FA bb mb Fp rb G Fq,y<H.size:=fun y hy=>by
 rcases List.mem_append.1 hy with hy | hy
 ·exact h.p.lt y hy
 ·exact h.r.lt y hy
theorem oQ {H:aj}:Rd 1 H none 0 (aO []):=⟨rfl,fun _=>rfl,fun p hp=>by cases hp⟩
theorem y9 (hB:Bo H x bb b rb br mb Fp Fq G s t v es seen hits n) (hn:n<=1200000000000){kind cl me i:Int}{name other':ByteArray}
  (h:∀ H' Fp' Fq' G' s' t' v' es' seen' hits',Bo H' x bb b rb br mb Fp' Fq' G' s' t' v' es' seen' hits' (n+1)->Up (FA bb mb Fp rb G Fq) H (FA bb mb Fp' rb G' Fq') H'->(kind≠1->kind≠2->eN t' v'=eN t v)->Q (.bool true) H') :
  ah PP D5 #[.pointer (some ⟨x,0,none⟩),.agg #[.int .i64 kind,.int .i64 cl,.int .i64 me,.int .i64 i,.string name,.string other']] Q H:=by
 apply HT
 unfold Rw A0 iV pV sV lV cS;dsimp only [shH]
 have fp:Fr [] H (H.push (.cells #[.int .i64 kind,.int .i64 cl,.int .i64 me,.int .i64 i,.string name,.string other'] 68)):=Fr.push _ _ _
 have hS:=bA.new H #[.int .i64 kind,.int .i64 cl,.int .i64 me,.int .i64 i,.string name,.string other'] 68
 have hB0:=hB.nil fp
 have hlt:=hB.lt
 have nS:∀ {K:ay},(∀ y∈K,y∈FA bb mb Fp rb G Fq)->H.size∉K:=fun hK hm=>Nat.lt_irrefl _ (hlt _ (hK _ hm))
 have nS1:H.size∉bb :: mb :: Fp:=nS fun y hy=>List.mem_append.2 (.inl hy)
 have nSp:H.size∉Fp:=nS fun y hy=>List.mem_append.2 (.inl (by simp [hy]))
 generalize (H.push (.cells #[.int .i64 kind,.int .i64 cl,.int .i64 me,.int .i64 i,.string name,.string other'] 68))=H0 at fp hS hB0 ⊢
 generalize H.size=sb at hS nS nS1 nSp ⊢
 have fin:∀ {H' Fp' Fq' G' s' t' v' es' seen' hits' n'},Bo H' x bb b rb br mb Fp' Fq' G' s' t' v' es' seen' hits' n'->n'<=n+1->Up (FA bb mb Fp rb G Fq) H0 (FA bb mb Fp' rb G' Fq') H'->(kind≠1->kind≠2->eN t' v'=eN t v)->Q (.bool true) H':=fun hB' hn' u he=>h _ _ _ _ _ _ _ _ _ _ (hB'.more hn') ((Up.of_nil fp).trans u) he
 have finn:∀ {H'},Fr [] H0 H'->Q (.bool true) H':=fun f=>fin (hB0.nil f) (Nat.le_succ n) (Up.of_nil f) fun _ _=>rfl
 obtain ⟨c0,c1,c2,c3,c4,c5⟩:=Nz hS
 have S:∀ {H1:aj}{K:ay},Fr K H0 H1->sb∉K->_:=fun f hn=>Nz (hS.fr f hn)
 refine ⟨_,c0,dz (fun hk=>?_) fun _=>dz (fun hk=>?_) fun _=>dz (fun _=>?_) fun _=>dz (fun _=>?_) fun _=>dz (fun _=>?_) fun _=>dz (fun _=>?_) fun _=>dz (fun _=>?_) fun _=>dz (fun _=>?_) fun _=>dz (fun _=>?_) fun _=>dz (fun _=>?_) fun _=>dz (fun _=>?_) fun _=>dz (fun _=>?_) fun _=>finn (Fr.refl _ _)⟩
 ·
  refine ⟨_,rfl,_,hB0.x1,_,c1,_,c4,_,c2,_,rfl,_,hB0.x3,_,c1,_,c4,_,c2,A5 hB0 fun H1 e f1 hq=>?_⟩
  obtain ⟨d0,d1,d2,d3,d4,d5⟩:=S f1 nS1
  have x1:=xc (hB0.xb.fr f1 hB0.xp)
  have held:=And.intro (And.intro d2 trivial) (And.intro (And.intro d4 trivial) (And.intro (And.intro d1 trivial) (And.intro (And.intro x1.2.2.2 trivial) trivial)))
  refine ⟨_,rfl,held,dW ⟨_,rfl,held,hq _ fun H2 Fp' Fq' G' s' v' es' seen' hB2 u2 hc=>⟨_,rfl,trivial,?_⟩⟩⟩
  rw [bj,decide_eq_true rfl]
  exact fin hB2 (Nat.le_succ n) u2 fun h1 _=>absurd hk h1
 ·
  refine ⟨_,rfl,_,hB0.x1,_,c1,_,c4,_,rfl,_,hB0.x3,_,c1,_,c4,AB hB0 fun H1 e f1 hq=>?_⟩
  obtain ⟨d0,d1,d2,d3,d4,d5⟩:=S f1 nS1
  have x1:=xc (hB0.xb.fr f1 hB0.xp)
  have held:=And.intro (And.intro d4 trivial) (And.intro (And.intro d1 trivial) (And.intro (And.intro x1.2.2.2 trivial) trivial))
  refine ⟨_,rfl,held,dW ⟨_,rfl,held,hq _ fun H2 Fp' Fq' G' s' v' es' seen' hB2 u2 hc=>⟨_,rfl,trivial,?_⟩⟩⟩
  rw [bj,decide_eq_true rfl]
  exact fin hB2 (Nat.le_succ n) u2 fun _ h2=>absurd hk h2
 ·
  refine ⟨_,rfl,_,hB0.x1,_,c1,_,c3,yk hB0 hn fun H1 f1 hq=>?_⟩
  obtain ⟨d0,d1,d2,d3,d4,d5⟩:=S f1 nS1
  have x1:=xc (hB0.xb.fr f1 hB0.xp)
  refine ⟨_,_,rfl,trivial,_,rfl,_,x1.2.2.2,_,d1,_,d3,hq _ fun H2 G' es' seen' hits' hB2 u2=>⟨_,_,rfl,trivial,dz (fun _=>?_) fun hne=>absurd rfl hne⟩⟩
  rw [bj,decide_eq_true rfl]
  exact fin hB2 (Nat.le_refl _) u2 fun _ _=>rfl
 ·
  refine ⟨_,rfl,_,hB0.x1,_,c1,_,c4,xD hB0.p.k hB0.va hB0.kd hB0.p.kp fun H1 f1=>?_⟩
  obtain ⟨d0,d1,d2,d3,d4,d5⟩:=S f1 (by simp)
  have hB1:=hB0.nil f1
  refine ⟨_,_,rfl,trivial,_,rfl,_,hB1.x3,_,d1,_,d4,x9 hB1.r.k hB1.va hB1.kd hB1.r.kp fun H2 f2=>⟨_,_,rfl,trivial,lN (finn (f1.trans f2))⟩⟩
 ·
  refine ⟨_,rfl,_,hB0.x1,_,c1,_,rfl,_,hB0.x3,_,c1,rP hB0.p.k hB0.va hB0.kd hB0.p.kp fun a l c Ga H1 ho f1 hG=>?_⟩
  obtain ⟨d0,d1,d2,d3,d4,d5⟩:=S f1 (by simp)
  have hB1:=hB0.nil f1
  refine ⟨_,_,_,rfl,⟨⟨d1,trivial⟩,⟨hB1.x3,trivial⟩,trivial⟩,rI hB1.r.k hB1.va hB1.kd hB1.r.kp fun a' l' c' Gb H2 ho' f2 hG'=>⟨_,_,_,rfl,trivial,?_⟩⟩
  have hlen:=oH hB.kd hB.va.names.wf cl
  refine rJ (ho.fr f2 (by simp)).rd ho'.rd (by have:=ho.len;simp only [aO,List.length_map] at this;omega) ⟨_,rfl,trivial,?_⟩
  rw [decide_eq_true rfl]
  exact finn (f1.trans f2)
 ·
  refine ⟨_,rfl,_,hB0.x1,oD hB0.p fun H1 hP f1=>⟨rfl,?_⟩⟩
  have u1:Up (bb :: mb :: Fp) H0 (bb :: mb :: Fp) H1:=⟨f1.mono (by simp),fun _ h=>.inl h⟩
  refine ⟨_,rfl,_,(xc (hB0.xb.fr u1.1 hB0.xp)).2.2.2,yI (hB0.r1 u1) fun H2 hR f2=>⟨rfl,?_⟩⟩
  have u2:Up (rb :: (G++Fq)) H1 (rb :: ([]++Fq)) H2:=⟨f2.mono fun y hy=>by
   simp only [List.mem_singleton] at hy;simp [hy],fun y hy=>.inl (by
   simp only [List.nil_append,List.mem_cons] at hy
   rcases hy with hy | hy
   ·simp [hy]
   ·simp [hy])⟩
  obtain ⟨b1,b2⟩:=hB0.both (n':=n) (es':=[]) (seen':=[]) hP u1 hR u2 hB0.va hB0.kd (dX.nil v) (fun k=>by simp [fD]) (by simp)
  exact fin b1 (Nat.le_succ n) b2 fun _ _=>rfl
 ·
  obtain ⟨as_,ls_,cs_,hb,_⟩:=hB0.r.blk
  have q2:ac H0 ((⟨rb,0,none⟩:Addr).add 2)=some (.int .i64 hits):=by rw [ao];exact hb.cell 2
  refine ⟨_,rfl,_,hB0.x1,_,rfl,_,hB0.x3,_,rfl,_,q2,vq hB0.p ⟨_,rfl,⟨⟨q2,trivial⟩,⟨hB0.x3,trivial⟩,trivial⟩,?_⟩⟩
  rw [bj,decide_eq_true rfl]
  exact finn (Fr.refl _ _)
 ·
  obtain ⟨sq,hq,Fh,hcs,hch,hRR,hsubr,nbr,hupr⟩:=hB0.r.k.hp
  obtain ⟨sq',F1,hcs',hS',hsub',_⟩:=hB0.r.k.sp
  have hsb:sq'=sq:=by rw [hcs] at hcs';simpa using hcs'.symm
  have hsq:sq∈Fq:=by
   obtain ⟨_,_,_,_,F3,F4,_,_,_,_,eF,_⟩:=hS'
   rw [←hsb]
   exact hsub' _ (by rw [eF];simp)
  have hbq:=hB0.r.k.bmem
  have nq:∀ {y:Nat},y∈Fq->y∉Fp:=fun {y} hy hm=>hB0.dis y (by simp [hm]) (by simp [hy])
  refine ⟨_,rfl,_,hB0.x0,_,c3,_,rfl,_,hB0.x2,_,rfl,_,hcs,_,rfl,_,hch,_,c3,eL hB0.p.k fun sbp Fsp hcsp hSp hsubp hup hup2=>?_⟩
  have held:=And.intro (And.intro c3 trivial) (And.intro (And.intro hch trivial) (And.intro (And.intro hcs trivial) (And.intro (And.intro hB0.x2 trivial) (And.intro (And.intro c3 trivial) trivial))))
  refine ⟨_,rfl,held,cU hSp fun hbp Fhp hRp hsub3 hup3=>⟨_,rfl,held,x6 hRp fun H1 hR1 hf1=>?_⟩⟩
  have fP:Fr Fp H0 H1:=(hf1.mono hsub3).mono hsubp
  have u1:Up Fp H0 Fp H1:=⟨fP,fun _ h=>.inl h⟩
  have k1:ac H1 ⟨br,0,none⟩=some (.pointer (some ⟨sq,0,none⟩)):=by rw [bz fP (nq hbq) (hB0.r.k.lt _ hbq)];exact hcs
  have k2:ac H1 ⟨sq,0,none⟩=some (.pointer (some ⟨hq,0,none⟩)):=by rw [bz fP (nq hsq) (hB0.r.k.lt _ hsq)];exact hch
  have d3:=(S fP nSp).2.2.2.1
  have x1:=xc (hB0.xu u1)
  have hP1:=hup2 H1 _ (hup3 H1 _ hR1 hf1) (hf1.mono hsub3)
  obtain ⟨sb1,hb1,Fh1,hcs1,hch1,hRR1,_,_,huph1⟩:=(hB0.rk u1).hp
  have e1:sb1=sq:=by rw [k1] at hcs1;simpa using hcs1.symm
  subst e1
  have e2:hb1=hq:=by rw [k2] at hch1;simpa using hch1.symm
  subst e2
  have held1:=And.intro (And.intro d3 trivial) (And.intro (And.intro k2 trivial) (And.intro (And.intro k1 trivial) (And.intro (And.intro x1.2.2.1 trivial) trivial)))
  refine ⟨_,rfl,held1,dW ⟨_,rfl,held1,ss hRR1 fun H2 hR2 hf2=>⟨_,rfl,trivial,?_⟩⟩⟩
  rw [bj,decide_eq_true rfl]
  obtain ⟨Fq',hK2,hu2⟩:=huph1 H2 Fh1 _ hR2 ⟨hf2,fun _ h=>.inl h⟩
  obtain ⟨b1,b2,b3⟩:=hB0.kern hP1 u1 hK2 hu2 (hB0.va.marks i) (Ext.refl v t)
  exact fin b1 (Nat.le_succ n) b2 fun _ _=>b3
 ·
  refine ⟨_,rfl,_,hB0.x0,eL hB0.p.k fun sbp Fsp hcsp hSp hsubp hup hup2=>⟨_,rfl,mA hSp fun H1 hS1 hf1 _=>⟨_,_,_,rfl,?_⟩⟩⟩
  have hP1:=hup2 H1 _ hS1 hf1
  have u1:Up Fp H0 Fp H1:=⟨hf1.mono hsubp,fun _ h=>.inl h⟩
  obtain ⟨sq,F1,hc,hSq,_,_,hupq⟩:=(hB0.rk u1).sp
  refine ⟨_,rfl,_,(xc (hB0.xu u1)).2.2.1,_,rfl,_,hc,rZ hSq fun H2 F2 hS2 hu2=>⟨_,_,_,rfl,?_⟩⟩
  obtain ⟨Fq',hK2,hu2'⟩:=hupq H2 F2 _ hS2 hu2
  obtain ⟨b1,b2,b3⟩:=hB0.kern hP1 u1 hK2 hu2' hB0.va.collect (Ext.refl v t)
  exact fin b1 (Nat.le_succ n) b2 fun _ _=>b3
 ·
  refine ⟨_,rfl,_,hB0.x0,_,c4,_,c5,qr hB0.p.k hB0.va oQ (.inl rfl) (Nat.le_refl _) (by decide) fun H1 Fp' hP1 u1=>⟨_,_,rfl,trivial,?_⟩⟩
  obtain ⟨d0,d1,d2,d3,d4,d5⟩:=S u1.1 nSp
  refine ⟨_,rfl,_,(xc (hB0.xu u1)).2.2.1,_,d4,_,d5,wN (hB0.rk u1) hB0.va oQ (.inl rfl) (by decide) fun H2 Fq' hK2 hu2=>⟨_,_,rfl,trivial,?_⟩⟩
  obtain ⟨v',hv',he'⟩:=ox hB0.va name other' []
  obtain ⟨b1,b2,b3⟩:=hB0.kern hP1 u1 hK2 hu2 hv' he'
  exact lN (fin b1 (Nat.le_succ n) b2 fun _ _=>b3)
 ·
  obtain ⟨tb,F2,hct,hT,_,_,hupT,_⟩:=hB0.p.k.tb
  refine ⟨_,rfl,_,hB0.x0,_,c4,iQ hB0.p.k fun tb' F2' hct' hT'=>?_⟩
  have et:tb'=tb:=by rw [hct] at hct';simpa using hct'.symm
  subst et
  refine ⟨_,rfl,⟨⟨c4,trivial⟩,trivial⟩,mT hT fun H1 F3 hT1 u1=>⟨_,_,rfl,trivial,?_⟩⟩
  obtain ⟨Fp',hP1,u1'⟩:=hupT H1 F3 _ hT1 u1
  have d4:=(S u1'.1 nSp).2.2.2.2.1
  obtain ⟨tq,F4,hcq,hTq,_,_,hupQ⟩:=(hB0.rk u1').tb
  refine ⟨_,rfl,_,(xc (hB0.xu u1')).2.2.1,_,rfl,_,by rw [ao];exact hcq,_,d4,tP hTq fun H2 F5 hT2 u2=>⟨_,_,rfl,trivial,?_⟩⟩
  obtain ⟨Fq',hK2,hu2⟩:=hupQ H2 F5 _ hT2 u2
  obtain ⟨hv',he'⟩:=vQ hB0.va name
  obtain ⟨b1,b2,b3⟩:=hB0.kern hP1 u1' hK2 hu2 hv' he'
  exact lN (fin b1 (Nat.le_succ n) b2 fun _ _=>b3)
 ·
  exact wq hB0 fun H1 Fp' Fq' s' v' hB1 u1 e1=>⟨_,rfl,fin hB1 (Nat.le_succ n) u1 fun _ _=>e1⟩
end
attribute [local irreducible] bT eH fF
theorem vj:KD cJ dH:=fun c hc=>by
 refine ⟨[],DC.empty ?_ ?_⟩
 all_goals
  unfold cJ at hc
  simp only [List.mem_map] at hc
  obtain ⟨i,_,rfl⟩:=hc
  rfl
theorem wv:eN dH cJ=[]:=by
 unfold eN
 rw [List.flatMap_eq_nil_iff]
 intro c hc
 unfold cJ at hc
 simp only [List.mem_map] at hc
 obtain ⟨i,_,rfl⟩:=hc
 rfl
section
variable {H:aj}{Q:QT}
theorem yK {words oops:Int} (hk:dw H) (hN:eO H){Z:aj->Prop}{R:Option Addr->Option Addr->Int->aj->Prop}
  (hbad:¬ ((0<=words∧words<=1048576∧0<=oops∧oops<=65536)∧((bK words oops).allocAll aG).1=0)->∀ e H',Fr [] H H'->R none none e H') (hok:∀ bp br Fp Fq H',Tw H' bp br Fp Fq (eW words oops) dH cJ->Fr [] H H'->(∀ x∈Fp++Fq,H.size<=x)->R (some ⟨bp,0,none⟩) (some ⟨br,0,none⟩) 0 H') :
  ah PP Ea #[.int .i64 words,.int .i64 oops] (fun v4 H1=>∃ p5:Option Addr,∃ n6:Int,v4=.tuple #[.pointer p5,.int .i64 n6]∧ah PP vc #[.int .i64 words,.int .i64 oops] (fun v7 H2=>∃ p8:Option Addr,∃ n9:Int,v7=.tuple #[.pointer p8,.int .i64 n9]∧ah PP uU #[.int .i64 n6] (fun v10 H3=>∃ n11:Int,v10=.int .i64 n11∧cond (n11 != n9) (Z H3) (cond (!((Option.isNone p5) == (Option.isNone p8))) (Z H3) (R p5 p8 n9 H3))) H2) H1) H:=by
 have bad:¬ ((0<=words∧words<=1048576∧0<=oops∧oops<=65536)∧((bK words oops).allocAll aG).1=0)->∀ (e:Int) (H2:aj),Fr [] H H2->(∀ {Q':Value->aj->Prop} (_:∀ H3,Fr [] H2 H3->Q' (.tuple #[.pointer none,.int .i64 e]) H3),ah PP vc #[.int .i64 words,.int .i64 oops] Q' H2) ->
   ah PP vc #[.int .i64 words,.int .i64 oops] (fun v7 H2=>∃ p8:Option Addr,∃ n9:Int,v7=.tuple #[.pointer p8,.int .i64 n9]∧ah PP uU #[.int .i64 e] (fun v10 H3=>∃ n11:Int,v10=.int .i64 n11∧cond (n11 != n9) (Z H3) (cond (!((Option.isNone (none:Option Addr)) == (Option.isNone p8))) (Z H3) (R none p8 n9 H3))) H2) H2:=by
  intro hno e H2 F2 hR
  refine hR fun H3 f3=>⟨_,_,rfl,dW ⟨_,rfl,?_⟩⟩
  rw [bf,ae,if_neg (fun hn=>hn rfl)]
  simp only [Option.isNone_none,beq_self_eq_true,Bool.not_true,cond_false]
  exact hbad hno e H3 (F2.trans f3)
 refine Dh hk (fun hb=>?_) (fun hg he H1 f1=>?_) fun hg hz b F H1 hP f1 hF=>?_
 ·refine ⟨_,_,rfl,bad (fun h=>hb h.1) 1 H (Fr.refl _ _) fun {Q'} hq=>tJ hN (fun _=>hq H (Fr.refl _ _)) (fun hg=>absurd hg hb) fun hg=>absurd hg hb⟩
 ·refine ⟨_,_,rfl,bad (fun h=>he h.2) _ H1 f1 fun {Q'} hq=>tJ (hN.fr f1 (by simp)) (fun hb=>absurd hg hb) (fun _ _ H3 f3=>hq H3 f3) fun _ hz=>absurd hz he⟩
 ·refine ⟨_,_,rfl,tJ (hN.fr f1 (by simp)) (fun hb=>absurd hg hb) (fun _ he=>absurd hz he) fun _ _ b2 F2 H2 hR f2 hF2=>⟨_,_,rfl,dW ⟨_,rfl,?_⟩⟩⟩
  rw [bf,ae,if_neg (fun hn=>hn rfl)]
  simp only [Option.isNone_some,beq_self_eq_true,Bool.not_true,cond_false]
  have hv:=Aj hg.1 hg.2.1 hg.2.2.1 hg.2.2.2 hz
  have hs:=f1.1
  have hlt:aE<H.size:=bN hk.1
  refine hok b b2 F F2 H2 ⟨hP.nil f2,hR,fun x hx hm=>?_,fun hm=>?_,hv⟩ (f1.trans f2) (fun x hx=>?_)
  ·have:=hP.lt x hx;have:=hF2 x hm;omega
  ·have:=hF2 _ hm;omega
  ·rcases List.mem_append.1 hx with hx | hx
   ·exact hF x hx
   ·have:=hF2 x hx;omega
theorem rM {s:SP}{v:KV}{t:TB} (hv:KAll s t v) (name:ByteArray):∃ v',KAll (bE s v t name).2.1 (bE s v t name).2.2 v'∧Ext v v' t (bE s v t name).2.2∧(v'=v∨∃ n d,v'=v.addG n d∧tx (bE s v t name).2.2 n=name):=by
 unfold bE
 by_cases h:kI v t name=0
 ·rw [if_neg (by simpa using h)]
  have hlt:v.glob.length<256:=by
   unfold kI at h
   split at h
   ·cases h
   split at h
   ·cases h
   split at h
   ·cases h
   ·omega
  have A:=uc hv hlt (name:=name)
  by_cases he:(dB s t (bw v.glob) name).1=0
  ·obtain ⟨n,d,h1,h2,h3⟩:=A.2 he
   exact ⟨_,h1,⟨⟨[],by simp [KV.addG],by simp⟩,h2⟩,.inr ⟨n,d,rfl,h3⟩⟩
  ·obtain ⟨h1,h2,_⟩:=A.1 he
   exact ⟨v,h1,⟨⟨[],by simp,by simp⟩,[],by rw [h2];simp⟩,.inl rfl⟩
 ·rw [if_pos h];exact ⟨v,hv,Ext.refl v t,.inl rfl⟩
abbrev gW:ByteArray:=⟨#[71]⟩
theorem zJ {words oops:Int} (hk:dw H) (hN:eO H) (hbad:¬ ((0<=words∧words<=1048576∧0<=oops∧oops<=65536)∧((bK words oops).allocAll aG).1=0)->∀ H',Fr [] H H'->Q (.tuple #[.pointer none,.bool true]) H')
  (hok:∀ H' x bb b rb br mb Fp Fq s t v,Bo H' x bb b rb br mb Fp Fq [] s t v [] [] 0 0->Fr [] H H'->(∀ y∈x :: FA bb mb Fp rb [] Fq,H.size<=y)->eN t v=[]->s=(bE (eW words oops) cJ dH gW).2.1->t=(bE (eW words oops) cJ dH gW).2.2->KAll (eW words oops) dH cJ->Ext cJ v dH t->(v=cJ∨∃ n d,v=cJ.addG n d∧tx t n=gW) ->
   Q (.tuple #[.pointer (some ⟨x,0,none⟩),.bool true]) H'):ah PP Pa #[.int .i64 words,.int .i64 oops] Q H:=by
 apply Kk
 unfold Rr A0 iV pV sV cS
 refine @yK H words oops hk hN _ _ (fun hno e H1 f1=>?_) fun bp br Fp Fq H1 hT f1 hF=>?_
 ·simp only [Option.isNone_none,cond_true]
  exact hbad hno H1 f1
 simp only [Option.isNone_some,cond_false]
 have hlt:=hT.p.lt
 have hltq:=hT.r.lt
 refine HO hT.p fun H2 hB2 f2=>⟨_,_,rfl,?_⟩
 simp only [Option.isNone_some,cond_false]
 refine dW ⟨_,rfl,?_⟩
 simp only [show ((0:Int) != 0)=false from rfl,cond_false]
 obtain ⟨v',hv',he',hg'⟩:=rM hT.v gW
 refine xd hB2.k hT.v fun H3 Fp' hK3 u3=>⟨_,rfl,dW ⟨_,rfl,?_⟩⟩
 have hB3:=hB2.up hK3 u3
 have hR3:RK H3 br Fq (eW words oops) dH:=(hT.r.nil f2).fr u3.1 hT.dis.symm
 refine zb hR3 hT.v fun H4 Fq' hK4 u4=>⟨_,rfl,?_⟩
 rw [bf,ae,if_neg (fun hn=>hn rfl)]
 refine Hn hK4 fun H5 hR5 f5=>⟨_,rfl,?_⟩
 have s1:=f1.1
 have s2:=f2.1
 have s3:=u3.1.1
 have s4:=u4.1.1
 have s5:=f5.1
 have l2:H1.size+1<H2.size:=hB2.blk.lt
 have dF:bi ((H1.size+1) :: H1.size :: Fp') Fq':=fun y hy hm=>by
  simp only [List.mem_cons] at hy
  rcases u4.2 y hm with h1 | h1
  ·have h0:=hltq y h1
   rcases hy with rfl | rfl | hy
   ·omega
   ·omega
   ·rcases u3.2 y hy with h2 | h2
    ·exact hT.dis y h2 h1
    ·omega
  ·rcases hy with rfl | rfl | hy
   ·omega
   ·omega
   ·have:=hK3.lt y hy;omega
 have hB4:PB H4 (H1.size+1) bp Fp' H1.size (bE (eW words oops) cJ dH gW).2.1 (bE (eW words oops) cJ dH gW).2.2 [] 0:=by
  refine hB3.fr u4.1 (fun y hy hm=>?_) (fun hm=>hT.gk hm)
  simp only [List.mem_cons] at hy
  have h0:=hltq y hm
  rcases hy with rfl | rfl | hy
  ·omega
  ·omega
  ·rcases u3.2 y hy with h2 | h2
   ·exact hT.dis y h2 hm
   ·omega
 have fx:Fr [] H5 (H5.push (.cells #[.pointer (some ⟨bp,0,none⟩),.pointer (some ⟨H1.size+1,0,none⟩),.pointer (some ⟨br,0,none⟩),.pointer (some ⟨H4.size,0,none⟩)] 72)):=Fr.push _ _ _
 have hgl:=hT.glt
 have hB6:=(hB4.nil f5).nil fx
 have hR6:=hR5.nil fx
 have hbo:Bo (H5.push (.cells #[.pointer (some ⟨bp,0,none⟩),.pointer (some ⟨H1.size+1,0,none⟩),.pointer (some ⟨br,0,none⟩),.pointer (some ⟨H4.size,0,none⟩)] 72)) H5.size (H1.size+1) bp H4.size br H1.size Fp' Fq' [] (bE (eW words oops) cJ dH gW).2.1 (bE (eW words oops) cJ dH gW).2.2 v' [] [] 0 0:=by
  refine ⟨bA.new _ _ _,hB6,hR6,fun y hy hm=>?_,fun hm=>?_,fun hm=>?_,fun hm=>?_,hv',vj.ext he',dX.nil _,fun k=>by simp [fD],Nat.le_refl _⟩
  ·simp only [List.nil_append,List.mem_cons] at hm
   rcases hm with rfl | hm
   ·have:=hB4.lt _ hy;omega
   ·exact dF y hy hm
  ·simp only [List.nil_append,List.mem_cons] at hm
   rcases hm with h1 | hm
   ·omega
   ·rcases u4.2 _ hm with h1 | h1
    ·exact hT.gk h1
    ·omega
  ·have:=(hB4.nil f5).lt _ hm;omega
  ·have:=hR5.lt _ hm;omega
 refine hok _ _ _ _ _ _ _ _ _ _ _ v' hbo ?_ (fun y hy=>?_) ?_ rfl rfl hT.v he' hg'
 ·refine ⟨by have:=fx.1;omega,fun y hy hn=>?_⟩
  rw [fx.2 y (by omega) (by simp),f5.2 y (by omega) (by simp),u4.1.2 y (by omega) (fun hm=>by have:=hF y (by simp [hm]);omega),u3.1.2 y (by omega) (fun hm=>by have:=hF y (by simp [hm]);omega),f2.2 y (by omega) (by simp),f1.2 y hy (by simp)]
 ·simp only [FA,List.nil_append,List.mem_cons,List.mem_append] at hy
  rcases hy with rfl | (rfl | rfl | hy) | rfl | hy
  ·omega
  ·omega
  ·omega
  ·rcases u3.2 y hy with h1 | h1
   ·exact hF y (by simp [h1])
   ·omega
  ·omega
  ·rcases u4.2 y hy with h1 | h1
   ·exact hF y (by simp [h1])
   ·omega
 ·rw [sR hT.v.names.wf vj hv'.names.wf he',wv]
end
end Go.Proofs.YtmkdkplipbocjaaGreatDoor
namespace Go.Proofs.YtmkdkplipbocjaaGreatDoor
open Kw
structure StepW where
 kind:Int
 cl:Int
 me:Int
 i:Int
 name:ByteArray
 other:ByteArray
def StepW.vals (x:StepW):List Value:=[.int .i64 x.kind,.int .i64 x.cl,.int .i64 x.me,.int .i64 x.i,.string x.name,.string x.other]
def ma (H:aj) (a:Option Addr) (n:Nat) (xs:List StepW):Prop:=xs.length=n∧∀ i x,xs[i]?=some x->∃ p,a=some p∧∀ j v,x.vals[j]?=some v->ac H ((p.add (i*6)).add j)=some v
theorem fX {H H':aj} (hf:Fr [] H H'){a:Addr}{v:Value} (h:ac H a=some v):ac H' a=some v:=by
 have hb:a.block<H.size:=by
  unfold ac at h
  rcases Nat.lt_or_ge a.block H.size with h1 | h1
  ·exact h1
  ·rw [Array.getElem?_eq_none h1] at h;cases h
 unfold ac at h ⊢
 rw [hf.2 _ hb (by simp)]
 exact h
theorem ma.fr {H H':aj} (hf:Fr [] H H'){a:Option Addr}{n:Nat}{xs:List StepW} (h:ma H a n xs):ma H' a n xs :=
 ⟨h.1,fun i x hx=>by obtain ⟨p,hp,h1⟩:=h.2 i x hx;exact ⟨p,hp,fun j v hv=>fX hf (h1 j v hv)⟩⟩
theorem zM {H0 H H':aj}{F F':ay} (hf:Fr [] H0 H) (hF:∀ x∈F,H0.size<=x) (hu:Up F H F' H'):Fr [] H0 H'∧∀ x∈F',H0.size<=x:=by
 refine ⟨⟨Nat.le_trans hf.1 hu.1.1,fun y hy hn=>?_⟩,fun y hy=>?_⟩
 ·rw [hu.1.2 y (Nat.lt_of_lt_of_le hy hf.1) (fun hm=>by have:=hF y hm;omega),hf.2 y hy hn]
 ·rcases hu.2 y hy with h | h
  ·exact hF y h
  ·exact Nat.le_trans hf.1 h
section
variable {H0 H H':aj}{X Z:List Int}{Y:List ByteArray}{a1 a2 a3:Option Addr}{l1 c1 l2 c2 l3 c3:Nat}{G1 G2 G3:ay}{Q:QT}
end
section
variable {H0 H H1:aj}{x bb b rb br mb:Nat}{i:Nat}{L:List za}{a1 a2 a3:Option Addr}{l1 c1 l2 c2 l3 c3:Nat}{Q:QT}
end
end Go.Proofs.YtmkdkplipbocjaaGreatDoor
namespace Go.Proofs.YtmkdkplipbocjaaGreatDoor
open Kw Go.Deep
noncomputable def iL:Array Field:=match PP.underlying 68 with
 | some (.struct fs)=>fs
 | _=>#[]
theorem Fu:PP.underlying 68=some (.struct iL):=by kernel_rfl
theorem rj:PP.underlying 62=some (.slice 68):=by kernel_rfl
theorem yS:PP.cellsOf 68=6:=by kernel_rfl
theorem HQ:(iL[0]?).map (fun f=>(f.type,f.offset))=some (3,0):=by kernel_rfl
theorem Kb:(iL[1]?).map (fun f=>(f.type,f.offset))=some (3,1):=by kernel_rfl
theorem Iy:(iL[2]?).map (fun f=>(f.type,f.offset))=some (3,2):=by kernel_rfl
theorem KX:(iL[3]?).map (fun f=>(f.type,f.offset))=some (3,3):=by kernel_rfl
theorem Km:(iL[4]?).map (fun f=>(f.type,f.offset))=some (9,4):=by kernel_rfl
theorem EH:(iL[5]?).map (fun f=>(f.type,f.offset))=some (9,5):=by kernel_rfl
theorem tS {Hh:Type}{enc:TypeId × Value->Hh}{W:World}{n:Nat}{cs:List Value}{x:DataW Hh × List MemPlace} (h:DataW.trod enc PP W 0 (fun _=>true) true n 68 cs=some x) :
  ∃ y:StepW,cs=y.vals:=by
 obtain ⟨xs,n',_,rfl,hl,hxl,hx⟩:=DataW.trod_struct Fu h
 rw [yS] at hl
 obtain ⟨y0,e0,t0⟩:=fM hxl hx HQ yi
 obtain ⟨y1,e1,t1⟩:=fM hxl hx Kb yi
 obtain ⟨y2,e2,t2⟩:=fM hxl hx Iy yi
 obtain ⟨y3,e3,t3⟩:=fM hxl hx KX yi
 obtain ⟨y4,e4,t4⟩:=fM hxl hx Km FG
 obtain ⟨y5,e5,t5⟩:=fM hxl hx EH FG
 obtain ⟨k0,v0,_,_⟩:=DataW.trod_int zt t0
 obtain ⟨k1,v1,_,_⟩:=DataW.trod_int zt t1
 obtain ⟨k2,v2,_,_⟩:=DataW.trod_int zt t2
 obtain ⟨k3,v3,_,_⟩:=DataW.trod_int zt t3
 obtain ⟨s4,v4,_⟩:=DataW.trod_string EO t4
 obtain ⟨s5,v5,_⟩:=DataW.trod_string EO t5
 refine ⟨⟨k0,k1,k2,k3,s4,s5⟩,?_⟩
 match cs,hl with
 | [a,b,c,d,e,f],_ =>
  simp at v0 v1 v2 v3 v4 v5
  subst v0;subst v1;subst v2;subst v3;subst v4;subst v5
  rfl
theorem sk {Hh:Type}{enc:TypeId × Value->Hh}{W:World}{v:Value}{d:DataW Hh}{p:List MemPlace} (h:DataW.Trod enc PP W 0 (fun _=>true) true 62 v d p)
  (hv:∃ a l c,v=.slice a l c):∃ a l c xs,v=.slice a l c∧ma W.heap a l xs∧(l=0∨∃ el sp,d=.slice el sp∧l<=el.length+sp.length):=by
 obtain ⟨a0,l0,c0,rfl⟩:=hv
 obtain ⟨fuel,h⟩:=h
 rcases open_slice rj h with ⟨h0,_⟩ | ⟨a,len,cap,m,n,D,Pl,hcs,_,hlc,_,hm,hx,hel⟩
 ·have e:Value.slice a0 l0 c0=.slice none 0 0:=by simpa [Value.cells] using h0
  cases e
  exact ⟨none,0,0,[],rfl,⟨rfl,fun i x hx=>by simp at hx⟩,.inl rfl⟩
 have e:Value.slice a0 l0 c0=.slice (some a) len cap:=by simpa [Value.cells] using hcs
 cases e
 obtain ⟨hd,_⟩:=Prod.mk.inj hx
 subst hd
 have hlm:l0<=m:=by rw [hm];simpa using hlc
 have each:∀ i,i<l0->∃ y:StepW,∀ j v,y.vals[j]?=some v->ac W.heap ((a.add (i*6)).add j)=some v:=fun i hi=>by
  obtain ⟨cs',h1,h2⟩:=hel i (by omega)
  rw [yS] at h1
  obtain ⟨y,rfl⟩:=tS h2
  obtain ⟨_,_,hc⟩:=World.cells?_some h1
  refine ⟨y,fun j v hv=>?_⟩
  have hj:j<6:=by
   rcases Nat.lt_or_ge j 6 with h | h
   ·exact h
   ·rw [List.getElem?_eq_none (by simpa [StepW.vals] using h)] at hv;cases hv
  have:=hc j hj
  rw [hv] at this
  exact this
 obtain ⟨Y,hY⟩:∃ Y:Nat->StepW,∀ i,i<l0->∀ j v,(Y i).vals[j]?=some v->ac W.heap ((a.add (i*6)).add j)=some v:=by
  refine ⟨fun i=>if hi:i<l0 then Classical.choose (each i hi) else ⟨0,0,0,0,⟨#[]⟩,⟨#[]⟩⟩,fun i hi=>?_⟩
  simp only [dif_pos hi]
  exact Classical.choose_spec (each i hi)
 refine ⟨some a,l0,c0,(List.range l0).map Y,rfl,⟨by simp,fun i x hx=>⟨a,rfl,?_⟩⟩,.inr ⟨_,_,rfl,?_⟩⟩
 ·have hi:i<l0:=by
   rcases Nat.lt_or_ge i l0 with h | h
   ·exact h
   ·rw [List.getElem?_eq_none (by simpa using h)] at hx;cases hx
  have:x=Y i:=by simpa [hi] using hx.symm
  rw [this]
  exact hY i hi
 ·simp <;> omega
end Go.Proofs.YtmkdkplipbocjaaGreatDoor
namespace Go.Proofs.YtmkdkplipbocjaaGreatDoor
open Kw
def vy (xs:List Int):ByteArray:=⟨(xs.map fun x=>UInt8.ofNat x.toNat).toArray⟩
theorem wI {P:Program}{src dst e:TypeId}{b c:Nat}{x0 x1 x2:Int}{Q:QT}{H:aj} (h1:P.underlying src=some (.slice e)) (h2:P.underlying dst=some .string) (h3:P.underlying e=some (.int .u8))
  (hB:bA H b #[.int .u8 x0,.int .u8 x1,.int .u8 x2]) (h:Q (.string (vy [x0,x1,x2])) H):bk P (convert src dst (.slice (some ⟨b,0,none⟩) 3 c)) Q H:=by
 refine av (aP h1 (av (aP h2 (av (aP h3 ?_)))))
 show bk P (Conv.bytesToString (.slice (some ⟨b,0,none⟩) 3 c)) Q H
 unfold Conv.bytesToString
 refine av ?_
 refine av ?_
 show bk P (loadCellsFrom ⟨b,0,none⟩ 0 3 #[]) _ H
 refine fo [.int .u8 x0,.int .u8 x1,.int .u8 x2] 0 #[] (fun j hj=>?_) ?_
 ·rw [ao,hB.cell]
  simp
 ·simp only [List.append_toArray,List.nil_append,List.size_toArray,bind,Sem.bind,forIn,pure,bk,List.forIn_toArray,List.forIn_cons,List.forIn_nil]
  exact h
abbrev Hd:=Option Addr × Nat × Nat
abbrev Ci (h:Hd):Value:=.slice h.1 h.2.1 h.2.2
def jU:rE (List ByteArray):=fun H ys x F=>∃ a l c,ys=[.slice a l c]∧bv 1 H a l c (aO x) F
theorem jU.fr:Dt jU:=fun H H' ys x F ⟨a,l,c,e,h⟩ he=>⟨a,l,c,e,h.keep he⟩
theorem jU.lt:Eh jU:=fun H ys x F ⟨a,l,c,e,h⟩=>h.lt
def upd {α:Type} (f:Nat->α) (k:Nat) (v:α):Nat->α:=fun j=>if j=k then v else f j
theorem nE {α:Type} (f:Nat->α) (k:Nat) (v:α):upd f k v k=v:=by simp [upd]
theorem nX {α:Type} (f:Nat->α){k j:Nat} (v:α) (h:j≠k):upd f k v j=f j:=by simp [upd,h]
section
variable {H:aj}{xb:Nat}{hd:Nat->Hd}{Fs:Nat->ay}{zs ws:List (List ByteArray)}{is vs:List (List Int)}
end
theorem bv.pre {k:Nat}{H:aj}{a:Option Addr}{l m c:Nat}{xs ys:List Value}{F:ay} (h:bv k H a (l+m) c (xs++ys) F) (hx:xs.length=l*k):bv k H a l c xs F:=by
 refine ⟨hx,by have:=h.2.1;omega,h.2.2.imp id ?_⟩
 rintro ⟨b,cs,h1,h2,h3,h4,h5⟩
 refine ⟨b,cs,h1,h2,h3,h4,?_⟩
 have h6:(cs.toList.take ((l+m)*k)).take (l*k)=(xs++ys).take (l*k):=by rw [h5]
 rw [List.take_take,Nat.min_eq_left (Nat.mul_le_mul_right k (by omega))] at h6
 rw [h6,List.take_append_of_le_length (by omega)]
 exact List.take_of_length_le (by omega)
theorem pc {P:Program}{T T' T0 k bs:Nat}{z:Value}{H:aj}{a:Option Addr}{l c:Nat}{xs:List Value}{ys:Array Value}{e0:TypeId}{F:ay}{Q:QT} (hs:aF P T=some (k,bs,some z)) (hz:z.cells.size=k) (hT:ii P T'=true)
  (ho:bv k H a l c xs F) (hy:ys.size=k) (hone:∀ v∈ys.toList,cC v=true) (hl:l<274877906944) (hbs:bs<=128) (hbs0:bs≠0)
  (h:∀ a' c' F' H',bv k H' a' (l+1) c' (xs++ys.toList) F'->((a'=a∧c'=c∧F'=F)∧Fr F H H'∨(∀ b∈F',H.size<=b)∧Fr [] H H')->Q (.slice a' (l+1) c') H') :
  bk P (Builtin.append_ #[T,T'] T0 #[.slice a l c,.slice (some ⟨H.size,0,none⟩) 1 1]) Q (H.push (.cells ys e0)):=by
 have hcp:∀ c,c<l+1->Builtin.nextslicecap (l+1) c*bs<=281474976710656:=fun c hc=>by
  have hlE:l+1<=274877906944:=hl
  have:=Kw.nextslicecap_le hc
  have h3:Builtin.nextslicecap (l+1) c*bs<=(2*(l+1)+512)*128:=Nat.mul_le_mul this hbs
  exact Nat.le_trans h3 (Nat.le_trans (Nat.mul_le_mul_right 128 (Nat.add_le_add_right (Nat.mul_le_mul_left 2 hlE) 512)) (by decide))
 have hpu:=Fr.push [] H (.cells ys e0)
 have hr:Rd k (H.push (.cells ys e0)) (some ⟨H.size,0,none⟩) 1 ys.toList:=⟨by simp [hy],by simp,fun p hp i hi=>by
  cases hp
  rw [ao,Nat.zero_add,(bA.new H ys e0).cell]
  simp⟩
 have ho0:=ho
 replace ho:=ho.fr hpu (by simp)
 obtain ⟨e,i,hu,hi,hk,hb,hz0⟩:=dD hs
 obtain ⟨d,hd,hd'⟩:∃ d,P.underlying T'=some (.slice d)∧True:=by
  unfold ii at hT
  split at hT
  ·rename_i d hd;exact ⟨d,hd,trivial⟩
  ·cases hT
 show bk P (do
  let .slice elem ← underlying T | stuck "append: slice type expected"
  _) Q _
 refine av (aP hu ?_)
 refine av (gM hi ?_)
 rw [hk]
 refine av (av (aP hd ?_))
 simp only [pure,List.getElem_toArray,List.getElem_cons_succ,List.getElem_cons_zero]
 refine av (dl ?_)
 simp only [Bool.false_eq_true,if_false,Bool.not_false,if_true]
 refine av (show bk P (Builtin.lenOf (.slice (some ⟨H.size,0,none⟩) 1 1)) _ _ from ?_)
 refine dl ?_
 have hys:ys.toList.take (1*k)=ys.toList:=List.take_of_length_le (by simp [hy])
 by_cases hfit:l+1<=c
 ·simp only [hfit,if_true]
  refine av (cZ hr (Nat.le_refl _) ?_)
  rw [hys]
  rcases ho.2.2 with ⟨rfl,hc0,rfl⟩ | ⟨b,cs,rfl,rfl,⟨t,hB⟩,hsz,htk⟩
  ·omega
  ·dsimp only
   rw [ao,Nat.zero_add]
   refine av ?_
   have hroom:l*k+0+ys.toList.length<=cs.size:=by rw [hr.1,hsz,Nat.add_zero,←Nat.add_mul];exact Nat.mul_le_mul_right k hfit
   refine d9 ys.toList (l*k) 0 cs hone hB hroom fun H' g1 g2 g3=>?_
   have hsz2:(H.push (.cells ys e0)).size=H.size+1:=by simp
   refine h _ _ [b] H' ⟨by rw [List.length_append,ho.1,hr.1,Nat.add_mul],hfit,.inr ⟨b,_,rfl,rfl,⟨t,g1⟩,?_,?_⟩⟩ (.inl ⟨⟨rfl,rfl,rfl⟩,by omega,fun b' hb' hn=>?_⟩)
   ·simp only [fw,List.size_toArray,List.length_append,List.length_take,List.length_drop,Array.length_toList]
    have:=hr.1
    simp only [Array.length_toList] at this hroom
    omega
   ·simp only [fw,Nat.add_zero]
    have e1:cs.toList.take (l*k)++ys.toList=xs++ys.toList:=by rw [htk]
    rw [e1,List.take_append_of_le_length (by rw [List.length_append,ho.1,hr.1,Nat.add_mul];exact Nat.le_refl _)]
    exact List.take_of_length_le (by rw [List.length_append,ho.1,hr.1,Nat.add_mul];exact Nat.le_refl _)
   ·rw [g3 b' (by simpa using hn)]
    exact hpu.2 b' hb' (by simp)
 ·simp only [hfit,if_false]
  have hneed:¬ (((l+1:Nat):Int) > IntKind.i64.max∧(False∨i.bytes=0)):=by
   rintro ⟨_,h | h⟩
   ·exact h
   ·rw [hb] at h;exact hbs0 h
  refine av (cG hi ?_)
  simp only [hneed,if_false]
  refine av (cG hi ?_)
  have hcap:¬ Builtin.nextslicecap (l+1) c*i.bytes > 2 ^ 48:=by
   rw [hb]
   have:=hcp c (by omega)
   omega
  simp only [hcap,if_false]
  refine av ?_
  simp only [choose,bk,Question.forced,Bool.false_eq_true,if_false]
  intro t
  have hcut:l+1<=Question.cut (.appendCap (l+1) c e) t:=by simp only [Question.cut];omega
  generalize Question.cut (.appendCap (l+1) c e) t=cap' at hcut
  refine av (cG hi ?_)
  refine av (ie ?_)
  refine av (cZ (ho.rd) (Nat.le_refl _) ?_)
  refine av (cZ hr (Nat.le_refl _) ?_)
  refine av (du hi hz0 ?_)
  have hxs:xs.take (l*k)=xs:=List.take_of_length_le (by rw [ho.1];exact Nat.le_refl _)
  rw [hxs,hys]
  simp only [newRow,newObj,bind,Sem.bind,pure,bk]
  refine h _ _ [(H.push (.cells ys e0)).size] _ ⟨by rw [List.length_append,ho.1,hr.1,Nat.add_mul],hcut,.inr ⟨_,_,rfl,rfl,bA.new _ _ _,?_,?_⟩⟩ (.inr ⟨fun b' hb'=>by simp at hb';omega,hpu.trans (Fr.push _ _ _)⟩)
  ·simp only [Array.size_append,List.size_toArray,Builtin.zeroCells,Array.size_map,Array.size_range,hz]
   rw [ho.1,hr.1,←Nat.add_mul,←Nat.add_mul]
   congr 1
   omega
  ·simp only [Array.toList_append,List.append_assoc]
   rw [←List.append_assoc,List.take_append_of_le_length (by rw [List.length_append,ho.1,hr.1,Nat.add_mul];exact Nat.le_refl _)]
   exact List.take_of_length_le (by rw [List.length_append,ho.1,hr.1,Nat.add_mul];exact Nat.le_refl _)
structure Grown (H1 H':aj) (h:Hd) (F:ay) (xs ys:List Value) (a:Option Addr) (c:Nat) (G:ay):Prop where
 old:bv 1 H' h.1 h.2.1 h.2.2 xs F
 new:bv 1 H' a (h.2.1+ys.length) c (xs++ys) G
 up:Up F H1 G H'
 at_:(a=h.1∧c=h.2.2∧G=F)∨∀ b∈G,b∉F
theorem Grown.start {H:aj}{h:Hd}{F:ay}{xs:List Value} (ho:bv 1 H h.1 h.2.1 h.2.2 xs F):Grown H H h F xs [] h.1 h.2.2 F:=⟨ho,by simpa using ho,Up.refl _ _,.inl ⟨rfl,rfl,rfl⟩⟩
theorem Grown.nil {H1 H' H2:aj}{h:Hd}{F:ay}{xs ys:List Value}{a:Option Addr}{c:Nat}{G:ay} (g:Grown H1 H' h F xs ys a c G) (f:Fr [] H' H2):Grown H1 H2 h F xs ys a c G :=
 ⟨g.old.fr f (by simp),g.new.fr f (by simp),g.up.trans (Up.of_nil f),g.at_⟩
theorem Grown.app {P:Program}{T T' T0 bs:Nat}{z v:Value}{e0:TypeId}{Q:QT}{H1 H':aj}{h:Hd}{F:ay}{xs ys:List Value}{a:Option Addr}{l c:Nat}{G:ay} (g:Grown H1 H' h F xs ys a c G) (hl0:l=h.2.1+ys.length)
  (hs:aF P T=some (1,bs,some z)) (hz:z.cells.size=1) (hT:ii P T'=true) (hone:cC v=true) (hl:l<274877906944) (hbs:bs<=128) (hbs0:bs≠0)
  (hq:∀ a' c' G' H2,Grown H1 H2 h F xs (ys++[v]) a' c' G'->Q (.slice a' (l+1) c') H2) :
  bk P (Builtin.append_ #[T,T'] T0 #[.slice a l c,.slice (some ⟨H'.size,0,none⟩) 1 1]) Q (H'.push (.cells #[v] e0)):=by
 subst hl0
 refine pc hs hz hT g.new rfl (by simpa using hone) hl hbs hbs0 fun a' c' G' H2 ho hcase=>hq a' c' G' H2 ?_
 have hFl:=g.old.lt
 have hF1:∀ b∈F,b<H'.size:=hFl
 have e:xs++ys++[v]=xs++(ys++[v]):=List.append_assoc _ _ _
 have ho':bv 1 H2 a' (h.2.1+(ys++[v]).length) c' (xs++(ys++[v])) G':=by
  rw [←e,List.length_append,List.length_singleton,←Nat.add_assoc];exact ho
 have hxl:xs.length=h.2.1*1:=g.old.1
 rcases hcase with ⟨⟨rfl,rfl,rfl⟩,f⟩ | ⟨hn,f⟩
 ·refine ⟨?_,ho',⟨?_,g.up.2⟩,g.at_⟩
  ·rcases g.at_ with ⟨rfl,rfl,rfl⟩ | hd
   ·exact bv.pre ho' hxl
   ·exact g.old.fr f fun b hb hm=>hd b hm hb
  ·refine ⟨Nat.le_trans g.up.1.1 f.1,fun b hb hn=>?_⟩
   rw [f.2 b (Nat.lt_of_lt_of_le hb g.up.1.1) (fun hm=>by
    rcases g.up.2 b hm with h1 | h1
    ·exact hn h1
    ·omega),g.up.1.2 b hb hn]
 ·refine ⟨g.old.fr f (by simp),ho',⟨g.up.1.trans (Fr.of_nil f),fun b hb=>.inr (Nat.le_trans g.up.1.1 (hn b hb))⟩,.inr fun b hb hm=>by have:=hF1 b hm;have:=hn b hb;omega⟩
def RV {α:Type} (V:α->List Value):rE α:=fun H ys x F=>∃ a l c,ys=[.slice a l c]∧bv 1 H a l c (V x) F
theorem SRep.parts {α:Type}{V:α->List Value}{H:aj}{xs:List Value}{zs:List α}{F:ay} (h:SRep 1 (RV V) H xs zs F):∃(hs:Nat->Hd) (fs:Nat->ay),xs=(List.range zs.length).map (fun i=>Ci (hs i)) ∧
  (∀ i x,zs[i]?=some x->bv 1 H (hs i).1 (hs i).2.1 (hs i).2.2 (V x) (fs i)∧∀ b∈fs i,b∈F)∧∀ i j,i<zs.length->j<zs.length->i≠j->bi (fs i) (fs j):=by
 induction h with
 | nil=>exact ⟨fun _=>(none,0,0),fun _=>[],rfl,fun i x hx=>by simp at hx,fun i j hi=>by simp at hi⟩
 | @cons ys xs x l F G h1 h2 h3 h4 ih =>
  obtain ⟨a,n,c,rfl,ho⟩:=h1
  obtain ⟨hs,fs,e,g1,g2⟩:=ih
  have sub:∀ i,i<l.length->∀ b∈fs i,b∈G:=fun i hi=>(g1 i l[i] (List.getElem?_eq_getElem hi)).2
  refine ⟨fun i=>match i with | 0=>(a,n,c) | i+1=>hs i,fun i=>match i with | 0=>F | i+1=>fs i,?_,fun i y hy=>?_,fun i j hi hj hij=>?_⟩
  ·rw [e,List.length_cons,List.range_succ_eq_map,List.map_cons,List.map_map];rfl
  ·cases i with
   | zero=>simp at hy;subst hy;exact ⟨ho,fun b hb=>by simp [hb]⟩
   | succ i=>have:=g1 i y (by simpa using hy);exact ⟨this.1,fun b hb=>by have:=this.2 b hb;simp [this]⟩
  ·cases i with
   | zero=>cases j with
    | zero=>exact absurd rfl hij
    | succ j=>exact fun b hb hm=>h4 b hb (sub j (by simpa using hj) b hm)
   | succ i=>cases j with
    | zero=>exact fun b hb hm=>h4 b hm (sub i (by simpa using hi) b hb)
    | succ j=>exact g2 i j (by simpa using hi) (by simpa using hj) (by omega)
theorem dv.parts {α:Type}{V:α->List Value}{H:aj}{a:Option Addr}{l c:Nat}{zs:List α}{F:ay} (h:dv 1 (RV V) H a l c zs F):∃(F1 F2:ay) (hs:Nat->Hd) (fs:Nat->ay),(∀ b∈F1,b∈F)∧(∀ b∈F2,b∈F)∧bi F2 F1∧(∀ b∈F2,b<H.size) ∧
  (∀ i,i<l->∃ b,a=some ⟨b,0,none⟩∧b∈F1∧ac H ⟨b,i,none⟩=some (Ci (hs i)))∧(∀ i x,zs[i]?=some x->bv 1 H (hs i).1 (hs i).2.1 (hs i).2.2 (V x) (fs i)∧∀ b∈fs i,b∈F2)∧∀ i j,i<zs.length->j<zs.length->i≠j->bi (fs i) (fs j):=by
 obtain ⟨xs,F1,F2,h1,h2,h3,rfl,h5⟩:=h
 have hlt:∀ b∈F2,b<H.size:=h2.lt fun H ys x F ⟨a,l,c,e,h⟩=>h.lt
 obtain ⟨hs,fs,e,g1,g2⟩:=SRep.parts h2
 refine ⟨F1,F2,hs,fs,fun b hb=>by simp [hb],fun b hb=>by simp [hb],h3.symm,hlt,fun i hi=>?_,g1,g2⟩
 rcases h1.2.2 with ⟨rfl,h6,_⟩ | ⟨b,cs,rfl,rfl,_⟩
 ·have:=h1.2.1;omega
 ·refine ⟨b,rfl,by simp,?_⟩
  have:=h1.rd.2.2 _ rfl i (by omega)
  rw [ao,Nat.zero_add,e] at this
  rw [this]
  simp [List.getElem?_range (show i<zs.length by omega)]
def sel:Bool->Nat
 | false=>0
 | true=>2
section
variable {H H':aj}{xb:Nat}{hd:Nat->Hd}{K:ay}{U:Bool->ay}{hs:Bool->Nat->Hd}{fs:Bool->Nat->ay}{xs:Bool->Nat->List Value}
theorem bv.put {a:Option Addr}{l c:Nat}{ys:List Value}{F:ay} (ho:bv 1 H a l c ys F){i:Nat} (hi:i<l) (v:Value):∃ b,a=some ⟨b,0,none⟩∧Wr H ⟨b,i,none⟩∧Fr F H (au H ⟨b,i,none⟩ v)∧bv 1 (au H ⟨b,i,none⟩ v) a l c (ys.set i v) F:=by
 have hlc:=ho.2.1
 rcases ho.2.2 with ⟨_,h2,_⟩ | ⟨b,cs,rfl,rfl,hb,hsz,htk⟩
 ·omega
 ·refine ⟨b,rfl,hb.wr (by omega),Fr.set (by simp),⟨by rw [List.length_set];exact ho.1,hlc,.inr ⟨b,_,rfl,rfl,hb.set i v,by simpa using hsz,?_⟩⟩⟩
  rw [←htk]
  simp [List.take_set]
structure More (H:aj) (a:Option Addr) (l:Nat) (hm:Nat->Hd) (ys:Nat->List Value) (KM:ay):Prop where
 cell:∀ j,j<l->∃ b,a=some ⟨b,0,none⟩∧b∈KM∧ac H ⟨b,j,none⟩=some (Ci (hm j))
 rd:∀ j,j<l->Rd 1 H (hm j).1 (hm j).2.1 (ys j)∧∀ p,(hm j).1=some p->p.block∈KM
theorem More.fr {a:Option Addr}{l:Nat}{hm:Nat->Hd}{ys:Nat->List Value}{KM G:ay} (h:More H a l hm ys KM) (f:Fr G H H') (hd:bi KM G):More H' a l hm ys KM :=
 ⟨fun j hj=>by
  obtain ⟨b,h1,h2,h3⟩:=h.cell j hj
  exact ⟨b,h1,h2,by rw [bz f (fun hm=>hd b h2 hm) (bN h3)];exact h3⟩,fun j hj=>⟨(h.rd j hj).1.fr' f fun p hp hm=>hd _ ((h.rd j hj).2 p hp) hm,(h.rd j hj).2⟩⟩
theorem More.nil {a:Option Addr}{l:Nat}{hm:Nat->Hd}{ys:Nat->List Value}{KM:ay} (h:More H a l hm ys KM) (f:Fr [] H H'):More H' a l hm ys KM:=h.fr f (bi.nil_right _)
theorem More.head {a:Option Addr}{l:Nat}{hm:Nat->Hd}{ys:Nat->List Value}{KM:ay} (h:More H a l hm ys KM){b j:Nat} (hb:a=some ⟨b,0,none⟩) (hj:j<l):ac H ((⟨b,0,none⟩:Addr).add (j*1))=some (Ci (hm j)):=by
 obtain ⟨b',h1,_,h3⟩:=h.cell j hj
 rw [hb] at h1
 cases h1
 rw [Nat.mul_one,ao,Nat.zero_add]
 exact h3
end
end Go.Proofs.YtmkdkplipbocjaaGreatDoor
namespace Kw
open Go
def MJ:Nat->Code->Code
 | 0,c=>c
 | n+1,.seq _ y=>MJ n y
 | _+1,c=>c
def FP (fn:Func):Code:=fn.body.getD .skip
theorem Qz {X Y:Prop} (hX:X=Y) (h:X):Y:=hX ▸ h
end Kw
namespace Go.Proofs.YtmkdkplipbocjaaGreatDoor
open Kw
def uy (i:Nat):ByteArray:=vy [109,IntKind.wrap .u8 (eZ .i64 i 8),IntKind.wrap .u8 i]
def gS (i:Nat):ByteArray:=(⟨#[103]⟩:ByteArray)++uy i
def tK (i:Nat):Value:=.string (uy i)
def nH (i:Nat):Value:=.string (gS i)
theorem lX (i:Nat):(uy i).size=3:=by simp [uy,vy,ByteArray.size]
theorem yO {a b:ByteArray}{A B:Prop} (he:a=b) (h:B):cond (!(cQ a b)) A B:=by
 rw [cL,decide_eq_true he];exact h
theorem zu {s:ByteArray}{B:Prop} (hs:s.size=3) (h:B):cond (decide ((((⟨#[103]⟩:ByteArray).size+s.size:Nat):Int) > IntKind.i64.max)) False B:=by
 rw [hs,ae,if_neg (by simp [ByteArray.size,IntKind.max,IntKind.bits,IntKind.signed])];exact h
theorem Pr {H:aj}{a:Option Addr}{l:Nat}{ys:List Value} (h:Rd 1 H a l ys){j:Nat} (hj:j<l):∃ p,a=some p∧ac H (p.add (j*1))=ys[j]?:=by
 cases ha:a with
 | none=>have:=h.2.1 ha;omega
 | some p=>exact ⟨p,rfl,by rw [Nat.mul_one];exact h.2.2 p ha j (by omega)⟩
section
variable {H:aj}{xb:Nat}{hd:Nat->Hd}{K:ay}{U:Bool->ay}{hs:Bool->Nat->Hd}{fs:Bool->Nat->ay}{xs:Bool->Nat->List Value}{Q:QT}
theorem EE {n j:Nat}{a b:Value}{ys:List Value} (hy:ys=List.replicate n a++List.replicate 41 b) (hj:j<n+41):ys[j]?=some (if j<n then a else b):=by
 rw [hy]
 split
 ·rw [List.getElem?_append_left (by simp;omega),List.getElem?_replicate_of_lt (by omega)]
 ·rw [List.getElem?_append_right (by simp;omega),List.getElem?_replicate_of_lt (by simp;omega)]
end
section
variable {H:aj}{xb:Nat}{hd:Nat->Hd}{K:ay}{U:Bool->ay}{hs:Bool->Nat->Hd}{fs:Bool->Nat->ay}{xs:Bool->Nat->List Value}{Q:QT}
theorem yB {n:Nat}{v:Value}:List.replicate n v++[v]=List.replicate (n+1) v:=by rw [List.replicate_succ']
theorem Cg {n:Nat}{v r:Value}{rest:List Value}:(List.replicate n v++r :: rest).set n v=List.replicate (n+1) v++rest:=by
 rw [List.set_append_right _ _ (by simp)]
 simp [List.replicate_succ']
end
end Go.Proofs.YtmkdkplipbocjaaGreatDoor
