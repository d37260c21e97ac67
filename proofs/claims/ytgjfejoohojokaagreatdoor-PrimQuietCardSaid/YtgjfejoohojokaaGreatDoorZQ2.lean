/- Lemmas for RPQ: functions of the program as predicate transformers, and their contracts. -/
import Derived.Test.YtgjfejoohojokaaGreatDoorZQ1
import Derived.Shelf.SlSortCmp.Whole1
import Derived.Ground.SlsfProg
import Derived.Test.YtgjfejoohojokaaGreatDoorProg
import Derived.Shelf.Sort.Plain
import Derived.Ground.NamesProg
set_option linter.all false
set_option maxRecDepth 100000
set_option maxHeartbeats 4000000
namespace Kw
open Go
abbrev Fi (p:Int × Int):Value:=.tuple #[.int .i64 p.1,.int .i64 p.2]
abbrev mY (p:Int × Int × Int):Value:=.tuple #[.int .i64 p.1,.int .i64 p.2.1,.int .i64 p.2.2]
structure RO where
 oop:Int
 fmt:Int
 place:Int
 born:Int
 cls:Int
 slots:List Int
structure RH where
 words:Int
 oops:Int
 mark:Int
 born:Int
 turn:Int
 objs:List RO
def lenOf (n fmt:Int):Int:=if fmt=1 then 2+(n+3) / 4 else 2+n
def RO.len (o:RO):Int:=lenOf (o.slots.length:Int) o.fmt
def am (l:List RO) (k:Int):Option RO:=l.find? fun o=>decide (o.oop=k)
def aU (l:List RO):Int:=match l.getLast? with
 | none=>0
 | some o=>o.place+o.len
def eO (fmt w:Int):Prop:=if fmt=1 then 0<=w∧w<=255 else cR w
instance (fmt w:Int):Decidable (eO fmt w):=by unfold eO;exact inferInstance
def kK (l:List RO):Nat->Int->Int
 | 0,k=>k
 | n+1,k=>if (am l k).isSome then kK l n (k+1) else k
def bz (l:List RO):Int:=kK l 65600 1
structure GoodO (words oops:Int) (o:RO):Prop where
 oop1:1<=o.oop
 oop2:o.oop<=oops
 fmt:o.fmt=0∨o.fmt=1
 pl:0<=o.place
 fits:o.place+o.len<=words
 cls:cR o.cls
 many:o.slots.length<=8192
 may:∀ w∈o.slots,eO o.fmt w
def lF (a b:RO):Prop:=a.oop≠b.oop∧a.place+a.len<=b.place
structure WFO (words oops:Int) (l:List RO):Prop where
 good:∀ o∈l,GoodO words oops o
 pw:l.Pairwise lF
structure WFH (r:RH):Prop where
 w0:0<=r.words
 w1:r.words<=1048576
 o0:0<=r.oops
 o1:r.oops<=65536
 m0:0<=r.mark
 m1:r.mark<=1073741824
 objs:WFO r.words r.oops r.objs
theorem io {n fmt:Int} (h:0<=n):2<=lenOf n fmt:=by unfold lenOf;split <;> omega
theorem lW {n fmt:Int} (h:0<=n):lenOf n fmt<=2+n+3:=by unfold lenOf;split <;> omega
theorem RO.len_pos (o:RO):2<=o.len:=io (by omega)
theorem au {l:List RO}{k:Int}{o:RO} (h:am l k=some o):o∈l∧o.oop=k:=by
 unfold am at h
 exact ⟨List.mem_of_find?_eq_some h,by simpa using List.find?_some h⟩
theorem cV {l:List RO}{k:Int}:am l k=none↔∀ o∈l,o.oop≠k:=by
 unfold am;simp [List.find?_eq_none]
theorem qI {l:List RO} (h:l.Pairwise lF){a b:RO} (ha:a∈l) (hb:b∈l):a=b∨lF a b∨lF b a:=by
 induction h with
 | nil=>cases ha
 | @cons x l hx _ ih =>
  rcases List.mem_cons.1 ha with e1 | ha'
  ·rcases List.mem_cons.1 hb with e2 | hb'
   ·exact .inl (e1.trans e2.symm)
   ·exact .inr (.inl (e1 ▸ hx b hb'))
  ·rcases List.mem_cons.1 hb with e2 | hb'
   ·exact .inr (.inr (e2 ▸ hx a ha'))
   ·exact ih ha' hb'
theorem ch {words oops:Int}{l:List RO} (hw:WFO words oops l){o:RO} (h:o∈l):am l o.oop=some o:=by
 cases hf:am l o.oop with
 | none=>exact absurd rfl (cV.1 hf o h)
 | some o' =>
  obtain ⟨h1,h2⟩:=au hf
  rcases qI hw.pw h1 h with rfl | h3 | h3
  ·rfl
  ·exact absurd h2 h3.1
  ·exact absurd h2.symm h3.1
theorem dd {l:List RO}{x:RO}{k:Int}:am (l++[x]) k=match am l k with
  | some o=>some o
  | none=>if x.oop=k then some x else none:=by
 unfold am
 rw [List.find?_append]
 cases List.find? (fun o=>decide (o.oop=k)) l with
 | some o=>rfl
 | none =>
  simp only [Option.none_or,List.find?_cons,List.find?_nil]
  by_cases h:x.oop=k <;> simp [h]
theorem apart {words oops:Int}{l:List RO} (hw:WFO words oops l){a b:RO} (ha:a∈l) (hb:b∈l) (hn:a.oop≠b.oop):a.place+a.len<=b.place∨b.place+b.len<=a.place:=by
 rcases qI hw.pw ha hb with rfl | h | h
 ·exact absurd rfl hn
 ·exact .inl h.2
 ·exact .inr h.2
theorem cr (l:List RO) (x:RO):aU (l++[x])=x.place+x.len:=by simp [aU]
theorem jz {words oops:Int}{l:List RO} (hw:WFO words oops l){o:RO} (h:o∈l):o.place+o.len<=aU l:=by
 rcases List.eq_nil_or_concat l with rfl | ⟨m,x,rfl⟩ <;> (try simp only [List.concat_eq_append] at *)
 ·cases h
 ·rw [cr]
  rcases List.mem_append.1 h with h | h
  ·have:=(List.pairwise_append.1 hw.pw).2.2 o h x (by simp)
   have:=this.2
   have:=x.len_pos
   omega
  ·simp at h;subst h;exact Int.le_refl _
theorem dv {words oops:Int}{l:List RO} (hw:WFO words oops l) (h0:0<=words):0<=aU l∧aU l<=words:=by
 rcases List.eq_nil_or_concat l with rfl | ⟨m,x,rfl⟩ <;> (try simp only [List.concat_eq_append] at *)
 ·exact ⟨by simp [aU],by simpa [aU] using h0⟩
 ·rw [cr]
  have hg:=hw.good x (by simp)
  have:=hg.pl
  have:=hg.fits
  have:=x.len_pos
  omega
theorem jA (l:List RO):∀ (n:Nat) (k m:Int),k<=m->m<k+n->am l m=none->(∀ j,k<=j->j<m->am l j≠none)->kK l n k=m
 | 0,k,m,h1,h2,_,_=>by omega
 | n+1,k,m,h1,h2,h3,h4=>by
  unfold kK
  by_cases h:k=m
  ·subst h;simp [h3]
  ·have h5:am l k≠none:=h4 k (by omega) (by omega)
   rw [if_pos (by cases hk:am l k with | none=>exact absurd hk h5 | some _=>rfl)]
   exact jA l n (k+1) m (by omega) (by omega) h3 fun j hj=>h4 j (by omega)
theorem qF {l:List RO}{m:Int} (h1:1<=m) (h2:m<=65537) (h3:am l m=none) (h4:∀ j,1<=j->j<m->am l j≠none):bz l=m :=
 jA l 65600 1 m h1 (by omega) h3 h4
theorem qr:∀ (n:Nat) (l:List RO),(∀ k:Int,1<=k->k<=n->∃ o∈l,o.oop=k)->n<=l.length
 | 0,_,_=>Nat.zero_le _
 | n+1,l,h=>by
  obtain ⟨o,ho,hk⟩:=h (n+1:Nat) (by omega) (by omega)
  obtain ⟨s,t,rfl⟩:=List.append_of_mem ho
  have:=qr n (s++t) fun k h1 h2=>by
   obtain ⟨o',ho',hk'⟩:=h k h1 (by omega)
   refine ⟨o',?_,hk'⟩
   have hne:o'≠o:=fun e=>by subst e;omega
   simp only [List.mem_append,List.mem_cons] at ho' ⊢
   rcases ho' with h | h | h
   ·exact .inl h
   ·exact absurd h hne
   ·exact .inr h
  simp only [List.length_append,List.length_cons] at this ⊢
  omega
theorem fH {l:List RO}:∀ (n:Nat) (k:Int),(∃ m,k<=m∧m<k+n∧am l m=none)->∃ m,k<=m∧m<k+n∧am l m=none∧∀ j,k<=j->j<m->am l j≠none
 | 0,k,⟨m,h1,h2,_⟩=>by omega
 | n+1,k,⟨m,h1,h2,h3⟩=>by
  by_cases h:am l k=none
  ·exact ⟨k,Int.le_refl _,by omega,h,fun j h1 h2=>by omega⟩
  ·have hm:k≠m:=fun e=>h (e ▸ h3)
   obtain ⟨m',g1,g2,g3,g4⟩:=fH n (k+1) ⟨m,by omega,by omega,h3⟩
   refine ⟨m',by omega,by omega,g3,fun j h1 h2=>?_⟩
   by_cases hj:j=k
   ·subst hj;exact h
   ·exact g4 j (by omega) h2
theorem dE {words oops:Int}{l:List RO} (hw:WFO words oops l) (h1:oops<=65536) (h:(l.length:Int)<oops) :
  1<=bz l∧bz l<=oops∧am l (bz l)=none∧∀ j,1<=j->j<bz l->am l j≠none:=by
 have hex:∃ m,1<=m∧m<1+(oops.toNat:Int)∧am l m=none:=by
  refine Classical.byContradiction fun hno=>?_
  have:=qr oops.toNat l fun k hk1 hk2=>by
   cases hk:am l k with
   | none=>exact absurd ⟨k,hk1,by omega,hk⟩ hno
   | some o=>exact ⟨o,(au hk).1,(au hk).2⟩
  omega
 obtain ⟨m,g1,g2,g3,g4⟩:=fH _ _ hex
 have e:=qF g1 (by omega) g3 g4
 rw [e]
 exact ⟨g1,by omega,g3,g4⟩
def cl (r:RH) (cls n fmt:Int):RO:=⟨bz r.objs,fmt,aU r.objs,r.born,cls,List.replicate n.toNat (if fmt=1 then 0 else 4)⟩
def RH.alloc (r:RH) (cls n fmt:Int):(Int × Int) × RH :=
 if ¬ cR cls∨fmt<0∨1<fmt∨n<0 then ((0,1),r)
 else if 8192<n then ((0,22),r)
 else if r.oops<=(r.objs.length:Int)∨r.words<aU r.objs+lenOf n fmt then ((0,23),r)
 else if r.mark=1 then ((0,24),{ r with mark:=0 })
 else ((bz r.objs,0),{ r with mark:=if 0<r.mark then r.mark-1 else r.mark,born:=IntKind.wrap .i64 (r.born+1),objs:=r.objs++[cl r cls n fmt] })
def fg (l:List RO) (k:Int) (f:RO->RO):List RO:=l.map fun o=>if o.oop=k then f o else o
def cM (i w:Int) (o:RO):RO:={ o with slots:=o.slots.set i.toNat w }
def RH.at (r:RH) (k i:Int):Int × Int:=match am r.objs k with
 | none=>(0,20)
 | some o=>if i<0∨(o.slots.length:Int)<=i then (0,21) else (o.slots.getD i.toNat 0,0)
def RH.put (r:RH) (k i w:Int):Int × RH:=match am r.objs k with
 | none=>(20,r)
 | some o=>if i<0∨(o.slots.length:Int)<=i then (21,r) else if ¬ eO o.fmt w then (10,r) else (0,{ r with objs:=fg r.objs k (cM i w) })
def RH.clsAt (r:RH) (k:Int):Int × Int:=match am r.objs k with
 | none=>(0,20)
 | some o=>(o.cls,0)
def RH.size (r:RH) (k:Int):Int × Int × Int:=match am r.objs k with
 | none=>(0,0,20)
 | some o=>((o.slots.length:Int),o.fmt,0)
def RH.marks (r:RH) (k:Int):Int × RH:=if 0<=k∧k<=1073741824 then (0,{ r with mark:=k }) else (1,r)
def bo:Int->List RO->List RO
 | _,[]=>[]
 | at_,o :: l=>{ o with place:=at_ } :: bo (at_+o.len) l
def RH.keepO (r:RH) (l:List Int):List RO:=bo 0 (r.objs.filter fun o=>decide (o.oop∈l))
def RH.keep (r:RH) (l:List Int):(Int × Int × Int) × RH :=
 if ∃ k∈l,am r.objs k=none then ((0,0,20),r)
 else (((r.objs.length:Int)-((r.keepO l).length:Int),aU r.objs-aU (r.keepO l),0),{ r with objs:=r.keepO l,turn:=IntKind.wrap .i64 (r.turn+1) })
def RH.upto (r:RH) (n:Nat):List Int:=((List.range n).map fun i:Nat=>(i:Int)).filter fun k=>(am r.objs k).isSome
def RH.all (r:RH):List Int:=r.upto (r.oops+1).toNat
theorem RH.upto_succ (r:RH) (n:Nat):r.upto (n+1)=r.upto n++if (am r.objs n).isSome then [(n:Int)] else []:=by
 unfold RH.upto
 rw [List.range_succ,List.map_append,List.filter_append]
 congr 1
 simp only [List.map_cons,List.map_nil,List.filter_cons,List.filter_nil]
theorem RH.upto_len (r:RH) (n:Nat):(r.upto n).length<=n:=by
 unfold RH.upto
 exact Nat.le_trans (List.length_filter_le _ _) (by simp)
theorem RH.mem_all {r:RH} (h:WFH r){k:Int}:k∈r.all↔am r.objs k≠none:=by
 unfold RH.all RH.upto
 simp only [List.mem_filter,List.mem_map,List.mem_range]
 constructor
 ·rintro ⟨_,h2⟩ h3;rw [h3] at h2;cases h2
 ·intro hk
  cases ho:am r.objs k with
  | none=>exact absurd ho hk
  | some o =>
   have hg:=h.objs.good o (au ho).1
   have h1:=hg.oop1
   have h2:=hg.oop2
   rw [(au ho).2] at h1 h2
   exact ⟨⟨k.toNat,by omega,by omega⟩,rfl⟩
theorem oX (l:List RO) (k:Int) (f:RO->RO):(fg l k f).length=l.length:=by simp [fg]
theorem bZ {l:List RO}{k j:Int}{f:RO->RO} (hf:∀ o,(f o).oop=o.oop):am (fg l k f) j=(am l j).map fun o=>if o.oop=k then f o else o:=by
 induction l with
 | nil=>rfl
 | cons o l ih =>
  unfold am fg at *
  simp only [List.map_cons,List.find?_cons]
  have e:(if o.oop=k then f o else o).oop=o.oop:=by split <;> simp [hf]
  rw [e]
  by_cases h:o.oop=j
  ·simp [h]
  ·simp only [h,decide_false];exact ih
theorem B1 {l:List RO}{g:RO->RO} (h1:∀ o,(g o).oop=o.oop) (h2:∀ o,(g o).place=o.place) (h3:∀ o,(g o).len=o.len) (h:l.Pairwise lF):(l.map g).Pairwise lF:=by
 rw [List.pairwise_map]
 refine h.imp fun {a b} hab=>?_
 unfold lF at *
 rw [h1,h1,h2,h2,h3]
 exact hab
theorem fJ (i w:Int) (o:RO):(cM i w o).len=o.len:=by simp [cM,RO.len]
theorem jT {l:List RO}{k:Int}{f:RO->RO} (h2:∀ o,(f o).place=o.place) (h3:∀ o,(f o).len=o.len):aU (fg l k f)=aU l:=by
 unfold aU fg
 rw [List.getLast?_map]
 cases l.getLast? with
 | none=>rfl
 | some o =>
  show (if o.oop=k then f o else o).place+(if o.oop=k then f o else o).len=o.place+o.len
  split
  ·rw [h2,h3]
  ·rfl
theorem gW {r:RH} (h:WFH r) (cls n fmt:Int):WFH (r.alloc cls n fmt).2:=by
 unfold RH.alloc
 split
 ·exact h
 split
 ·exact h
 split
 ·exact h
 split
 ·exact { h with m0:=by simp,m1:=by simp }
 ·rename_i h1 h2 h3 h4
  have hl:=dE h.objs h.o1 (by omega)
  have hlen:(cl r cls n fmt).len=lenOf n fmt:=by simp only [cl,RO.len,List.length_replicate];congr 1;omega
  have he:=dv h.objs h.w0
  have hm0:=h.m0
  have hm1:=h.m1
  refine { w0:=h.w0,w1:=h.w1,o0:=h.o0,o1:=h.o1,m0:=?_,m1:=?_,objs:=⟨?_,?_⟩ }
  ·show 0<=if 0<r.mark then r.mark-1 else r.mark
   split <;> omega
  ·show (if 0<r.mark then r.mark-1 else r.mark)<=1073741824
   split <;> omega
  ·intro o ho
   rcases List.mem_append.1 ho with ho | ho
   ·exact h.objs.good o ho
   ·simp at ho;subst ho
    refine { oop1:=hl.1,oop2:=hl.2.1,fmt:=?_,pl:=he.1,fits:=?_,cls:=?_,many:=?_,may:=?_ }
    ·show fmt=0∨fmt=1;omega
    ·rw [hlen];show aU r.objs+lenOf n fmt<=r.words;omega
    ·exact Classical.byContradiction fun hc=>h1 (.inl hc)
    ·simp only [cl,List.length_replicate];omega
    ·intro w hw
     simp only [cl] at hw ⊢
     have:=List.eq_of_mem_replicate hw
     subst this
     unfold eO
     split
     ·simp
     ·decide
  ·rw [List.pairwise_append]
   refine ⟨h.objs.pw,by simp,fun a ha b hb=>?_⟩
   simp at hb;subst hb
   exact ⟨cV.1 hl.2.2.1 a ha,jz h.objs ha⟩
theorem jW {r:RH} (h:WFH r) (k i w:Int):WFH (r.put k i w).2:=by
 unfold RH.put
 split
 ·exact h
 split
 ·exact h
 split
 ·exact h
 ·rename_i o ho h1 h2
  refine { h with objs:=⟨?_,?_⟩ }
  ·intro o' ho'
   simp only [fg,List.mem_map] at ho'
   obtain ⟨a,ha,rfl⟩:=ho'
   have hg:=h.objs.good a ha
   split
   ·rename_i hk
    have:a=o:=by have:=ch h.objs ha;rw [hk,ho] at this;exact (Option.some.inj this).symm
    subst this
    refine { oop1:=hg.oop1,oop2:=hg.oop2,fmt:=hg.fmt,pl:=hg.pl,fits:=by rw [fJ];exact hg.fits,cls:=hg.cls,many:=by simpa [cM] using hg.many,may:=?_ }
    intro x hx
    rcases List.mem_or_eq_of_mem_set hx with hx | rfl
    ·exact hg.may x hx
    ·exact Classical.byContradiction h2
   ·exact hg
  ·refine B1 (fun o=>?_) (fun o=>?_) (fun o=>?_) h.objs.pw
   ·split <;> rfl
   ·split <;> rfl
   ·split
    ·exact fJ i w o
    ·rfl
theorem wU {r:RH} (h:WFH r) (k:Int):WFH (r.marks k).2:=by
 unfold RH.marks
 split
 ·exact { h with m0:=by simp;omega,m1:=by simp;omega }
 ·exact h
theorem nu (at_:Int) (l:List RO):(bo at_ l).length=l.length:=by
 induction l generalizing at_ with
 | nil=>rfl
 | cons o l ih=>simp [bo,ih]
theorem jN {at_:Int}{l:List RO}{x:RO} (h:x∈bo at_ l):∃ o∈l,x={ o with place:=x.place }∧at_<=x.place:=by
 induction l generalizing at_ with
 | nil=>cases h
 | cons o l ih =>
  rcases List.mem_cons.1 h with rfl | h
  ·exact ⟨o,by simp,rfl,Int.le_refl _⟩
  ·obtain ⟨o',h1,h2,h3⟩:=ih h
   exact ⟨o',by simp [h1],h2,by have:=o.len_pos;omega⟩
theorem lu {words oops:Int}:∀ (l:List RO) (at_:Int),WFO words oops l->0<=at_->(∀ o∈l,at_<=o.place)->WFO words oops (bo at_ l)∧(∀ x∈bo at_ l,at_<=x.place)
 | [],_,h,_,_=>⟨h,by simp [bo]⟩
 | o :: l,at_,h,h0,hle=>by
  have hp:=List.pairwise_cons.1 h.pw
  have hg:=h.good o (by simp)
  have ho:=hle o (by simp)
  have hlen:({ o with place:=at_ }:RO).len=o.len:=rfl
  have hpos:=o.len_pos
  have ih:=lu l (at_+o.len) ⟨fun x hx=>h.good x (by simp [hx]),hp.2⟩ (by omega) fun x hx=>by have:=(hp.1 x hx).2;omega
  refine ⟨⟨?_,?_⟩,?_⟩
  ·intro x hx
   rcases List.mem_cons.1 hx with rfl | hx
   ·have hf:=hg.fits
    exact { oop1:=hg.oop1,oop2:=hg.oop2,fmt:=hg.fmt,pl:=h0,fits:=by rw [hlen];show at_+o.len<=words;omega,cls:=hg.cls,many:=hg.many,may:=hg.may }
   ·exact ih.1.good x hx
  ·refine List.pairwise_cons.2 ⟨fun x hx=>⟨?_,?_⟩,ih.1.pw⟩
   ·obtain ⟨o',h1,h2,_⟩:=jN hx
    rw [h2];exact (hp.1 o' h1).1
   ·rw [hlen];exact ih.2 x hx
  ·intro x hx
   rcases List.mem_cons.1 hx with rfl | hx
   ·exact Int.le_refl _
   ·have:=ih.2 x hx;omega
theorem WFO.filter {words oops:Int}{l:List RO} (h:WFO words oops l) (p:RO->Bool):WFO words oops (l.filter p) :=
 ⟨fun o ho=>h.good o (List.mem_filter.1 ho).1,h.pw.filter p⟩
theorem pL {r:RH} (h:WFH r) (l:List Int):WFO r.words r.oops (r.keepO l) :=
 (lu _ 0 (h.objs.filter _) (Int.le_refl _) fun o ho=>(h.objs.good o (List.mem_filter.1 ho).1).pl).1
theorem dF {r:RH} (h:WFH r) (l:List Int):WFH (r.keep l).2:=by
 unfold RH.keep
 split
 ·exact h
 ·exact { h with objs:=pL h l }
end Kw
namespace Go.Proofs.YtgjfejoohojokaaGreatDoor
open Kw
structure SimH (W T B:Int->Int) (low:Int) (r:RH):Prop where
 tab:∀ k,0<=k->k<=r.oops->T k=match am r.objs k with
  | some o=>o.place
  | none=>-1
 bor:∀ o∈r.objs,B o.oop=o.born
 cls:∀ o∈r.objs,W o.place=o.cls
 shp:∀ o∈r.objs,W (o.place+1)=2*(o.slots.length:Int)+o.fmt
 wrd:∀ o∈r.objs,o.fmt=0->∀ i:Nat,i<o.slots.length->W (o.place+2+i)=o.slots.getD i 0
 byt:∀ o∈r.objs,o.fmt=1->∀ i:Nat,i<o.slots.length->W (o.place+2+(i / 4:Nat)) / ((2 ^ (i % 4*8):Nat):Int) % 256=o.slots.getD i 0
 byr:∀ o∈r.objs,o.fmt=1->∀ j,o.place+2<=j->j<o.place+o.len->0<=W j∧W j<4294967296
 low1:1<=low
 low2:low<=r.oops+1
 low3:∀ k,1<=k->k<low->am r.objs k≠none
structure PHs (H:ae) (hb wb tb bb:Nat) (W T B:Int->Int) (low:Int) (r:RH):Prop where
 hd:aV H hb #[.slice (some ⟨wb,0,none⟩) r.words.toNat r.words.toNat,.slice (some ⟨tb,0,none⟩) (r.oops+1).toNat (r.oops+1).toNat,.slice (some ⟨bb,0,none⟩) (r.oops+1).toNat (r.oops+1).toNat,.int .i64 (r.objs.length:Int),.int .i64 (aU r.objs),.int .i64 low,.int .i64 r.mark,.int .i64 r.born,.int .i64 r.turn]
 mw:cT H wb r.words.toNat W
 mt:cT H tb (r.oops+1).toNat T
 mb:cT H bb (r.oops+1).toNat B
 d:[hb,wb,tb,bb,ax].Nodup
 kinds:cq H
 wf:WFH r
 sim:SimH W T B low r
section
variable {H:ae}{hb wb tb bb:Nat}{W T B:Int->Int}{low:Int}{r:RH}
theorem PHs.c0 (h:PHs H hb wb tb bb W T B low r):aa H ⟨hb,0,none⟩=some (.slice (some ⟨wb,0,none⟩) r.words.toNat r.words.toNat):=h.hd.cell 0
theorem PHs.c1 (h:PHs H hb wb tb bb W T B low r):aa H ⟨hb,1,none⟩=some (.slice (some ⟨tb,0,none⟩) (r.oops+1).toNat (r.oops+1).toNat):=h.hd.cell 1
theorem PHs.c2 (h:PHs H hb wb tb bb W T B low r):aa H ⟨hb,2,none⟩=some (.slice (some ⟨bb,0,none⟩) (r.oops+1).toNat (r.oops+1).toNat):=h.hd.cell 2
theorem PHs.c3 (h:PHs H hb wb tb bb W T B low r):aa H ⟨hb,3,none⟩=some (.int .i64 (r.objs.length:Int)):=h.hd.cell 3
theorem PHs.c4 (h:PHs H hb wb tb bb W T B low r):aa H ⟨hb,4,none⟩=some (.int .i64 (aU r.objs)):=h.hd.cell 4
theorem PHs.c5 (h:PHs H hb wb tb bb W T B low r):aa H ⟨hb,5,none⟩=some (.int .i64 low):=h.hd.cell 5
theorem PHs.c6 (h:PHs H hb wb tb bb W T B low r):aa H ⟨hb,6,none⟩=some (.int .i64 r.mark):=h.hd.cell 6
theorem PHs.c7 (h:PHs H hb wb tb bb W T B low r):aa H ⟨hb,7,none⟩=some (.int .i64 r.born):=h.hd.cell 7
theorem PHs.c8 (h:PHs H hb wb tb bb W T B low r):aa H ⟨hb,8,none⟩=some (.int .i64 r.turn):=h.hd.cell 8
theorem PHs.word (h:PHs H hb wb tb bb W T B low r){i:Int} (h0:0<=i) (h1:i<r.words):aa H ⟨wb,i.toNat,none⟩=some (.int .i64 (W i)):=h.mw.cell h0 (by omega)
theorem PHs.tabc (h:PHs H hb wb tb bb W T B low r){i:Int} (h0:0<=i) (h1:i<=r.oops):aa H ⟨tb,i.toNat,none⟩=some (.int .i64 (T i)):=h.mt.cell h0 (by omega)
end
def bW (H:ae) (hb:Nat) (F:az) (r:RH):Prop:=∃ wb tb bb W T B low,F=[hb,wb,tb,bb]∧PHs H hb wb tb bb W T B low r
theorem PHs.rep {H:ae}{hb wb tb bb:Nat}{W T B:Int->Int}{low:Int}{r:RH} (h:PHs H hb wb tb bb W T B low r):bW H hb [hb,wb,tb,bb] r:=⟨_,_,_,_,_,_,_,rfl,h⟩
theorem bW.wf {H:ae}{hb:Nat}{F:az}{r:RH} (h:bW H hb F r):WFH r:=by obtain ⟨_,_,_,_,_,_,_,_,h⟩:=h;exact h.wf
theorem bW.kinds {H:ae}{hb:Nat}{F:az}{r:RH} (h:bW H hb F r):cq H:=by obtain ⟨_,_,_,_,_,_,_,_,h⟩:=h;exact h.kinds
theorem bW.lt {H:ae}{hb:Nat}{F:az}{r:RH} (h:bW H hb F r):∀ b∈F,b<H.size:=by
 obtain ⟨wb,tb,bb,_,_,_,_,rfl,h⟩:=h
 intro b hb
 simp at hb
 rcases hb with rfl | rfl | rfl | rfl
 ·exact h.hd.lt
 ·exact h.mw.lt
 ·exact h.mt.lt
 ·exact h.mb.lt
theorem bW.gk {H:ae}{hb:Nat}{F:az}{r:RH} (h:bW H hb F r):ax∉F:=by
 obtain ⟨wb,tb,bb,_,_,_,_,rfl,h⟩:=h
 have:=h.d
 simp only [List.nodup_cons,List.mem_cons,List.not_mem_nil,or_false,not_or] at this ⊢
 obtain ⟨⟨_,_,_,h1⟩,⟨_,_,h2⟩,⟨_,h3⟩,h4,_⟩:=this
 exact ⟨fun e=>h1 e.symm,fun e=>h2 e.symm,fun e=>h3 e.symm,fun e=>h4 e.symm⟩
theorem bW.fr {H H':ae}{hb:Nat}{F G:az}{r:RH} (h:bW H hb F r) (hf:Fr G H H') (hd:cA F G) (hg:ax∉G):bW H' hb F r:=by
 obtain ⟨wb,tb,bb,W,T,B,low,rfl,h⟩:=h
 exact ⟨wb,tb,bb,W,T,B,low,rfl,{ hd:=h.hd.fr hf (hd _ (by simp)),mw:=h.mw.fr hf (hd _ (by simp)),mt:=h.mt.fr hf (hd _ (by simp)),mb:=h.mb.fr hf (hd _ (by simp)),d:=h.d,kinds:=h.kinds.fr hf hg,wf:=h.wf,sim:=h.sim }⟩
section
variable {H:ae}{hb wb tb bb:Nat}{W T B:Int->Int}{low:Int}{r:RH}{Q:QT}
theorem lk {n m:Int} (h:Q (.bool (decide (0<=n∧n<=m))) H):ac PP En #[.int .i64 n,.int .i64 m] Q H:=by
 apply As
 unfold Fl
 simp only [af]
 split
 ·rename_i h1;have h1:0<=n:=h1;simpa [h1] using h
 ·rename_i h1;have h1:¬ 0<=n:=h1;simpa [h1] using h
theorem lg (hR:PHs H hb wb tb bb W T B low r) (h:Q (.bool false) H):ac PP CH #[.pointer (some ⟨hb,0,none⟩)] Q H:=by
 apply zh
 unfold Ix lV
 simp only [af,cond_true,cond_false,Option.isNone_some,Option.isNone_none,aH,aC,aR,aL,aF,aN,aM,aB,aO,aP,aG,aQ,and_assoc,true_and,and_true,al,Nat.zero_add,Nat.mul_one,aq,ao,aA,Bool.not_true,Bool.not_false,aX,aY,hR.c1]
 exact h
theorem pr {w:Int} (hk:cq H) (h:Q (.bool (decide (cR w))) H):ac PP Ci #[.int .i64 w] Q H:=by
 apply zV
 unfold HF iV
 refine fS hk ⟨_,rfl,?_⟩
 have:(aD w != 0)=decide (cR w):=by rw [aY];rfl
 rw [this];exact h
theorem jp {n f:Int} (h0:0<=n) (h1:n<=1000000000) (h:Q (.int .i64 (lenOf n f)) H):ac PP DH #[.int .i64 n,.int .i64 f] Q H:=by
 apply z6
 unfold Ku iV wW
 simp only [af,cond_true,cond_false,Option.isNone_some,Option.isNone_none,aH,aC,aR,aL,aF,aN,aM,aB,aO,aP,aG,aQ,and_assoc,true_and,and_true,al,Nat.zero_add,Nat.mul_one,aq,ao,aA,Bool.not_true,Bool.not_false,aX,aY]
 unfold lenOf at h
 split
 ·rename_i hf
  rw [if_pos hf] at h
  rw [ah (n:=n+4) (by omega) (by omega),ah (n:=n+4-1) (by omega) (by omega),tg,if_pos (by omega),ah (n:=(n+4-1) / 4) (by omega) (by omega),ah (by omega) (by omega)]
  rw [show n+4-1=n+3 by omega];exact h
 ·rename_i hf
  rw [if_neg hf] at h
  rw [ah (by omega) (by omega)];exact h
theorem PHs.in_ (hR:PHs H hb wb tb bb W T B low r){o:RO} (ho:o∈r.objs):0<=o.place∧o.place+o.len<=r.words∧2<=o.len∧r.words<=1048576∧(o.fmt=0∨o.fmt=1)∧(o.slots.length:Int)<=8192:=by
 have hg:=hR.wf.objs.good o ho
 exact ⟨hg.pl,hg.fits,o.len_pos,hR.wf.w1,hg.fmt,by have:=hg.many;omega⟩
theorem sN (hR:PHs H hb wb tb bb W T B low r){o:RO} (ho:o∈r.objs) (h:Q (.tuple #[.int .i64 (o.slots.length:Int),.int .i64 o.fmt]) H):ac PP vR #[.pointer (some ⟨hb,0,none⟩),.int .i64 o.place] Q H:=by
 obtain ⟨h1,h2,h3,h4,h5,h6⟩:=hR.in_ ho
 apply sM
 unfold Cz iV wW lV
 rw [ah (n:=o.place+1) (by omega) (by omega)]
 simp only [af,cond_true,cond_false,Option.isNone_some,Option.isNone_none,aH,aC,aR,aL,aF,aN,aM,aB,aO,aP,aG,aQ,and_assoc,true_and,and_true,al,Nat.zero_add,Nat.mul_one,aq,ao,aA,Bool.not_true,Bool.not_false,aX,aY,hR.c0,hR.word (i:=o.place+1) (by omega) (by omega)]
 refine ⟨by omega,by omega,?_⟩
 rw [hR.sim.shp o ho,yJ,ti]
 have e1:(2*(o.slots.length:Int)+o.fmt) / 2=o.slots.length:=by omega
 have e2:(2*(o.slots.length:Int)+o.fmt) % 2=o.fmt:=by omega
 rw [e1,e2];exact h
def np (r:RH) (k:Int):Value:=match am r.objs k with
 | none=>.tuple #[.int .i64 0,.int .i64 20]
 | some o=>.tuple #[.int .i64 o.place,.int .i64 0]
theorem nF (hR:PHs H hb wb tb bb W T B low r){k:Int} (h:Q (np r k) H):ac PP BK #[.pointer (some ⟨hb,0,none⟩),.int .i64 k] Q H:=by
 apply yq
 unfold Fv iV pV lV
 refine lg hR ⟨_,rfl,?_⟩
 have ho0:=hR.wf.o0
 have none_:(k<1∨r.oops<k)->am r.objs k=none:=fun hk=>cV.2 fun o ho=>by
  have hg:=hR.wf.objs.good o ho;have:=hg.oop1;have:=hg.oop2;omega
 unfold np at h
 simp only [af,cond_true,cond_false,Option.isNone_some,Option.isNone_none,aH,aC,aR,aL,aF,aN,aM,aB,aO,aP,aG,aQ,and_assoc,true_and,and_true,al,Nat.zero_add,Nat.mul_one,aq,ao,aA,Bool.not_true,Bool.not_false,aX,aY,hR.c1]
 split
 ·rename_i hk;rw [none_ (.inl hk)] at h;exact h
 split
 ·rename_i hk;rw [none_ (.inr (by omega))] at h;exact h
 ·rename_i h1 h2
  have ht:=hR.sim.tab k (by omega) (by omega)
  simp only [hR.tabc (i:=k) (by omega) (by omega),af,cond_true,cond_false,Option.isNone_some,Option.isNone_none,aH,aC,aR,aL,aF,aN,aM,aB,aO,aP,aG,aQ,and_assoc,true_and,and_true,al,Nat.zero_add,Nat.mul_one,aq,ao,aA,Bool.not_true,Bool.not_false,aX,aY]
  refine ⟨by omega,by omega,?_⟩
  rw [ht]
  cases ho:am r.objs k with
  | none=>rw [ho] at h;simpa using h
  | some o =>
   rw [ho] at h
   have:=(hR.in_ (au ho).1).1
   simp only
   rw [if_neg (by omega)]
   exact ⟨by omega,by omega,h⟩
def qk (r:RH) (k i:Int):Value:=match am r.objs k with
 | none=>.tuple #[.int .i64 0,.int .i64 0,.int .i64 0,.int .i64 20]
 | some o=>if i<0∨(o.slots.length:Int)<=i then .tuple #[.int .i64 0,.int .i64 0,.int .i64 0,.int .i64 21]
  else if o.fmt=1 then .tuple #[.int .i64 (o.place+2+i / 4),.int .i64 (i % 4*8),.int .i64 1,.int .i64 0]
  else .tuple #[.int .i64 (o.place+2+i),.int .i64 0,.int .i64 o.fmt,.int .i64 0]
theorem qM (hR:PHs H hb wb tb bb W T B low r){k i:Int} (h:Q (qk r k i) H):ac PP Dk #[.pointer (some ⟨hb,0,none⟩),.int .i64 k,.int .i64 i] Q H:=by
 apply zH
 unfold Ka iV wW pV cS
 refine nF hR ?_
 unfold np
 unfold qk at h
 cases ho:am r.objs k with
 | none=>rw [ho] at h;exact ⟨_,_,rfl,by simpa using h⟩
 | some o =>
  rw [ho] at h
  have hm:=(au ho).1
  obtain ⟨h1,h2,h3,h4,h5,h6⟩:=hR.in_ hm
  refine ⟨_,_,rfl,?_⟩
  simp only [af,cond_true,cond_false,Option.isNone_some,Option.isNone_none,aH,aC,aR,aL,aF,aN,aM,aB,aO,aP,aG,aQ,and_assoc,true_and,and_true,al,Nat.zero_add,Nat.mul_one,aq,ao,aA,Bool.not_true,Bool.not_false,aX,aY,ne_eq,not_true_eq_false,if_false]
  refine sN hR hm ⟨_,_,rfl,?_⟩
  simp only at h
  split
  ·rw [if_pos (by omega)] at h;exact h
  split
  ·rw [if_pos (by omega)] at h;exact h
  ·rename_i g1 g2
   rw [if_neg (by omega)] at h
   split
   ·rename_i hf
    rw [if_pos hf] at h
    rw [tg,if_pos (by omega),xv _ _ (by decide),if_pos (by omega),ah (n:=o.place+2) (by omega) (by omega),ah (n:=i / 4) (by omega) (by omega),ah (n:=i % 4*8) (by omega) (by omega),ah (by omega) (by omega),hf]
    exact h
   ·rename_i hf
    rw [if_neg hf] at h
    rw [ah (n:=o.place+2) (by omega) (by omega),ah (by omega) (by omega)]
    exact h
theorem nV (hR:PHs H hb wb tb bb W T B low r){o:RO} (ho:o∈r.objs){i:Int} (h0:0<=i) (h1:i<o.slots.length):(o.fmt=1->o.place+2+i / 4<r.words∧o.place+2+i / 4<o.place+o.len)∧(o.fmt≠1->o.place+2+i<r.words∧o.place+2+i<o.place+o.len):=by
 obtain ⟨g1,g2,g3,g4,g5,g6⟩:=hR.in_ ho
 have hl:o.len=lenOf o.slots.length o.fmt:=rfl
 constructor
 ·intro hf;rw [lenOf,if_pos hf] at hl;omega
 ·intro hf;rw [lenOf,if_neg hf] at hl;omega
theorem La (hR:PHs H hb wb tb bb W T B low r){k i:Int} (h:Q (Fi (r.at k i)) H):ac PP A2 #[.pointer (some ⟨hb,0,none⟩),.int .i64 k,.int .i64 i] Q H:=by
 apply El
 unfold LU iV pV lV
 refine qM hR ?_
 unfold qk
 unfold RH.at at h
 cases ho:am r.objs k with
 | none=>rw [ho] at h;exact ⟨_,_,_,_,rfl,by simpa using h⟩
 | some o =>
  rw [ho] at h
  have hm:=(au ho).1
  obtain ⟨h1,h2,h3,h4,h5,h6⟩:=hR.in_ hm
  simp only at h ⊢
  split
  ·rename_i hi
   rw [if_pos hi] at h
   exact ⟨_,_,_,_,rfl,by simpa using h⟩
  ·rename_i hi
   rw [if_neg hi] at h
   have hs:=nV hR hm (i:=i) (by omega) (by omega)
   split
   ·rename_i hf
    have hs:=hs.1 hf
    refine ⟨_,_,_,_,rfl,?_⟩
    simp only [af,cond_true,cond_false,Option.isNone_some,Option.isNone_none,aH,aC,aR,aL,aF,aN,aM,aB,aO,aP,aG,aQ,and_assoc,true_and,and_true,al,Nat.zero_add,Nat.mul_one,aq,ao,aA,Bool.not_true,Bool.not_false,aX,aY,ne_eq,not_true_eq_false,if_false,if_true,hR.c0,hR.word (i:=o.place+2+i / 4) (by omega) (by omega)]
    refine ⟨by omega,by omega,?_⟩
    rw [if_neg (by omega)]
    have e:i % 4*8=((i.toNat % 4*8:Nat):Int):=by omega
    have hb:=hR.sim.byt o hm hf i.toNat (by omega)
    have e2:((i.toNat / 4:Nat):Int)=i / 4:=by omega
    rw [e2] at hb
    rw [e,od _ _ (by omega),xZ,hb]
    exact h
   ·rename_i hf
    have hs:=hs.2 hf
    refine ⟨_,_,_,_,rfl,?_⟩
    have hf0:o.fmt=0:=by omega
    have hw:=hR.sim.wrd o hm hf0 i.toNat (by omega)
    rw [Int.toNat_of_nonneg (by omega)] at hw
    simp only [af,cond_true,cond_false,Option.isNone_some,Option.isNone_none,aH,aC,aR,aL,aF,aN,aM,aB,aO,aP,aG,aQ,and_assoc,true_and,and_true,al,Nat.zero_add,Nat.mul_one,aq,ao,aA,Bool.not_true,Bool.not_false,aX,aY,ne_eq,not_true_eq_false,if_false,hf,hR.c0,hR.word (i:=o.place+2+i) (by omega) (by omega)]
    refine ⟨by omega,by omega,?_⟩
    rw [hw]
    exact h
theorem zd (hR:PHs H hb wb tb bb W T B low r){k:Int} (h:Q (Fi (r.clsAt k)) H):ac PP Bl #[.pointer (some ⟨hb,0,none⟩),.int .i64 k] Q H:=by
 apply Br
 unfold LG iV pV lV
 refine nF hR ?_
 unfold np
 unfold RH.clsAt at h
 cases ho:am r.objs k with
 | none=>rw [ho] at h;exact ⟨_,_,rfl,by simpa using h⟩
 | some o =>
  rw [ho] at h
  have hm:=(au ho).1
  obtain ⟨h1,h2,h3,h4,h5,h6⟩:=hR.in_ hm
  refine ⟨_,_,rfl,?_⟩
  simp only [af,cond_true,cond_false,Option.isNone_some,Option.isNone_none,aH,aC,aR,aL,aF,aN,aM,aB,aO,aP,aG,aQ,and_assoc,true_and,and_true,al,Nat.zero_add,Nat.mul_one,aq,ao,aA,Bool.not_true,Bool.not_false,aX,aY,ne_eq,not_true_eq_false,if_false,hR.c0,hR.word (i:=o.place) (by omega) (by omega),hR.sim.cls o hm]
  exact ⟨by omega,by omega,h⟩
theorem CE (hR:PHs H hb wb tb bb W T B low r){k:Int} (h:Q (mY (r.size k)) H):ac PP AY #[.pointer (some ⟨hb,0,none⟩),.int .i64 k] Q H:=by
 apply CD
 unfold LH iV pV cS
 refine nF hR ?_
 unfold np
 unfold RH.size at h
 cases ho:am r.objs k with
 | none=>rw [ho] at h;exact ⟨_,_,rfl,by simpa using h⟩
 | some o =>
  rw [ho] at h
  have hm:=(au ho).1
  refine ⟨_,_,rfl,?_⟩
  simp only [af,cond_true,cond_false,Option.isNone_some,Option.isNone_none,aH,aC,aR,aL,aF,aN,aM,aB,aO,aP,aG,aQ,and_assoc,true_and,and_true,al,Nat.zero_add,Nat.mul_one,aq,ao,aA,Bool.not_true,Bool.not_false,aX,aY,ne_eq,not_true_eq_false,if_false]
  exact sN hR hm ⟨_,_,rfl,h⟩
theorem Be {w f:Int} (hk:cq H) (h:Q (.bool (decide (eO f w))) H):ac PP CT #[.int .i64 w,.int .i64 f] Q H:=by
 apply zx
 unfold GL iV cS
 have fin:∀ b:Bool,b=decide (eO f w)->Q (.bool b) H:=fun b hb=>hb ▸ h
 simp only [af,cond_true,cond_false,Option.isNone_some,Option.isNone_none,aH,aC,aR,aL,aF,aN,aM,aB,aO,aP,aG,aQ,and_assoc,true_and,and_true,al,Nat.zero_add,Nat.mul_one,aq,ao,aA,Bool.not_true,Bool.not_false,aX,aY]
 split
 ·rename_i hf
  split
  ·exact fin _ (by simp [eO,hf];omega)
  ·exact fin _ (by simp [eO,hf];omega)
 ·rename_i hf
  exact pr hk ⟨_,rfl,fin _ (by simp [eO,hf])⟩
theorem vV (hR:PHs H hb wb tb bb W T B low r) (h:Q (.int .i64 r.mark) H):ac PP Bf #[.pointer (some ⟨hb,0,none⟩)] Q H:=by
 apply Es
 unfold Ma iV
 simp only [af,cond_true,cond_false,Option.isNone_some,Option.isNone_none,aH,aC,aR,aL,aF,aN,aM,aB,aO,aP,aG,aQ,and_assoc,true_and,and_true,al,Nat.zero_add,Nat.mul_one,aq,ao,aA,Bool.not_true,Bool.not_false,aX,aY,hR.c6]
 exact h
end
section
variable {H:ae}{hb wb tb bb:Nat}{W T B:Int->Int}{low:Int}{r:RH}{Q:QT}
theorem DP {F:az} (hR:bW H hb F r){k:Int} (h:∀ H',bW H' hb F (r.marks k).2->Fr F H H'->Q (.int .i64 (r.marks k).1) H'):ac PP HV #[.pointer (some ⟨hb,0,none⟩),.int .i64 k] Q H:=by
 have hR0:=hR
 obtain ⟨wb,tb,bb,W,T,B,low,rfl,hR⟩:=hR
 apply DU
 unfold L4 iV pV cS
 refine lg hR ⟨_,rfl,?_⟩
 simp only [cond_false]
 refine lk ⟨_,rfl,?_⟩
 have hd:=hR.d
 simp only [List.nodup_cons,List.mem_cons,List.not_mem_nil,or_false,not_or] at hd
 unfold RH.marks at h
 by_cases hk:0<=k∧k<=1073741824
 ·simp only [hk,and_self,if_true] at h
  simp only [af,cond_true,cond_false,Option.isNone_some,Option.isNone_none,aH,aC,aR,aL,aF,aN,aM,aB,aO,aP,aG,aQ,and_assoc,true_and,and_true,al,Nat.zero_add,Nat.mul_one,aq,ao,aA,Bool.not_true,Bool.not_false,aX,aY,hk]
  refine ⟨hR.hd.wr (by simp),h _ ⟨wb,tb,bb,W,T,B,low,rfl,?_⟩ (Fr.set (by simp))⟩
  exact { hd:=hR.hd.set 6 (.int .i64 k),mw:=hR.mw.set_ne (by simp;omega) _,mt:=hR.mt.set_ne (by simp;omega) _,mb:=hR.mb.set_ne (by simp;omega) _,d:=hR.d,kinds:=hR.kinds.fr (Fr.set (F:=[hb]) (by simp)) (by simp;omega),wf:={ hR.wf with m0:=hk.1,m1:=hk.2 },sim:={ hR.sim with } }
 ·simp only [hk,if_false] at h
  simp only [af,cond_true,cond_false,Option.isNone_some,Option.isNone_none,aH,aC,aR,aL,aF,aN,aM,aB,aO,aP,aG,aQ,and_assoc,true_and,and_true,al,Nat.zero_add,Nat.mul_one,aq,ao,aA,Bool.not_true,Bool.not_false,aX,aY,hk]
  exact h H hR0 (Fr.refl _ _)
theorem Dq (hw:WFH r) (hs:SimH W T B low r){o:RO}{k i w:Int} (ho:am r.objs k=some o) (h0:0<=i) (h1:i<o.slots.length) (hf:o.fmt=0) :
  SimH (upd W (o.place+2+i) w) T B low { r with objs:=fg r.objs k (cM i w) }:=by
 have hom:=au ho
 have hlen:o.len=2+(o.slots.length:Int):=by unfold RO.len lenOf;rw [if_neg (by omega)]
 have key:∀ o'∈fg r.objs k (cM i w),∃ a∈r.objs,(a.oop=k∧a=o∧o'=cM i w o)∨(a.oop≠k∧o'=a∧(a.place+a.len<=o.place∨o.place+o.len<=a.place)):=by
  intro o' ho'
  simp only [fg,List.mem_map] at ho'
  obtain ⟨a,ha,rfl⟩:=ho'
  refine ⟨a,ha,?_⟩
  split
  ·rename_i hk
   have:a=o:=by have:=ch hw.objs ha;rw [hk,ho] at this;exact (Option.some.inj this).symm
   exact .inl ⟨hk,this,by rw [this]⟩
  ·rename_i hk
   exact .inr ⟨hk,rfl,apart hw.objs ha hom.1 (by rw [hom.2];exact hk)⟩
 refine { tab:=fun j g0 g1=>?_,bor:=fun o' ho'=>?_,cls:=fun o' ho'=>?_,shp:=fun o' ho'=>?_,wrd:=fun o' ho' hf' j hj=>?_,byt:=fun o' ho' hf' j hj=>?_,byr:=fun o' ho' hf' j hj1 hj2=>?_,low1:=hs.low1,low2:=hs.low2,low3:=fun j g0 g1=>?_ }
 ·rw [hs.tab j g0 g1]
  have e:=bZ (l:=r.objs) (k:=k) (j:=j) (f:=cM i w) fun _=>rfl
  simp only [e]
  cases am r.objs j with
  | none=>rfl
  | some a=>simp only [Option.map_some];split <;> rfl
 ·obtain ⟨a,ha,⟨hk,rfl,rfl⟩ | ⟨hk,rfl,hd⟩⟩:=key o' ho'
  ·exact hs.bor a ha
  ·exact hs.bor _ ha
 ·obtain ⟨a,ha,⟨hk,rfl,rfl⟩ | ⟨hk,rfl,hd⟩⟩:=key o' ho'
  ·show upd W _ w a.place=a.cls
   rw [upd,if_neg (by omega)];exact hs.cls _ ha
  ·have:=o'.len_pos
   rw [upd,if_neg (by omega)];exact hs.cls _ ha
 ·obtain ⟨a,ha,⟨hk,rfl,rfl⟩ | ⟨hk,rfl,hd⟩⟩:=key o' ho'
  ·show upd W _ w (a.place+1)=2*(((a.slots.set i.toNat w).length:Nat):Int)+a.fmt
   rw [upd,if_neg (by omega),List.length_set];exact hs.shp _ ha
  ·have:=o'.len_pos
   rw [upd,if_neg (by omega)];exact hs.shp _ ha
 ·obtain ⟨a,ha,⟨hk,rfl,rfl⟩ | ⟨hk,rfl,hd⟩⟩:=key o' ho'
  ·have hj':j<a.slots.length:=by simpa [cM] using hj
   show upd W _ w (a.place+2+j)=(a.slots.set i.toNat w).getD j 0
   unfold upd
   split
   ·rename_i he
    have:i.toNat=j:=by omega
    simp [this,hj']
   ·rename_i he
    have hne:i.toNat≠j:=by omega
    rw [hs.wrd _ ha hf j hj']
    simp [List.getElem?_set,hne]
  ·have hl:o'.len=2+(o'.slots.length:Int):=by unfold RO.len lenOf;rw [if_neg (by omega)]
   rw [upd,if_neg (by omega)];exact hs.wrd _ ha hf' j hj
 ·obtain ⟨a,ha,⟨hk,rfl,rfl⟩ | ⟨hk,rfl,hd⟩⟩:=key o' ho'
  ·have:a.fmt=1:=hf'
   omega
  ·have hl:o'.len=2+((o'.slots.length:Int)+3) / 4:=by unfold RO.len lenOf;rw [if_pos hf']
   rw [upd,if_neg (by omega)];exact hs.byt _ ha hf' j hj
 ·obtain ⟨a,ha,⟨hk,rfl,rfl⟩ | ⟨hk,rfl,hd⟩⟩:=key o' ho'
  ·have:a.fmt=1:=hf'
   omega
  ·rw [upd,if_neg (by omega)];exact hs.byr _ ha hf' j hj1 hj2
 ·have:=hs.low3 j g0 g1
  have e:=bZ (l:=r.objs) (k:=k) (j:=j) (f:=cM i w) fun _=>rfl
  simp only [e]
  cases hj:am r.objs j with
  | none=>exact absurd hj this
  | some a=>simp
theorem lR {F:az} (hR:bW H hb F r){k i w:Int} (hf:∀ o,am r.objs k=some o->o.fmt=0) (h:∀ H',bW H' hb F (r.put k i w).2->Fr F H H'->Q (.int .i64 (r.put k i w).1) H'):ac PP rf #[.pointer (some ⟨hb,0,none⟩),.int .i64 k,.int .i64 i,.int .i64 w] Q H:=by
 have hR0:=hR
 obtain ⟨wb,tb,bb,W,T,B,low,rfl,hR⟩:=hR
 apply sF
 unfold Cb iV pV lV cS
 refine qM hR ?_
 unfold qk
 have hwf:=jW hR.wf k i w
 unfold RH.put at h hwf
 cases ho:am r.objs k with
 | none=>rw [ho] at h;exact ⟨_,_,_,_,rfl,by simpa using h H hR0 (Fr.refl _ _)⟩
 | some o =>
  rw [ho] at h hwf
  have hm:=(au ho).1
  obtain ⟨h1,h2,h3,h4,h5,h6⟩:=hR.in_ hm
  simp only at h hwf ⊢
  split
  ·rename_i hi
   simp only [if_pos hi] at h
   exact ⟨_,_,_,_,rfl,by simpa using h H hR0 (Fr.refl _ _)⟩
  ·rename_i hi
   simp only [if_neg hi] at h hwf
   have hs:=nV hR hm (i:=i) (by omega) (by omega)
   have hf0:=hf o ho
   rw [if_neg (by omega)]
   have hs:=hs.2 (by omega)
   refine ⟨_,_,_,_,rfl,?_⟩
   simp only [af,cond_true,cond_false,Option.isNone_some,Option.isNone_none,aH,aC,aR,aL,aF,aN,aM,aB,aO,aP,aG,aQ,and_assoc,true_and,and_true,al,Nat.zero_add,Nat.mul_one,aq,ao,aA,Bool.not_true,Bool.not_false,aX,aY,ne_eq,not_true_eq_false,if_false]
   refine Be hR.kinds ⟨_,rfl,?_⟩
   by_cases hmay:eO o.fmt w
   ·simp only [hmay,not_true_eq_false,if_false] at h hwf
    have hmay':eO 0 w:=hf0 ▸ hmay
    simp only [af,cond_true,cond_false,Option.isNone_some,Option.isNone_none,aH,aC,aR,aL,aF,aN,aM,aB,aO,aP,aG,aQ,and_assoc,true_and,and_true,al,Nat.zero_add,Nat.mul_one,aq,ao,aA,Bool.not_true,Bool.not_false,aX,aY,hf0,hmay',decide_true,hR.c0]
    rw [if_neg (by decide)]
    refine ⟨by omega,by omega,hR.mw.wr (by omega) (by omega),h _ ⟨wb,tb,bb,upd W (o.place+2+i) w,T,B,low,rfl,?_⟩ (Fr.set (by simp))⟩
    have hd:=hR.d
    simp only [List.nodup_cons,List.mem_cons,List.not_mem_nil,or_false,not_or] at hd
    refine { hd:=?_,mw:=hR.mw.set (by omega) w,mt:=hR.mt.set_ne (by simp;omega) _,mb:=hR.mb.set_ne (by simp;omega) _,d:=hR.d,kinds:=hR.kinds.fr (Fr.set (F:=[wb]) (by simp)) (by simp;omega),wf:=hwf,sim:=Dq hR.wf hR.sim ho (by omega) (by omega) hf0 }
    have:=hR.hd.set_ne (a:=⟨wb,(o.place+2+i).toNat,none⟩) (by simp;omega) (.int .i64 w)
    simp only [oX,jT (k:=k) (f:=cM i w) (l:=r.objs) (fun _=>rfl) (fJ i w)]
    exact this
   ·simp only [hmay,not_false_eq_true,if_true] at h
    simp only [af,cond_true,cond_false,Option.isNone_some,Option.isNone_none,aH,aC,aR,aL,aF,aN,aM,aB,aO,aP,aG,aQ,and_assoc,true_and,and_true,al,Nat.zero_add,Nat.mul_one,aq,ao,aA,Bool.not_true,Bool.not_false,aX,aY,hmay,decide_false]
    exact h H hR0 (Fr.refl _ _)
end
structure PV where
 W:Int->Int
 T:Int->Int
 B:Int->Int
 count:Int
 en:Int
 low:Int
 mark:Int
 ever:Int
 turn:Int
structure Raw (H:ae) (hb wb tb bb nw nt:Nat) (p:PV):Prop where
 hd:aV H hb #[.slice (some ⟨wb,0,none⟩) nw nw,.slice (some ⟨tb,0,none⟩) nt nt,.slice (some ⟨bb,0,none⟩) nt nt,.int .i64 p.count,.int .i64 p.en,.int .i64 p.low,.int .i64 p.mark,.int .i64 p.ever,.int .i64 p.turn]
 mw:cT H wb nw p.W
 mt:cT H tb nt p.T
 mb:cT H bb nt p.B
 d:[hb,wb,tb,bb,ax].Nodup
section
variable {H:ae}{hb wb tb bb nw nt:Nat}{p:PV}{W T B:Int->Int}{low:Int}{r:RH}{Q:QT}
theorem PHs.raw (h:PHs H hb wb tb bb W T B low r):Raw H hb wb tb bb r.words.toNat (r.oops+1).toNat ⟨W,T,B,r.objs.length,aU r.objs,low,r.mark,r.born,r.turn⟩:=⟨h.hd,h.mw,h.mt,h.mb,h.d⟩
theorem Raw.phs (h:Raw H hb wb tb bb nw nt p) (hk:cq H) (hw:WFH r) (hs:SimH p.W p.T p.B p.low r) (e1:nw=r.words.toNat) (e2:nt=(r.oops+1).toNat) (e3:p.count=r.objs.length) (e4:p.en=aU r.objs) (e5:p.mark=r.mark) (e6:p.ever=r.born) (e7:p.turn=r.turn):PHs H hb wb tb bb p.W p.T p.B p.low r:=by
 subst e1;subst e2
 have h1:=h.hd
 rw [e3,e4,e5,e6,e7] at h1
 exact ⟨h1,h.mw,h.mt,h.mb,h.d,hk,hw,hs⟩
theorem Raw.c0 (h:Raw H hb wb tb bb nw nt p):aa H ⟨hb,0,none⟩=some (.slice (some ⟨wb,0,none⟩) nw nw):=h.hd.cell 0
theorem Raw.c1 (h:Raw H hb wb tb bb nw nt p):aa H ⟨hb,1,none⟩=some (.slice (some ⟨tb,0,none⟩) nt nt):=h.hd.cell 1
theorem Raw.c2 (h:Raw H hb wb tb bb nw nt p):aa H ⟨hb,2,none⟩=some (.slice (some ⟨bb,0,none⟩) nt nt):=h.hd.cell 2
theorem Raw.c3 (h:Raw H hb wb tb bb nw nt p):aa H ⟨hb,3,none⟩=some (.int .i64 p.count):=h.hd.cell 3
theorem Raw.c4 (h:Raw H hb wb tb bb nw nt p):aa H ⟨hb,4,none⟩=some (.int .i64 p.en):=h.hd.cell 4
theorem Raw.c5 (h:Raw H hb wb tb bb nw nt p):aa H ⟨hb,5,none⟩=some (.int .i64 p.low):=h.hd.cell 5
theorem Raw.c6 (h:Raw H hb wb tb bb nw nt p):aa H ⟨hb,6,none⟩=some (.int .i64 p.mark):=h.hd.cell 6
theorem Raw.c7 (h:Raw H hb wb tb bb nw nt p):aa H ⟨hb,7,none⟩=some (.int .i64 p.ever):=h.hd.cell 7
theorem Raw.c8 (h:Raw H hb wb tb bb nw nt p):aa H ⟨hb,8,none⟩=some (.int .i64 p.turn):=h.hd.cell 8
theorem Raw.word (h:Raw H hb wb tb bb nw nt p){i:Int} (h0:0<=i) (h1:i<nw):aa H ⟨wb,i.toNat,none⟩=some (.int .i64 (p.W i)):=h.mw.cell h0 h1
theorem Raw.tabc (h:Raw H hb wb tb bb nw nt p){i:Int} (h0:0<=i) (h1:i<nt):aa H ⟨tb,i.toNat,none⟩=some (.int .i64 (p.T i)):=h.mt.cell h0 h1
theorem Raw.ne (h:Raw H hb wb tb bb nw nt p):(hb≠wb∧hb≠tb∧hb≠bb∧hb≠ax)∧(wb≠tb∧wb≠bb∧wb≠ax)∧(tb≠bb∧tb≠ax)∧bb≠ax:=by
 have hd:=h.d
 simpa only [List.nodup_cons,List.mem_cons,List.not_mem_nil,or_false,not_or,not_false_eq_true,List.nodup_nil,and_true] using hd
theorem Raw.setW (h:Raw H hb wb tb bb nw nt p){i:Int} (h0:0<=i) (v:Int):Raw (av H ⟨wb,i.toNat,none⟩ (.int .i64 v)) hb wb tb bb nw nt { p with W:=upd p.W i v }:=by
 obtain ⟨⟨n1,n2,n3,n4⟩,⟨n5,n6,n7⟩,⟨n8,n9⟩,n10⟩:=h.ne
 exact ⟨h.hd.set_ne n1 _,h.mw.set h0 v,h.mt.set_ne n5.symm _,h.mb.set_ne n6.symm _,h.d⟩
theorem Raw.setT (h:Raw H hb wb tb bb nw nt p){i:Int} (h0:0<=i) (v:Int):Raw (av H ⟨tb,i.toNat,none⟩ (.int .i64 v)) hb wb tb bb nw nt { p with T:=upd p.T i v }:=by
 obtain ⟨⟨n1,n2,n3,n4⟩,⟨n5,n6,n7⟩,⟨n8,n9⟩,n10⟩:=h.ne
 exact ⟨h.hd.set_ne n2 _,h.mw.set_ne n5 _,h.mt.set h0 v,h.mb.set_ne n8.symm _,h.d⟩
theorem Raw.setB (h:Raw H hb wb tb bb nw nt p){i:Int} (h0:0<=i) (v:Int):Raw (av H ⟨bb,i.toNat,none⟩ (.int .i64 v)) hb wb tb bb nw nt { p with B:=upd p.B i v }:=by
 obtain ⟨⟨n1,n2,n3,n4⟩,⟨n5,n6,n7⟩,⟨n8,n9⟩,n10⟩:=h.ne
 exact ⟨h.hd.set_ne n3 _,h.mw.set_ne n6 _,h.mt.set_ne n8 _,h.mb.set h0 v,h.d⟩
theorem Raw.set3 (h:Raw H hb wb tb bb nw nt p) (v:Int):Raw (av H ⟨hb,3,none⟩ (.int .i64 v)) hb wb tb bb nw nt { p with count:=v }:=by
 obtain ⟨⟨n1,n2,n3,n4⟩,_⟩:=h.ne
 exact ⟨h.hd.set 3 (.int .i64 v),h.mw.set_ne n1.symm _,h.mt.set_ne n2.symm _,h.mb.set_ne n3.symm _,h.d⟩
theorem Raw.set4 (h:Raw H hb wb tb bb nw nt p) (v:Int):Raw (av H ⟨hb,4,none⟩ (.int .i64 v)) hb wb tb bb nw nt { p with en:=v }:=by
 obtain ⟨⟨n1,n2,n3,n4⟩,_⟩:=h.ne
 exact ⟨h.hd.set 4 (.int .i64 v),h.mw.set_ne n1.symm _,h.mt.set_ne n2.symm _,h.mb.set_ne n3.symm _,h.d⟩
theorem Raw.set5 (h:Raw H hb wb tb bb nw nt p) (v:Int):Raw (av H ⟨hb,5,none⟩ (.int .i64 v)) hb wb tb bb nw nt { p with low:=v }:=by
 obtain ⟨⟨n1,n2,n3,n4⟩,_⟩:=h.ne
 exact ⟨h.hd.set 5 (.int .i64 v),h.mw.set_ne n1.symm _,h.mt.set_ne n2.symm _,h.mb.set_ne n3.symm _,h.d⟩
theorem Raw.set6 (h:Raw H hb wb tb bb nw nt p) (v:Int):Raw (av H ⟨hb,6,none⟩ (.int .i64 v)) hb wb tb bb nw nt { p with mark:=v }:=by
 obtain ⟨⟨n1,n2,n3,n4⟩,_⟩:=h.ne
 exact ⟨h.hd.set 6 (.int .i64 v),h.mw.set_ne n1.symm _,h.mt.set_ne n2.symm _,h.mb.set_ne n3.symm _,h.d⟩
theorem Raw.set7 (h:Raw H hb wb tb bb nw nt p) (v:Int):Raw (av H ⟨hb,7,none⟩ (.int .i64 v)) hb wb tb bb nw nt { p with ever:=v }:=by
 obtain ⟨⟨n1,n2,n3,n4⟩,_⟩:=h.ne
 exact ⟨h.hd.set 7 (.int .i64 v),h.mw.set_ne n1.symm _,h.mt.set_ne n2.symm _,h.mb.set_ne n3.symm _,h.d⟩
theorem Raw.set8 (h:Raw H hb wb tb bb nw nt p) (v:Int):Raw (av H ⟨hb,8,none⟩ (.int .i64 v)) hb wb tb bb nw nt { p with turn:=v }:=by
 obtain ⟨⟨n1,n2,n3,n4⟩,_⟩:=h.ne
 exact ⟨h.hd.set 8 (.int .i64 v),h.mw.set_ne n1.symm _,h.mt.set_ne n2.symm _,h.mb.set_ne n3.symm _,h.d⟩
theorem Raw.wrh (h:Raw H hb wb tb bb nw nt p){i:Nat} (hi:i<9):Wr H ⟨hb,i,none⟩:=h.hd.wr hi
theorem Raw.keep (h:Raw H hb wb tb bb nw nt p){F:az}{H':ae} (hf:Fr F H H') (hd:cA [hb,wb,tb,bb] F):Raw H' hb wb tb bb nw nt p :=
 ⟨h.hd.fr hf (hd _ (by simp)),h.mw.fr hf (hd _ (by simp)),h.mt.fr hf (hd _ (by simp)),h.mb.fr hf (hd _ (by simp)),h.d⟩
def FU (p:PV) (oop cls n f:Int):PV:={ p with W:=upd (upd p.W p.en cls) (p.en+1) (2*n+f),T:=upd p.T oop p.en,B:=upd p.B oop p.ever,en:=p.en+lenOf n f,ever:=IntKind.wrap .i64 (p.ever+1),count:=p.count+1 }
theorem Fp (hR:Raw H hb wb tb bb nw nt p){oop cls n f:Int} (h0:0<=p.en) (h1:p.en+2<=nw) (h1':nw<=1048576) (h2:0<=oop) (h3:oop<nt) (h4:0<=n) (h5:n<=8192) (h6:f=0∨f=1) (h7:0<=p.count) (h8:p.count<=100000)
  (h:∀ H',Raw H' hb wb tb bb nw nt (FU p oop cls n f)->Fr [hb,wb,tb,bb] H H'->Q (.int .i64 p.en) H'):ac PP xf #[.pointer (some ⟨hb,0,none⟩),.int .i64 oop,.int .i64 cls,.int .i64 n,.int .i64 f] Q H:=by
 apply xI
 unfold Gd iV wW lV cS;dsimp only [shH]
 have e1:eA .i64 n 1=2*n:=by
  have:=jl n 1 (by decide) ⟨by simp;omega,by simp;omega⟩
  simpa [Int.mul_comm] using this
 have e2:sy .i64 (2*n) f=2*n+f:=by
  have:=lN (2*n) 1 f.toNat (by decide) (by omega) ⟨by omega,by omega⟩ (by simp)
  rw [Int.toNat_of_nonneg (by omega)] at this
  exact this
 have e3:IntKind.wrap .i64 (p.en+1)=p.en+1:=ah (by omega) (by omega)
 have r1:=hR.setW (i:=p.en) h0 cls
 have r2:=r1.setW (i:=p.en+1) (by omega) (2*n+f)
 have r3:=r2.setT (i:=oop) h2 p.en
 have r4:=r3.setB (i:=oop) h2 p.ever
 have hl:=lW (n:=n) (fmt:=f) h4
 have hl2:=io (n:=n) (fmt:=f) h4
 have e4:IntKind.wrap .i64 (p.en+lenOf n f)=p.en+lenOf n f:=ah (by omega) (by omega)
 have e5:IntKind.wrap .i64 (p.count+1)=p.count+1:=ah (by omega) (by omega)
 have r5:=r4.set4 (p.en+lenOf n f)
 have r6:=r5.set7 (IntKind.wrap .i64 (p.ever+1))
 have r7:=r6.set3 (p.count+1)
 simp only [af,cond_true,cond_false,Option.isNone_some,Option.isNone_none,aH,aC,aR,aL,aF,aN,aM,aB,aO,aP,aG,aQ,and_assoc,true_and,and_true,al,Nat.zero_add,Nat.mul_one,aq,ao,aA,Bool.not_true,Bool.not_false,aX,aY,e1,e2,e3,hR.c4,hR.c0,r2.c1,r2.c2,r2.c7,r4.c4]
 refine ⟨by omega,by omega,hR.mw.wr h0 (by omega),by omega,by omega,r1.mw.wr (by omega) (by omega),by omega,by omega,r2.mt.wr h2 h3,h2,h3,r3.mb.wr h2 h3,?_⟩
 refine jp h4 (by omega) ?_
 simp only [af,cond_true,cond_false,Option.isNone_some,Option.isNone_none,aH,aC,aR,aL,aF,aN,aM,aB,aO,aP,aG,aQ,and_assoc,true_and,and_true,al,Nat.zero_add,Nat.mul_one,aq,ao,aA,Bool.not_true,Bool.not_false,aX,aY,r4.c4,e4,r5.c7,r6.c3,e5]
 refine ⟨r4.wrh (by decide),r5.wrh (by decide),r6.wrh (by decide),h _ r7 ?_⟩
 ·exact ((((((((Fr.refl _ _).step (by simp)).step (by simp)).step (by simp)).step (by simp)).step (by simp)).step (by simp)).step (by simp))
end
section
variable {H:ae}{hb wb tb bb:Nat}{W T B:Int->Int}{low:Int}{r:RH}{Q:QT}
theorem Cm (hw:WFH r) (hs:SimH W T B low r){cls n f m' ev':Int}{W':Int->Int} (hn:0<=n) (hf:f=0∨f=1) (hlt:(r.objs.length:Int)<r.oops)
  (h0:∀ i,i<aU r.objs->W' i=W i) (h1:W' (aU r.objs)=cls) (h2:W' (aU r.objs+1)=2*n+f) (h3:∀ i,aU r.objs+2<=i->i<aU r.objs+lenOf n f->W' i=if f=1 then 0 else 4) :
  SimH W' (upd T (bz r.objs) (aU r.objs)) (upd B (bz r.objs) r.born) (bz r.objs+1) { r with mark:=m',born:=ev',objs:=r.objs++[cl r cls n f] }:=by
 have hl:=dE hw.objs hw.o1 hlt
 have hend:=dv hw.objs hw.w0
 have key:∀ o∈r.objs++[cl r cls n f],(o∈r.objs∧o.place+o.len<=aU r.objs∧o.oop≠bz r.objs)∨o=cl r cls n f:=by
  intro o ho
  rcases List.mem_append.1 ho with ho | ho
  ·exact .inl ⟨ho,jz hw.objs ho,cV.1 hl.2.2.1 o ho⟩
  ·exact .inr (by simpa using ho)
 have hnl:((cl r cls n f).slots.length:Int)=n:=by simp only [cl,List.length_replicate];omega
 have hnn:(cl r cls n f).len=lenOf n f:=by simp only [RO.len,hnl];rfl
 have hget:∀ i:Nat,i<(cl r cls n f).slots.length->(cl r cls n f).slots.getD i 0=if f=1 then 0 else 4:=by
  intro i hi
  simp only [cl,List.length_replicate] at hi
  simp [cl,hi]
 refine { tab:=fun j g0 g1=>?_,bor:=fun o ho=>?_,cls:=fun o ho=>?_,shp:=fun o ho=>?_,wrd:=fun o ho hf' j hj=>?_,byt:=fun o ho hf' j hj=>?_,byr:=fun o ho hf' j hj1 hj2=>?_,low1:=by omega,low2:=by show bz r.objs+1<=r.oops+1;omega,low3:=fun j g0 g1=>?_ }
 ·have e:=dd (l:=r.objs) (x:=cl r cls n f) (k:=j)
  simp only [e]
  unfold upd
  by_cases hj:j=bz r.objs
  ·subst hj
   rw [if_pos rfl,hl.2.2.1]
   simp [cl]
  ·rw [if_neg hj,hs.tab j g0 g1]
   cases am r.objs j with
   | some o=>rfl
   | none =>
    simp only
    rw [if_neg]
    exact fun e=>hj e.symm
 ·rcases key o ho with ⟨h4,h5,h6⟩ | rfl
  ·rw [upd,if_neg h6];exact hs.bor o h4
  ·simp [cl,upd]
 ·rcases key o ho with ⟨h4,h5,h6⟩ | rfl
  ·have:=o.len_pos
   rw [h0 _ (by omega)];exact hs.cls o h4
  ·exact h1
 ·rcases key o ho with ⟨h4,h5,h6⟩ | rfl
  ·have:=o.len_pos
   rw [h0 _ (by omega)];exact hs.shp o h4
  ·rw [hnl];exact h2
 ·rcases key o ho with ⟨h4,h5,h6⟩ | rfl
  ·have hlo:o.len=2+(o.slots.length:Int):=by unfold RO.len lenOf;rw [if_neg (by omega)]
   rw [h0 _ (by omega)];exact hs.wrd o h4 hf' j hj
  ·rw [hget j hj]
   have hf0:f=0:=hf'
   have hlo:lenOf n f=2+n:=by unfold lenOf;rw [if_neg (by omega)]
   exact h3 _ (by simp only [cl];omega) (by simp only [cl];rw [hlo];omega)
 ·rcases key o ho with ⟨h4,h5,h6⟩ | rfl
  ·have hlo:o.len=2+((o.slots.length:Int)+3) / 4:=by unfold RO.len lenOf;rw [if_pos hf']
   rw [h0 _ (by omega)];exact hs.byt o h4 hf' j hj
  ·rw [hget j hj]
   have hf1:f=1:=hf'
   have hlo:lenOf n f=2+(n+3) / 4:=by unfold lenOf;rw [if_pos hf1]
   rw [h3 _ (by simp only [cl];omega) (by simp only [cl];rw [hlo];omega),if_pos hf1]
   simp
 ·rcases key o ho with ⟨h4,h5,h6⟩ | rfl
  ·rw [h0 _ (by omega)];exact hs.byr o h4 hf' j hj1 hj2
  ·have hf1:f=1:=hf'
   rw [hnn] at hj2
   rw [h3 _ hj1 hj2,if_pos hf1]
   simp
 ·have e:=dd (l:=r.objs) (x:=cl r cls n f) (k:=j)
  simp only [e]
  by_cases hj:j=bz r.objs
  ·subst hj
   rw [hl.2.2.1]
   simp [cl]
  ·have:=hl.2.2.2 j g0 (by omega)
   cases hj:am r.objs j with
   | none=>exact absurd hj this
   | some o=>simp
theorem nL {F:az} (hR:bW H hb F r){cls n f:Int} (h:∀ H',bW H' hb F (r.alloc cls n f).2->Fr F H H'->Q (Fi (r.alloc cls n f).1) H'):ac PP uR #[.pointer (some ⟨hb,0,none⟩),.int .i64 cls,.int .i64 n,.int .i64 f] Q H:=by
 have hR0:=hR
 obtain ⟨wb,tb,bb,W,T,B,low,rfl,hR⟩:=hR
 apply BP
 unfold Md iV wW pV lV cS;dsimp only [shH]
 have hwf:=hR.wf
 have hen:=dv hwf.objs hwf.w0
 have hw1:=hwf.w1
 have ho0:=hwf.o0
 have ho1:=hwf.o1
 have hm0:=hwf.m0
 have hm1:=hwf.m1
 have hne:=hR.raw.ne
 refine ⟨fun w H'=>w=[]∧PHs H' hb wb tb bb W T B low { r with mark:=if 0<r.mark then r.mark-1 else r.mark }∧Fr [hb,wb,tb,bb] H H'∧cR cls∧(f=0∨f=1)∧0<=n∧n<=8192∧(r.objs.length:Int)<r.oops∧aU r.objs+lenOf n f<=r.words∧r.mark≠1,?_,?_⟩
 ·refine lg hR ⟨_,rfl,?_⟩
  simp only [cond_false]
  refine pr hR.kinds ⟨_,rfl,?_⟩
  unfold RH.alloc at h
  by_cases hcl:cR cls
  ·by_cases hf:f=0∨f=1
   ·simp only [af,cond_true,cond_false,Option.isNone_some,Option.isNone_none,aH,aC,aR,aL,aF,aN,aM,aB,aO,aP,aG,aQ,and_assoc,true_and,and_true,al,Nat.zero_add,Nat.mul_one,aq,ao,aA,Bool.not_true,Bool.not_false,aX,aY,hcl,decide_true]
    have hX:∀ {X Y:Prop},X->(if f≠0 then if f≠1 then Y else X else X):=fun {X Y} hx=>by
     split
     ·rw [if_neg (by omega)];exact hx
     ·exact hx
    refine hX ?_
    split
    ·rename_i hn
     simp only [hcl,not_true_eq_false,false_or,hn,or_true,if_true] at h
     exact h H hR0 (Fr.refl _ _)
    ·rename_i hn
     have n1:¬ (¬ cR cls∨f<0∨1<f∨n<0):=fun hh=>hh.elim (fun hh=>hh hcl) (by omega)
     rw [if_neg n1] at h
     split
     ·rename_i hn2
      rw [if_pos (by omega)] at h
      exact h H hR0 (Fr.refl _ _)
     ·rename_i hn2
      rw [if_neg (by omega)] at h
      have hl:=lW (n:=n) (fmt:=f) (by omega)
      have hl2:=io (n:=n) (fmt:=f) (by omega)
      simp only [af,cond_true,cond_false,Option.isNone_some,Option.isNone_none,aH,aC,aR,aL,aF,aN,aM,aB,aO,aP,aG,aQ,and_assoc,true_and,and_true,al,Nat.zero_add,Nat.mul_one,aq,ao,aA,Bool.not_true,Bool.not_false,aX,aY,hR.c3,hR.c1,hR.c0,hR.c4]
      rw [ah (n:=((r.oops+1).toNat:Int)-1) (by omega) (by omega)]
      split
      ·rename_i hc
       rw [if_pos (.inl (by omega))] at h
       exact h H hR0 (Fr.refl _ _)
      ·rename_i hc
       refine jp (by omega) (by omega) ⟨_,rfl,hR.c4,hR.c0,?_⟩
       rw [ah (n:=(r.words.toNat:Int)-aU r.objs) (by omega) (by omega)]
       simp only [af,cond_true,cond_false,Option.isNone_some,Option.isNone_none,aH,aC,aR,aL,aF,aN,aM,aB,aO,aP,aG,aQ,and_assoc,true_and,and_true,al,Nat.zero_add,Nat.mul_one,aq,ao,aA,Bool.not_true,Bool.not_false,aX,aY,hR.c6]
       split
       ·rename_i hl3
        rw [if_pos (.inr (by omega))] at h
        exact h H hR0 (Fr.refl _ _)
       ·rename_i hl3
        rw [if_neg (by omega)] at h
        split
        ·rename_i hm
         rw [if_pos hm] at h
         have r1:=hR.raw.set6 0
         exact ⟨hR.raw.wrh (by decide),h _ ⟨wb,tb,bb,W,T,B,low,rfl,r1.phs (hR.kinds.fr (Fr.set (F:=[hb]) (by simp)) (by simp;omega)) { hwf with m0:=by simp,m1:=by simp } { hR.sim with } rfl rfl rfl rfl rfl rfl rfl⟩ (Fr.set (by simp))⟩
        ·rename_i hm
         split
         ·rename_i hm2
          have r1:=hR.raw.set6 (r.mark-1)
          rw [ah (n:=r.mark-1) (by omega) (by omega)]
          refine ⟨hR.raw.wrh (by decide),?_,Fr.set (by simp),hf,by omega,by omega,by omega,by omega,hm⟩
          exact r1.phs (hR.kinds.fr (Fr.set (F:=[hb]) (by simp)) (by simp;omega)) { hwf with m0:=by simp;omega,m1:=by simp;omega } { hR.sim with } rfl rfl rfl rfl rfl rfl rfl
         ·rename_i hm2
          refine ⟨?_,Fr.refl _ _,hf,by omega,by omega,by omega,by omega,hm⟩
          exact hR
   ·simp only [af,cond_true,cond_false,Option.isNone_some,Option.isNone_none,aH,aC,aR,aL,aF,aN,aM,aB,aO,aP,aG,aQ,and_assoc,true_and,and_true,al,Nat.zero_add,Nat.mul_one,aq,ao,aA,Bool.not_true,Bool.not_false,aX,aY,hcl,decide_true]
    rw [if_pos (by omega),if_pos (by omega)]
    rw [if_pos (by omega)] at h
    exact h H hR0 (Fr.refl _ _)
  ·simp only [af,cond_true,cond_false,Option.isNone_some,Option.isNone_none,aH,aC,aR,aL,aF,aN,aM,aB,aO,aP,aG,aQ,and_assoc,true_and,and_true,al,Nat.zero_add,Nat.mul_one,aq,ao,aA,Bool.not_true,Bool.not_false,aX,aY,hcl,decide_false]
   rw [if_pos (.inl hcl)] at h
   exact h H hR0 (Fr.refl _ _)
 ·rintro w H1 ⟨rfl,hR1,hF1,hcl,hf,hn,hn2,hlt,hfit,hm⟩ _
  have hlow:=dE hwf.objs ho1 hlt
  have hlo:=hR.sim.low3
  have hllow:low<=bz r.objs:=by
   refine Classical.byContradiction fun hc=>?_
   exact hlo _ hlow.1 (by omega) hlow.2.2.1
  have hl:=lW (n:=n) (fmt:=f) (by omega)
  have hl2:=io (n:=n) (fmt:=f) (by omega)
  have hl1:=hR.sim.low1
  refine ⟨rfl,?_⟩
  simp only [af,cond_true,cond_false,Option.isNone_some,Option.isNone_none,aH,aC,aR,aL,aF,aN,aM,aB,aO,aP,aG,aQ,and_assoc,true_and,and_true,al,Nat.zero_add,Nat.mul_one,aq,ao,aA,Bool.not_true,Bool.not_false,aX,aY,hR1.c5]
  refine ⟨fun w H'=>H'=H1∧∃ k,w=[.int .i64 k]∧low<=k∧k<=bz r.objs,fun w _=>match w with
   | [.int _ k]=>(bz r.objs-k).toNat
   | _=>0,⟨rfl,low,rfl,Int.le_refl _,hllow⟩,?_⟩
  rintro w H2 ⟨rfl,k,rfl,hk1,hk2⟩ _
  refine ⟨k,rfl,?_⟩
  have htk:=hR.sim.tab k (by omega) (by omega)
  have e1:IntKind.wrap .i64 (k+1)=k+1:=ah (by omega) (by omega)
  simp only [af,cond_true,cond_false,Option.isNone_some,Option.isNone_none,aH,aC,aR,aL,aF,aN,aM,aB,aO,aP,aG,aQ,and_assoc,true_and,and_true,al,Nat.zero_add,Nat.mul_one,aq,ao,aA,Bool.not_true,Bool.not_false,aX,aY,e1,hR1.c1,hR1.tabc (i:=k) (by omega) (by show k<=r.oops;omega)]
  refine ⟨by omega,by show k<((r.oops+1).toNat:Int);omega,?_⟩
  split
  ·rename_i hT
   have hne2:k≠bz r.objs:=by
    rintro rfl
    rw [htk,hlow.2.2.1] at hT
    simp at hT
   exact ⟨⟨k+1,rfl,by omega,by omega⟩,by simp;omega⟩
  ·rename_i hT
   have hkl:k=bz r.objs:=by
    refine Classical.byContradiction fun hc=>?_
    cases ho:am r.objs k with
    | none=>exact hlow.2.2.2 k (by omega) (by omega) ho
    | some o =>
     rw [ho] at htk
     simp only at htk
     have:=(hR.wf.objs.good o (au ho).1).pl
     omega
   have r1:=hR1.raw.set5 (k+1)
   refine ⟨hR1.raw.wrh (by decide),?_⟩
   simp only [r1.c0,r1.c4,af,cond_true,cond_false,Option.isNone_some,Option.isNone_none,aH,aC,aR,aL,aF,aN,aM,aB,aO,aP,aG,aQ,and_assoc,true_and,and_true,al,Nat.zero_add,Nat.mul_one,aq,ao,aA,Bool.not_true,Bool.not_false,aX,aY]
   refine jp (by omega) (by omega) ?_
   simp only [r1.c0,r1.c4,af,cond_true,cond_false,Option.isNone_some,Option.isNone_none,aH,aC,aR,aL,aF,aN,aM,aB,aO,aP,aG,aQ,and_assoc,true_and,and_true,al,Nat.zero_add,Nat.mul_one,aq,ao,aA,Bool.not_true,Bool.not_false,aX,aY]
   have ew1:IntKind.wrap .i64 (aU r.objs+lenOf n f)=aU r.objs+lenOf n f:=ah (by omega) (by omega)
   have ew2:IntKind.wrap .i64 (aU r.objs+2)=aU r.objs+2:=ah (by omega) (by omega)
   simp only [ew1,ew2]
   have last:∀ H' W',Raw H' hb wb tb bb r.words.toNat (r.oops+1).toNat ⟨W',T,B,r.objs.length,aU r.objs,k+1,if 0<r.mark then r.mark-1 else r.mark,r.born,r.turn⟩->Fr [hb,wb,tb,bb] H2 H'->(∀ i,i<aU r.objs->W' i=W i)->(∀ i,aU r.objs+2<=i->i<aU r.objs+lenOf n f->W' i=if f=1 then 0 else 4) ->
     ac PP xf #[.pointer (some ⟨hb,0,none⟩),.int .i64 k,.int .i64 cls,.int .i64 n,.int .i64 f] (fun v H10=>∃ m:Int,v=.int .i64 m∧Q (.tuple #[.int .i64 k,.int .i64 0]) H10) H':=by
    intro H' W' hr hfr hw1' hw2'
    refine Fp hr hen.1 (by show aU r.objs+2<=(r.words.toNat:Int);omega) (by omega) (by omega) (by omega) hn hn2 hf (by show (0:Int)<=(r.objs.length:Int);omega) (by show (r.objs.length:Int)<=100000;omega) fun H3 hr3 hfr3=>⟨_,rfl,?_⟩
    have hal:r.alloc cls n f=((bz r.objs,0),{ r with mark:=if 0<r.mark then r.mark-1 else r.mark,born:=IntKind.wrap .i64 (r.born+1),objs:=r.objs++[cl r cls n f] }):=by
     unfold RH.alloc
     rw [if_neg (fun hh=>hh.elim (fun hh=>hh hcl) (by omega)),if_neg (by omega),if_neg (by omega),if_neg hm]
    have hwf2:=gW hwf cls n f
    rw [hal] at h hwf2
    rw [hkl]
    have hnn:(cl r cls n f).len=lenOf n f:=by simp only [RO.len,cl,List.length_replicate];congr 1;omega
    have hsim:=Cm (T:=T) (B:=B) (low:=low) hwf hR.sim (m':=if 0<r.mark then r.mark-1 else r.mark) (ev':=IntKind.wrap .i64 (r.born+1)) (W':=upd (upd W' (aU r.objs) cls) (aU r.objs+1) (2*n+f)) hn hf hlt
     (cls:=cls) (fun i hi=>by rw [upd,if_neg (by omega),upd,if_neg (by omega)];exact hw1' i hi) (by rw [upd,if_neg (by omega)];simp [upd]) (by simp [upd]) (fun i g1 g2=>by rw [upd,if_neg (by omega),upd,if_neg (by omega)];exact hw2' i g1 g2)
    rw [←hkl] at hsim
    have hkinds:cq H3:=hR1.kinds.fr (F:=[hb,wb,tb,bb]) (hfr.trans hfr3) (by simp only [List.mem_cons,List.not_mem_nil,or_false,not_or];exact ⟨fun e=>hne.1.2.2.2 e.symm,fun e=>hne.2.1.2.2 e.symm,fun e=>hne.2.2.1.2 e.symm,fun e=>hne.2.2.2 e.symm⟩)
    exact h H3 ⟨wb,tb,bb,_,_,_,_,rfl,hr3.phs hkinds hwf2 hsim rfl rfl (by simp [FU]) (by show aU r.objs+lenOf n f=aU (r.objs++[cl r cls n f]);rw [cr,hnn];rfl) rfl rfl rfl⟩ (hF1.trans (hfr.trans hfr3))
   refine ⟨by omega,by omega,by omega,by omega,?_⟩
   have hslen:(aU r.objs+lenOf n f).toNat-(aU r.objs+2).toNat=(lenOf n f-2).toNat:=by omega
   rw [hslen]
   refine jy (bs:=8) (by kernel_rfl) r1.mw (by omega) (by omega) fun H3 hm3 hs3 hk3=>?_
   have hfr3:Fr [hb,wb,tb,bb] H2 H3:=(Fr.set (by simp)).trans ⟨by omega,fun b hb' hb''=>hk3 b (fun e=>hb'' (by simp [e]))⟩
   have hr3:Raw H3 hb wb tb bb r.words.toNat (r.oops+1).toNat ⟨fun i=>if aU r.objs+2<=i∧i<aU r.objs+2+((lenOf n f-2).toNat:Int) then 0 else W i,T,B,r.objs.length,aU r.objs,k+1,if 0<r.mark then r.mark-1 else r.mark,r.born,r.turn⟩ :=
    ⟨r1.hd.of_eq (hk3 _ hne.1.1),hm3,r1.mt.of_eq (hk3 _ hne.2.1.1.symm),r1.mb.of_eq (hk3 _ hne.2.1.2.1.symm),r1.d⟩
   split
   ·rename_i hf0
    have hlo:lenOf n f=2+n:=by unfold lenOf;rw [if_neg (by omega)]
    refine ⟨fun w H'=>∃ i:Int,w=[.int .i64 i]∧0<=i∧i<=n∧Fr [hb,wb,tb,bb] H2 H'∧Raw H' hb wb tb bb r.words.toNat (r.oops+1).toNat ⟨fun j=>if aU r.objs+2<=j∧j<aU r.objs+2+n then if j<aU r.objs+2+i then 4 else 0 else W j,T,B,r.objs.length,aU r.objs,k+1,if 0<r.mark then r.mark-1 else r.mark,r.born,r.turn⟩,
     fun w _=>match w with
      | [.int _ i]=>(n-i).toNat
      | _=>0,⟨0,rfl,by omega,hn,hfr3,?_⟩,?_⟩
    ·refine ⟨hr3.hd,hr3.mw.congr fun j _ _=>?_,hr3.mt,hr3.mb,hr3.d⟩
     show (if aU r.objs+2<=j∧j<aU r.objs+2+((lenOf n f-2).toNat:Int) then (0:Int) else W j)=if aU r.objs+2<=j∧j<aU r.objs+2+n then if j<aU r.objs+2+0 then 4 else 0 else W j
     by_cases hj:aU r.objs+2<=j∧j<aU r.objs+2+n
     ·rw [if_pos (by omega),if_pos hj,if_neg (by omega)]
     ·rw [if_neg (by omega),if_neg hj]
    ·rintro w H4 ⟨i,rfl,hi0,hi1,hfr4,hr4⟩ _
     refine ⟨i,rfl,?_⟩
     split
     ·rename_i hi
      have hi':i<n:=by omega
      rw [kT (by omega)]
      simp only [af,cond_true,cond_false,Option.isNone_some,Option.isNone_none,aH,aC,aR,aL,aF,aN,aM,aB,aO,aP,aG,aQ,and_assoc,true_and,and_true,al,Nat.zero_add,Nat.mul_one,aq,ao,aA,Bool.not_true,Bool.not_false,aX,aY]
      have eo:(aU r.objs+2).toNat+i.toNat=(aU r.objs+2+i).toNat:=by omega
      rw [eo,ah (n:=i+1) (by omega) (by omega)]
      refine ⟨by omega,hi,hr4.mw.wr (by omega) (by omega),⟨i+1,rfl,by omega,by omega,hfr4.step (by simp),?_⟩,by simp;omega⟩
      have hr5:=hr4.setW (i:=aU r.objs+2+i) (by omega) 4
      refine ⟨hr5.hd,hr5.mw.congr fun j _ _=>?_,hr5.mt,hr5.mb,hr5.d⟩
      show upd (fun j=>if aU r.objs+2<=j∧j<aU r.objs+2+n then if j<aU r.objs+2+i then 4 else 0 else W j) (aU r.objs+2+i) 4 j=if aU r.objs+2<=j∧j<aU r.objs+2+n then if j<aU r.objs+2+(i+1) then 4 else 0 else W j
      unfold upd
      by_cases hj:j=aU r.objs+2+i
      ·rw [if_pos hj,if_pos (by omega),if_pos (by omega)]
      ·rw [if_neg hj]
       show (if aU r.objs+2<=j∧j<aU r.objs+2+n then if j<aU r.objs+2+i then 4 else 0 else W j)=_
       by_cases hj2:aU r.objs+2<=j∧j<aU r.objs+2+n
       ·rw [if_pos hj2,if_pos hj2]
        by_cases hj3:j<aU r.objs+2+i
        ·rw [if_pos hj3,if_pos (by omega)]
        ·rw [if_neg hj3,if_neg (by omega)]
       ·rw [if_neg hj2,if_neg hj2]
     ·rename_i hi
      refine last H4 _ hr4 hfr4 (fun j hj=>?_) (fun j hj1 hj2=>?_)
      ·rw [if_neg (by omega)]
      ·rw [if_pos (by omega),if_pos (by omega),if_neg (by omega)]
   ·rename_i hf0
    refine last H3 _ hr3 hfr3 (fun j hj=>?_) (fun j hj1 hj2=>?_)
    ·rw [if_neg (by omega)]
    ·rw [if_pos (by omega),if_pos (by omega)]
end
end Go.Proofs.YtgjfejoohojokaaGreatDoor
namespace Kw
open Go
theorem eN (l m:List RO) (k:Int):am (l++m) k=(am l k).or (am m k):=by
 unfold am;exact List.find?_append
theorem fW (o:RO) (l:List RO) (k:Int):am (o :: l) k=if o.oop=k then some o else am l k:=by
 unfold am
 simp only [List.find?_cons]
 by_cases h:o.oop=k <;> simp [h]
theorem jm {words oops:Int}{l:List RO} (hw:WFO words oops l):2*(l.length:Int)<=aU l:=by
 generalize hn:l.length=n
 induction n generalizing l with
 | zero =>
  have:l=[]:=List.eq_nil_of_length_eq_zero hn
  subst this;simp [aU]
 | succ n ih =>
  rcases List.eq_nil_or_concat l with rfl | ⟨m,x,rfl⟩
  ·cases hn
  ·simp only [List.concat_eq_append] at *
   have hm:m.length=n:=by simpa using hn
   have hwm:WFO words oops m:=⟨fun o ho=>hw.good o (by simp [ho]),(List.pairwise_append.1 hw.pw).1⟩
   have h1:=ih hwm hm
   have hx:=x.len_pos
   have hpl:=(hw.good x (by simp)).pl
   rw [cr]
   have:aU m<=x.place:=by
    rcases List.eq_nil_or_concat m with rfl | ⟨m2,y,rfl⟩
    ·simpa [aU] using hpl
    ·simp only [List.concat_eq_append] at *
     rw [cr]
     exact ((List.pairwise_append.1 hw.pw).2.2 y (by simp) x (by simp)).2
   push_cast
   omega
def bj (a:Int):List RO->Int
 | []=>a
 | o :: l=>bj (a+o.len) l
theorem eY (a:Int) (l:List RO) (o:RO):bj a (l++[o])=bj a l+o.len:=by
 induction l generalizing a with
 | nil=>rfl
 | cons x l ih=>simp [bj,ih]
theorem dB (a:Int) (l:List RO) (o:RO):bo a (l++[o])=bo a l++[{ o with place:=bj a l }]:=by
 induction l generalizing a with
 | nil=>rfl
 | cons x l ih=>simp [bo,ih,bj]
theorem iJ (l:List RO):aU (bo 0 l)=bj 0 l:=by
 rcases List.eq_nil_or_concat l with rfl | ⟨m,x,rfl⟩
 ·rfl
 ·simp only [List.concat_eq_append]
  rw [dB,cr,eY]
  rfl
theorem li {words oops:Int}:∀ (l:List RO) (a:Int),WFO words oops l->(∀ o∈l,a<=o.place)->∀ x∈bo a l,∃ o∈l,x={ o with place:=x.place }∧x.place<=o.place
 | [],_,_,_,x,hx=>by cases hx
 | o :: l,a,h,hle,x,hx=>by
  rcases List.mem_cons.1 hx with rfl | hx
  ·exact ⟨o,by simp,rfl,hle o (by simp)⟩
  ·have hp:=List.pairwise_cons.1 h.pw
   obtain ⟨o',h1,h2,h3⟩:=li l (a+o.len) ⟨fun y hy=>h.good y (by simp [hy]),hp.2⟩ (fun y hy=>by have:=(hp.1 y hy).2;have:=hle o (by simp);omega) x hx
   exact ⟨o',by simp [h1],h2,h3⟩
structure KeepSt (W0:Int->Int) (words oops:Int) (keep:RO->Bool) (done rest:List RO) (W T:Int->Int) (low:Int):Prop where
 wf:WFO words oops (done++rest)
 regK:∀ x∈bo 0 (done.filter keep),∃ o∈done,x={ o with place:=x.place }∧∀ i,0<=i->i<o.len->W (x.place+i)=W0 (o.place+i)
 regR:∀ o∈rest,∀ i,0<=i->i<o.len->W (o.place+i)=W0 (o.place+i)
 tab:∀ k,0<=k->k<=oops->T k=match am (bo 0 (done.filter keep)++rest) k with
  | some x=>x.place
  | none=>-1
 low1:1<=low
 low2:low<=oops+1
 low3:∀ k,1<=k->k<low->am (bo 0 (done.filter keep)++rest) k≠none
section
variable {W0:Int->Int}{words oops:Int}{keep:RO->Bool}{done rest:List RO}{o:RO}{W T:Int->Int}{low:Int}
theorem KeepSt.wfd (h:KeepSt W0 words oops keep done rest W T low):WFO words oops (done.filter keep) :=
 WFO.filter ⟨fun x hx=>h.wf.good x (by simp [hx]),(List.pairwise_append.1 h.wf.pw).1⟩ keep
theorem KeepSt.ends (h:KeepSt W0 words oops keep done (o :: rest) W T low):0<=bj 0 (done.filter keep)∧bj 0 (done.filter keep)<=o.place∧(∀ x∈bo 0 (done.filter keep),0<=x.place∧x.place+x.len<=bj 0 (done.filter keep)∧x.oop≠o.oop)∧∀ y∈rest,o.place+o.len<=y.place∧y.oop≠o.oop:=by
 have hpl:∀ x∈done.filter keep,(0:Int)<=x.place:=fun x hx=>(h.wfd.good x hx).pl
 have hs:=lu _ 0 h.wfd (Int.le_refl _) hpl
 have hb:0<=aU (bo 0 (done.filter keep)):=by
  have:=jm hs.1;omega
 have hpa:=List.pairwise_append.1 h.wf.pw
 rw [iJ] at hb
 refine ⟨hb,?_,fun x hx=>?_,fun y hy=>?_⟩
 ·rcases List.eq_nil_or_concat (done.filter keep) with he | ⟨m,x,he⟩
  ·rw [he];exact (h.wf.good o (by simp)).pl
  ·simp only [List.concat_eq_append] at he
   have hx:x∈done.filter keep:=by rw [he];simp
   have h1:({ x with place:=bj 0 m }:RO)∈bo 0 (done.filter keep):=by rw [he,dB];simp
   obtain ⟨o',g1,g2,g3⟩:=li _ 0 h.wfd hpl _ h1
   have hax:=hpa.2.2 x (List.mem_filter.1 hx).1 o (by simp)
   have hoo:o'.oop=x.oop:=(congrArg RO.oop g2).symm
   have hox:o'=x:=by
    rcases qI h.wfd.pw g1 hx with e | e | e
    ·exact e
    ·exact absurd hoo e.1
    ·exact absurd hoo.symm e.1
   have g4:bj 0 m<=x.place:=hox ▸ g3
   have:=hax.2
   rw [he,eY]
   omega
 ·have h1:=hs.2 x hx
  have h2:=jz hs.1 hx
  rw [iJ] at h2
  obtain ⟨o',g1,g2,_⟩:=jN hx
  refine ⟨h1,h2,?_⟩
  rw [g2]
  exact (hpa.2.2 o' (List.mem_filter.1 g1).1 o (by simp)).1
 ·have:=(List.pairwise_cons.1 hpa.2.1).1 y hy
  exact ⟨this.2,fun e=>this.1 e.symm⟩
theorem KeepSt.wf' (h:KeepSt W0 words oops keep done (o :: rest) W T low):WFO words oops ((done++[o])++rest):=by
 have:=h.wf
 simpa using this
theorem KeepSt.stay (h:KeepSt W0 words oops keep done (o :: rest) W T low) (hk:keep o=true){W':Int->Int}
  (hW:∀ i,W' i=if bj 0 (done.filter keep)<=i∧i<bj 0 (done.filter keep)+o.len then W (i-bj 0 (done.filter keep)+o.place) else W i) :
  KeepSt W0 words oops keep (done++[o]) rest W' (upd T o.oop (bj 0 (done.filter keep))) low:=by
 obtain ⟨e1,e2,e3,e4⟩:=h.ends
 have hf:(done++[o]).filter keep=done.filter keep++[o]:=by simp [hk]
 have hobj:∀ k,am (bo 0 ((done++[o]).filter keep)++rest) k=if k=o.oop then some { o with place:=bj 0 (done.filter keep) } else am (bo 0 (done.filter keep)++(o :: rest)) k:=by
  intro k
  rw [hf,dB,eN,eN,eN,fW,fW]
  by_cases hko:k=o.oop
  ·subst hko
   have hn:am (bo 0 (done.filter keep)) o.oop=none:=cV.2 fun x hx=>(e3 x hx).2.2
   rw [hn];simp
  ·have hko':¬ o.oop=k:=fun e=>hko e.symm
   rw [if_neg hko,if_neg hko',if_neg hko']
   have:am [] k=none:=rfl
   rw [this,Option.or_none]
 have hg:=h.wf.good o (by simp)
 refine { wf:=h.wf',regK:=fun x hx=>?_,regR:=fun y hy i h0 h1=>?_,tab:=fun k h0 h1=>?_,low1:=h.low1,low2:=h.low2,low3:=fun k h0 h1=>?_ }
 ·rw [hf,dB] at hx
  rcases List.mem_append.1 hx with hx | hx
  ·obtain ⟨a,ha,hxa,hreg⟩:=h.regK x hx
   have hlen:x.len=a.len:=by rw [hxa];rfl
   refine ⟨a,by simp [ha],hxa,fun i h0 h1=>?_⟩
   rw [hW,if_neg (by have:=(e3 x hx).2.1;omega)]
   exact hreg i h0 h1
  ·simp at hx;subst hx
   refine ⟨o,by simp,rfl,fun i h0 h1=>?_⟩
   rw [hW,if_pos (by simp only;omega),show bj 0 (done.filter keep)+i-bj 0 (done.filter keep)+o.place=o.place+i by omega]
   exact h.regR o (by simp) i h0 h1
 ·rw [hW,if_neg (by have:=(e4 y hy).1;omega)]
  exact h.regR y (by simp [hy]) i h0 h1
 ·rw [hobj]
  unfold upd
  by_cases hk:k=o.oop
  ·rw [if_pos hk,if_pos hk]
  ·rw [if_neg hk,if_neg hk];exact h.tab k h0 h1
 ·rw [hobj]
  by_cases hk:k=o.oop
  ·rw [if_pos hk];simp
  ·rw [if_neg hk];exact h.low3 k h0 h1
theorem KeepSt.drop (h:KeepSt W0 words oops keep done (o :: rest) W T low) (hk:keep o=false) :
  KeepSt W0 words oops keep (done++[o]) rest (upd W o.place 0) (upd T o.oop (-1)) (if o.oop<low then o.oop else low):=by
 obtain ⟨e1,e2,e3,e4⟩:=h.ends
 have hf:(done++[o]).filter keep=done.filter keep:=by simp [hk]
 have hn1:am (bo 0 (done.filter keep)) o.oop=none:=cV.2 fun x hx=>(e3 x hx).2.2
 have hn2:am rest o.oop=none:=cV.2 fun x hx=>(e4 x hx).2
 have hobj:∀ k,am (bo 0 ((done++[o]).filter keep)++rest) k=if k=o.oop then none else am (bo 0 (done.filter keep)++(o :: rest)) k:=by
  intro k
  rw [hf,eN,eN,fW]
  by_cases hko:k=o.oop
  ·subst hko;rw [hn1,hn2];simp
  ·have hko':¬ o.oop=k:=fun e=>hko e.symm
   rw [if_neg hko,if_neg hko']
 have hg:=h.wf.good o (by simp)
 have hlow1:=h.low1
 have hlow2:=h.low2
 have ho1:=hg.oop1
 refine { wf:=h.wf',regK:=fun x hx=>?_,regR:=fun y hy i h0 h1=>?_,tab:=fun k h0 h1=>?_,low1:=by split <;> omega,low2:=by split <;> omega,low3:=fun k h0 h1=>?_ }
 ·rw [hf] at hx
  obtain ⟨a,ha,hxa,hreg⟩:=h.regK x hx
  have hlen:x.len=a.len:=by rw [hxa];rfl
  refine ⟨a,by simp [ha],hxa,fun i h0 h1=>?_⟩
  rw [upd,if_neg (by have:=(e3 x hx).2.1;omega)]
  exact hreg i h0 h1
 ·rw [upd,if_neg (by have:=(e4 y hy).1;have:=o.len_pos;omega)]
  exact h.regR y (by simp [hy]) i h0 h1
 ·rw [hobj]
  unfold upd
  by_cases hk:k=o.oop
  ·rw [if_pos hk,if_pos hk]
  ·rw [if_neg hk,if_neg hk];exact h.tab k h0 h1
 ·rw [hobj]
  have hlt:k<o.oop∨k≠o.oop∧k<low:=by
   by_cases hc:o.oop<low
   ·rw [if_pos hc] at h1;exact .inl h1
   ·rw [if_neg hc] at h1
    exact .inl (by omega)
  have hlow:k<low:=by
   by_cases hc:o.oop<low
   ·rw [if_pos hc] at h1;omega
   ·rw [if_neg hc] at h1;exact h1
  rw [if_neg (by rcases hlt with h | h <;> omega)]
  exact h.low3 k h0 hlow
end
end Kw
namespace Go.Proofs.YtgjfejoohojokaaGreatDoor
open Kw
def fN (words oops:Int):RH:=⟨words,oops,0,0,0,[]⟩
theorem vS {words oops:Int} (h0:0<=words) (h1:words<=1048576) (h2:0<=oops) (h3:oops<=65536):WFH (fN words oops) :=
 ⟨h0,h1,h2,h3,by simp [fN],by simp [fN],⟨by simp [fN],by simp [fN]⟩⟩
section
variable {H:ae}{hb wb tb bb nw nt:Nat}{p:PV}{W T B:Int->Int}{low:Int}{r:RH}{Q:QT}
theorem uv {words oops:Int} (hk:cq H) (hbad:¬ (0<=words∧words<=1048576∧0<=oops∧oops<=65536)->Q (.tuple #[.pointer none,.int .i64 1]) H)
  (h:(0<=words∧words<=1048576∧0<=oops∧oops<=65536)->∀ hb F H',bW H' hb F (fN words oops)->Fr [] H H'->(∀ b∈F,H.size<=b)->Q (.tuple #[.pointer (some ⟨hb,0,none⟩),.int .i64 0]) H'):ac PP Ca #[.int .i64 words,.int .i64 oops] Q H:=by
 apply yP
 unfold FX A0 iV wW pV lV cS
 refine lk ⟨_,rfl,?_⟩
 by_cases h1:0<=words∧words<=1048576
 ·simp only [af,cond_true,cond_false,Option.isNone_some,Option.isNone_none,aH,aC,aR,aL,aF,aN,aM,aB,aO,aP,aG,aQ,and_assoc,true_and,and_true,al,Nat.zero_add,Nat.mul_one,aq,ao,aA,Bool.not_true,Bool.not_false,aX,aY,h1,decide_true]
  refine lk ⟨_,rfl,?_⟩
  by_cases h2:0<=oops∧oops<=65536
  ·simp only [af,cond_true,cond_false,Option.isNone_some,Option.isNone_none,aH,aC,aR,aL,aF,aN,aM,aB,aO,aP,aG,aQ,and_assoc,true_and,and_true,al,Nat.zero_add,Nat.mul_one,aq,ao,aA,Bool.not_true,Bool.not_false,aX,aY,h2,decide_true]
   have e1:IntKind.wrap .i64 (oops+1)=oops+1:=ah (by omega) (by omega)
   have hg:ax<H.size:=by
    have h0:=hk.1
    unfold aa at h0
    rcases Nat.lt_or_ge ax H.size with h1 | h1
    ·exact h1
    ·simp only [Array.getElem?_eq_none h1] at h0;cases h0
   have hs1:aI PP 30=some (1,8,some (.int .i64 0)):=by kernel_rfl
   have hs2:aI PP 25=some (1,8,some (.int .i64 0)):=by kernel_rfl
   simp only [e1]
   have mk:∀ (T:TypeId) (n:Int) (K:Option Addr->Nat->Nat->ae->Prop) (G:ae),aI PP T=some (1,8,some (.int .i64 0))->0<=n->n<=1048576 ->
     (∀ e,K (some ⟨G.size,0,none⟩) n.toNat n.toNat (G.push (.cells (Array.replicate n.toNat (.int .i64 0)) e))) ->
     aK PP (Instr.makeSlice T (.int .i64 n) (.int .i64 n)) (fun v H3=>∃ a:Option Addr,∃ l:Nat,∃ c:Nat,v=.slice a l c∧K a l c H3) G :=
    fun T n K G hT g0 g1 hK=>cI hT rfl g0 (Int.le_refl _) (by omega) (by decide) fun e=>⟨_,_,_,rfl,hK e⟩
   have fin:∀ (G:ae) (wb tb bb:Nat) (e:TypeId),Fr [] H G->cT G wb words.toNat (fun _=>0)->cT G tb (oops+1).toNat (fun _=>0)->cT G bb (oops+1).toNat (fun _=>0)->wb≠tb->wb≠bb->tb≠bb->H.size<=wb->H.size<=tb->H.size<=bb ->
     ∃ hb wb' tb' bb',[Value.pointer (some ⟨G.size,0,none⟩)]=[.pointer (some ⟨hb,0,none⟩)]∧Fr [] H (G.push (.cells #[.slice (some ⟨wb,0,none⟩) words.toNat words.toNat,.slice (some ⟨tb,0,none⟩) (oops+1).toNat (oops+1).toNat,.slice (some ⟨bb,0,none⟩) (oops+1).toNat (oops+1).toNat,.int .i64 0,.int .i64 0,.int .i64 1,.int .i64 0,.int .i64 0,.int .i64 0] e))∧H.size<=hb∧H.size<=wb'∧H.size<=tb'∧H.size<=bb' ∧
      Raw (G.push (.cells #[.slice (some ⟨wb,0,none⟩) words.toNat words.toNat,.slice (some ⟨tb,0,none⟩) (oops+1).toNat (oops+1).toNat,.slice (some ⟨bb,0,none⟩) (oops+1).toNat (oops+1).toNat,.int .i64 0,.int .i64 0,.int .i64 1,.int .i64 0,.int .i64 0,.int .i64 0] e)) hb wb' tb' bb' words.toNat (oops+1).toNat ⟨fun _=>0,fun _=>0,fun _=>0,0,0,1,0,0,0⟩:=by
    intro G wb tb bb e hf m1 m2 m3 n1 n2 n3 g1 g2 g3
    have:=m1.lt
    have:=m2.lt
    have:=m3.lt
    have:=hf.1
    have nd:[G.size,wb,tb,bb,ax].Nodup:=by
     simp only [List.nodup_cons,List.mem_cons,List.not_mem_nil,or_false,not_or,List.nodup_nil,and_true,not_false_eq_true]
     exact ⟨⟨by omega,by omega,by omega,by omega⟩,⟨n1,n2,by omega⟩,⟨n3,by omega⟩,by omega⟩
    exact ⟨G.size,wb,tb,bb,rfl,hf.more,hf.1,g1,g2,g3,⟨aV.new _ _ _,m1.push _,m2.push _,m3.push _,nd⟩⟩
   have hfp:∀ (G:ae) (o:Obj),Fr [] H G->Fr [] H (G.push o):=fun G o hG=>hG.more
   have hsz:∀ (G:ae) (o:Obj),(G.push o).size=G.size+1:=fun G o=>by simp
   refine ⟨fun w H'=>∃ hb wb tb bb,w=[.pointer (some ⟨hb,0,none⟩)]∧Fr [] H H'∧H.size<=hb∧H.size<=wb∧H.size<=tb∧H.size<=bb∧Raw H' hb wb tb bb words.toNat (oops+1).toNat ⟨fun _=>0,fun _=>0,fun _=>0,0,0,1,0,0,0⟩,?A,?B,?C,?D⟩
   case A =>
    refine mk 30 words _ H hs1 h1.1 h1.2 fun e=>?_
    refine ⟨mk 25 (oops+1) _ _ hs2 (by omega) (by omega) fun e2=>?_,mk 25 (oops+1) _ _ hs2 (by omega) (by omega) fun e2=>?_⟩
    ·refine mk 25 (oops+1) _ _ hs2 (by omega) (by omega) fun e3=>?_
     exact fin _ _ _ _ _ (((Fr.refl _ _).more).more.more) (((cT.new _ _ _).push _).push _) ((cT.new _ _ _).push _) (cT.new _ _ _) (by (try simp only [Array.size_push]);omega) (by (try simp only [Array.size_push]);omega) (by (try simp only [Array.size_push]);omega) (by (try simp only [Array.size_push]);omega) (by (try simp only [Array.size_push]);omega) (by (try simp only [Array.size_push]);omega)
    ·refine mk 25 (oops+1) _ _ hs2 (by omega) (by omega) fun e3=>?_
     exact fin _ _ _ _ _ (((Fr.refl _ _).more).more.more) (((cT.new _ _ _).push _).push _) (cT.new _ _ _) ((cT.new _ _ _).push _) (by (try simp only [Array.size_push]);omega) (by (try simp only [Array.size_push]);omega) (by (try simp only [Array.size_push]);omega) (by (try simp only [Array.size_push]);omega) (by (try simp only [Array.size_push]);omega) (by (try simp only [Array.size_push]);omega)
   case B =>
    refine mk 25 (oops+1) _ H hs2 (by omega) (by omega) fun e=>?_
    refine ⟨mk 30 words _ _ hs1 h1.1 h1.2 fun e2=>?_,mk 25 (oops+1) _ _ hs2 (by omega) (by omega) fun e2=>?_⟩
    ·refine mk 25 (oops+1) _ _ hs2 (by omega) (by omega) fun e3=>?_
     exact fin _ _ _ _ _ (((Fr.refl _ _).more).more.more) ((cT.new _ _ _).push _) (((cT.new _ _ _).push _).push _) (cT.new _ _ _) (by (try simp only [Array.size_push]);omega) (by (try simp only [Array.size_push]);omega) (by (try simp only [Array.size_push]);omega) (by (try simp only [Array.size_push]);omega) (by (try simp only [Array.size_push]);omega) (by (try simp only [Array.size_push]);omega)
    ·refine mk 30 words _ _ hs1 h1.1 h1.2 fun e3=>?_
     exact fin _ _ _ _ _ (((Fr.refl _ _).more).more.more) (cT.new _ _ _) (((cT.new _ _ _).push _).push _) ((cT.new _ _ _).push _) (by (try simp only [Array.size_push]);omega) (by (try simp only [Array.size_push]);omega) (by (try simp only [Array.size_push]);omega) (by (try simp only [Array.size_push]);omega) (by (try simp only [Array.size_push]);omega) (by (try simp only [Array.size_push]);omega)
   case C =>
    refine mk 25 (oops+1) _ H hs2 (by omega) (by omega) fun e=>?_
    refine ⟨mk 30 words _ _ hs1 h1.1 h1.2 fun e2=>?_,mk 25 (oops+1) _ _ hs2 (by omega) (by omega) fun e2=>?_⟩
    ·refine mk 25 (oops+1) _ _ hs2 (by omega) (by omega) fun e3=>?_
     exact fin _ _ _ _ _ (((Fr.refl _ _).more).more.more) ((cT.new _ _ _).push _) (cT.new _ _ _) (((cT.new _ _ _).push _).push _) (by (try simp only [Array.size_push]);omega) (by (try simp only [Array.size_push]);omega) (by (try simp only [Array.size_push]);omega) (by (try simp only [Array.size_push]);omega) (by (try simp only [Array.size_push]);omega) (by (try simp only [Array.size_push]);omega)
    ·refine mk 30 words _ _ hs1 h1.1 h1.2 fun e3=>?_
     exact fin _ _ _ _ _ (((Fr.refl _ _).more).more.more) (cT.new _ _ _) ((cT.new _ _ _).push _) (((cT.new _ _ _).push _).push _) (by (try simp only [Array.size_push]);omega) (by (try simp only [Array.size_push]);omega) (by (try simp only [Array.size_push]);omega) (by (try simp only [Array.size_push]);omega) (by (try simp only [Array.size_push]);omega) (by (try simp only [Array.size_push]);omega)
   case D =>
    rintro w H1 ⟨hb,wb,tb,bb,rfl,hf,g1,g2,g3,g4,hr⟩ _
    refine ⟨_,rfl,?_⟩
    simp only [af,cond_true,cond_false,Option.isNone_some,Option.isNone_none,aH,aC,aR,aL,aF,aN,aM,aB,aO,aP,aG,aQ,and_assoc,true_and,and_true,al,Nat.zero_add,Nat.mul_one,aq,ao,aA,Bool.not_true,Bool.not_false,aX,aY,hr.c1]
    refine ⟨fun w H'=>∃ i:Int,w=[.int .i64 i]∧0<=i∧i<=oops+1∧Fr [] H H'∧Raw H' hb wb tb bb words.toNat (oops+1).toNat ⟨fun _=>0,fun k=>if k<i then -1 else 0,fun _=>0,0,0,1,0,0,0⟩,
     fun w _=>match w with
      | [.int _ i]=>(oops+1-i).toNat
      | _=>0,⟨0,rfl,by omega,by omega,hf,?_⟩,?_⟩
    ·refine ⟨hr.hd,hr.mw,hr.mt.congr fun i h0 _=>?_,hr.mb,hr.d⟩
     show (0:Int)=if i<0 then -1 else 0
     rw [if_neg (by omega)]
    ·rintro w H2 ⟨i,rfl,hi0,hi1,hf2,hr2⟩ _
     refine ⟨i,rfl,?_⟩
     split
     ·rename_i hi
      simp only [af,cond_true,cond_false,Option.isNone_some,Option.isNone_none,aH,aC,aR,aL,aF,aN,aM,aB,aO,aP,aG,aQ,and_assoc,true_and,and_true,al,Nat.zero_add,Nat.mul_one,aq,ao,aA,Bool.not_true,Bool.not_false,aX,aY,hr2.c1]
      rw [ah (n:=i+1) (by omega) (by omega)]
      have hr3:=hr2.setT (i:=i) hi0 (-1)
      refine ⟨by omega,by omega,hr2.mt.wr hi0 (by omega),⟨i+1,rfl,by omega,by omega,?_,?_⟩,by simp;omega⟩
      ·exact ⟨by rw [bt];exact hf2.1,fun b hb' hn=>by rw [ce (by simp;omega)];exact hf2.2 b hb' hn⟩
      ·refine ⟨hr3.hd,hr3.mw,hr3.mt.congr fun j h0 _=>?_,hr3.mb,hr3.d⟩
       show upd (fun k=>if k<i then -1 else 0) i (-1) j=if j<i+1 then -1 else 0
       unfold upd
       by_cases hj:j=i
       ·rw [if_pos hj,if_pos (by omega)]
       ·rw [if_neg hj]
        show (if j<i then (-1:Int) else 0)=_
        by_cases hj2:j<i
        ·rw [if_pos hj2,if_pos (by omega)]
        ·rw [if_neg hj2,if_neg (by omega)]
     ·rename_i hi
      have hie:i=oops+1:=by omega
      subst hie
      have hw:=vS h1.1 h1.2 h2.1 h2.2
      refine h (by omega) hb [hb,wb,tb,bb] H2 ⟨wb,tb,bb,_,_,_,_,rfl,hr2.phs (hk.fr hf2 (by simp)) hw ?_ rfl rfl rfl rfl rfl rfl rfl⟩ hf2 (by simp;omega)
      refine { tab:=fun k h0 h1=>?_,bor:=by simp [fN],cls:=by simp [fN],shp:=by simp [fN],wrd:=by simp [fN],byt:=by simp [fN],byr:=by simp [fN],low1:=by simp,low2:=by simp [fN];omega,low3:=fun k h0 h1=>by simp at h1;omega }
      have:k<=oops:=h1
      show (if k<oops+1 then (-1:Int) else 0)=_
      rw [if_pos (by omega)]
      rfl
  ·simp only [af,cond_true,cond_false,Option.isNone_some,Option.isNone_none,aH,aC,aR,aL,aF,aN,aM,aB,aO,aP,aG,aQ,and_assoc,true_and,and_true,al,Nat.zero_add,Nat.mul_one,aq,ao,aA,Bool.not_true,Bool.not_false,aX,aY,h2,decide_false]
   exact hbad (by omega)
 ·simp only [af,cond_true,cond_false,Option.isNone_some,Option.isNone_none,aH,aC,aR,aL,aF,aN,aM,aB,aO,aP,aG,aQ,and_assoc,true_and,and_true,al,Nat.zero_add,Nat.mul_one,aq,ao,aA,Bool.not_true,Bool.not_false,aX,aY,h1,decide_false]
  exact hbad (by omega)
theorem Kc (hR:PHs H hb wb tb bb W T B low r) (h:∀ a l c F H',bK 1 H' a l c (ag r.all) F->Fr [] H H'->(∀ b∈F,H.size<=b)->F≠[]->Q (.slice a l c) H'):ac PP Dc #[.pointer (some ⟨hb,0,none⟩)] Q H:=by
 apply zD
 unfold IU A0 iV wW pV lV
 have ho0:=hR.wf.o0
 have ho1:=hR.wf.o1
 have hs2:aI PP 25=some (1,8,some (.int .i64 0)):=by kernel_rfl
 refine lg hR ⟨_,rfl,?_⟩
 simp only [af,cond_true,cond_false,Option.isNone_some,Option.isNone_none,aH,aC,aR,aL,aF,aN,aM,aB,aO,aP,aG,aQ,and_assoc,true_and,and_true,al,Nat.zero_add,Nat.mul_one,aq,ao,aA,Bool.not_true,Bool.not_false,aX,aY,hR.c3]
 have hcount:(r.objs.length:Int)<=1048576:=by
  have h1:=jm hR.wf.objs
  have h2:=dv hR.wf.objs hR.wf.w0
  have h3:=hR.wf.w1
  omega
 refine cI hs2 rfl (Int.le_refl _) (by omega) (by omega) (by decide) fun e=>?_
 have hf0:Fr [] H (H.push (.cells (Array.replicate (r.objs.length:Int).toNat (.int .i64 0)) e)):=Fr.push _ _ _
 have hc1:aa (H.push (.cells (Array.replicate (r.objs.length:Int).toNat (.int .i64 0)) e)) ⟨hb,1,none⟩=some (.slice (some ⟨tb,0,none⟩) (r.oops+1).toNat (r.oops+1).toNat):=(fz hR.hd.lt).trans hR.c1
 simp only [af,cond_true,cond_false,Option.isNone_some,Option.isNone_none,aH,aC,aR,aL,aF,aN,aM,aB,aO,aP,aG,aQ,and_assoc,true_and,and_true,al,Nat.zero_add,Nat.mul_one,aq,ao,aA,Bool.not_true,Bool.not_false,aX,aY,hc1]
 refine ⟨fun w H'=>∃ a l c F,∃ i:Int,w=[.slice a l c,.int .i64 i]∧0<=i∧i<=r.oops+1∧bK 1 H' a l c (ag (r.upto i.toNat)) F∧Fr [] H H'∧(∀ b∈F,H.size<=b)∧F≠[],fun w _=>match w with
  | [_,.int _ i]=>(r.oops+1-i).toNat
  | _=>0,⟨_,_,_,_,0,rfl,by omega,by omega,bK.newMem _ _ _,hf0,by simp,by simp⟩,?_⟩
 rintro w H1 ⟨a,l,c,F,i,rfl,hi0,hi1,ho,hf,hF,hne⟩ _
 refine ⟨a,l,c,i,rfl,?_⟩
 have hmt:=hR.mt.fr hf (by simp)
 have hl:=ho.len
 simp only [ag,List.length_map] at hl
 have hul:=r.upto_len i.toNat
 split
 ·rename_i hi
  simp only [af,cond_true,cond_false,Option.isNone_some,Option.isNone_none,aH,aC,aR,aL,aF,aN,aM,aB,aO,aP,aG,aQ,and_assoc,true_and,and_true,al,Nat.zero_add,Nat.mul_one,aq,ao,aA,Bool.not_true,Bool.not_false,aX,aY,hmt.cell hi0 (by omega)]
  rw [ah (n:=i+1) (by omega) (by omega)]
  have ht:=hR.sim.tab i hi0 (by omega)
  have hnx:=r.upto_succ i.toNat
  have ei:(i.toNat:Int)=i:=Int.toNat_of_nonneg hi0
  have e1:(i+1).toNat=i.toNat+1:=by omega
  rw [ei] at hnx
  refine ⟨by omega,by omega,?_⟩
  split
  ·rename_i hp
   have hs:(am r.objs i).isSome=true:=by
    cases ho:am r.objs i with
    | none=>rw [ht,ho] at hp;simp at hp
    | some o=>rfl
   refine bJ hs2 rfl (by kernel_rfl) ho rfl (by simp [dC]) (by omega) (by decide) (by decide) fun a' c' F' H2 h1 h2 h3=>⟨_,_,_,rfl,?_⟩
   have hfr:=Up.fresh hf h2 hF
   refine ⟨⟨_,_,_,F',i+1,rfl,by omega,by omega,?_,hfr.1,hfr.2,fun e=>by subst e;rcases h1.2.2 with ⟨_,hc,_⟩ | ⟨b,cs,_,hF',_⟩;(have:=h1.2.1;omega);cases hF'⟩,by simp;omega⟩
   rw [e1,hnx,if_pos hs,bX]
   exact h1
  ·rename_i hp
   have hs:¬ (am r.objs i).isSome=true:=by
    cases ho:am r.objs i with
    | none=>simp
    | some o =>
     rw [ht,ho] at hp
     exact absurd (hR.in_ (au ho).1).1 hp
   refine ⟨⟨_,_,_,F,i+1,rfl,by omega,by omega,?_,hf,hF,hne⟩,by simp;omega⟩
   rw [e1,hnx,if_neg hs,List.append_nil]
   exact ho
 ·rename_i hi
  have e:i=r.oops+1:=by omega
  subst e
  exact h a l c F H1 ho hf hF hne
end
section
variable {H:ae}{hb wb tb bb nw nt:Nat}{p:PV}{W T B:Int->Int}{low:Int}{r:RH}{Q:QT}
theorem Eu (hR:Raw H hb wb tb bb nw nt p){k:Int} (h0:0<=k) (h1:k<nt) (h2:0<=p.T k) (h3:p.T k<nw) (h4:0<=p.count) (h5:p.count<=1000000000)
  (h:∀ H',Raw H' hb wb tb bb nw nt { p with W:=upd p.W (p.T k) 0,T:=upd p.T k (-1),low:=if k<p.low then k else p.low,count:=p.count-1 }->Fr [hb,wb,tb,bb] H H'->Q (.tuple #[]) H'):ac PP Ee #[.pointer (some ⟨hb,0,none⟩),.int .i64 k] Q H:=by
 apply Ap
 unfold KN iV wW lV;dsimp only [shH]
 have e1:IntKind.wrap .i64 (p.count-1)=p.count-1:=ah (by omega) (by omega)
 have r1:=hR.setW (i:=p.T k) h2 0
 have r2:=r1.setT (i:=k) h0 (-1)
 have r3:=r2.set5 (if k<p.low then k else p.low)
 have r4:=r3.set3 (p.count-1)
 simp only [af,cond_true,cond_false,Option.isNone_some,Option.isNone_none,aH,aC,aR,aL,aF,aN,aM,aB,aO,aP,aG,aQ,and_assoc,true_and,and_true,al,Nat.zero_add,Nat.mul_one,aq,ao,aA,Bool.not_true,Bool.not_false,aX,aY,hR.c0,hR.c1,hR.tabc h0 h1,r1.c1,r2.c5,r3.c3,e1]
 refine ⟨h0,h1,h2,h3,hR.mw.wr h2 h3,h0,h1,r1.mt.wr h0 h1,r2.wrh (by decide),r3.wrh (by decide),h _ r4 ?_⟩
 exact (((Fr.refl _ _).step (by simp)).step (by simp)).step (by simp) |>.step (by simp)
theorem xo (hw:WFH r) (hs:SimH W T B low r) (keep:RO->Bool):KeepSt W r.words r.oops keep [] r.objs W T low :=
 { wf:=by simpa using hw.objs,regK:=by simp [bo],regR:=fun _ _ _ _ _=>rfl,tab:=fun k h0 h1=>by rw [hs.tab k h0 h1];rfl,low1:=hs.low1,low2:=hs.low2,low3:=fun k h0 h1=>hs.low3 k h0 h1 }
theorem Ay (hs:SimH W T B low r){keep:RO->Bool}{W' T':Int->Int}{low' tn:Int} (h:KeepSt W r.words r.oops keep r.objs [] W' T' low') :
  SimH W' T' B low' { r with objs:=bo 0 (r.objs.filter keep),turn:=tn }:=by
 have key:∀ x∈bo 0 (r.objs.filter keep),∃ o∈r.objs,x.oop=o.oop∧x.fmt=o.fmt∧x.born=o.born∧x.cls=o.cls∧x.slots=o.slots∧x.len=o.len∧∀ i,0<=i->i<o.len->W' (x.place+i)=W (o.place+i):=by
  intro x hx
  obtain ⟨o,h1,h2,h3⟩:=h.regK x hx
  exact ⟨o,h1,by rw [h2],by rw [h2],by rw [h2],by rw [h2],by rw [h2],by rw [h2];rfl,h3⟩
 have e:bo 0 (r.objs.filter keep)++[]=bo 0 (r.objs.filter keep):=List.append_nil _
 refine { tab:=fun k h0 h1=>by have:=h.tab k h0 h1;rw [e] at this;exact this,bor:=fun x hx=>?_,cls:=fun x hx=>?_,shp:=fun x hx=>?_,wrd:=fun x hx hf j hj=>?_,byt:=fun x hx hf j hj=>?_,byr:=fun x hx hf j h0 h1=>?_,low1:=h.low1,low2:=h.low2,low3:=fun k h0 h1=>by have:=h.low3 k h0 h1;rw [e] at this;exact this }
 all_goals obtain ⟨o,ho,k1,k2,k3,k4,k5,k6,k7⟩:=key x hx
 ·rw [k1,k3];exact hs.bor o ho
 ·have:=k7 0 (Int.le_refl _) (by have:=o.len_pos;omega)
  rw [Int.add_zero,Int.add_zero] at this
  rw [this,k4];exact hs.cls o ho
 ·rw [k7 1 (by omega) (by have:=o.len_pos;omega),k5,k2];exact hs.shp o ho
 ·have hlo:o.len=2+(o.slots.length:Int):=by unfold RO.len lenOf;rw [if_neg (by omega)]
  rw [k5] at hj ⊢
  rw [Int.add_assoc,k7 (2+(j:Int)) (by omega) (by omega),←Int.add_assoc]
  exact hs.wrd o ho (k2 ▸ hf) j hj
 ·have hf':o.fmt=1:=k2 ▸ hf
  have hlo:o.len=2+((o.slots.length:Int)+3) / 4:=by unfold RO.len lenOf;rw [if_pos hf']
  rw [k5] at hj ⊢
  rw [Int.add_assoc,k7 (2+((j / 4:Nat):Int)) (by omega) (by omega),←Int.add_assoc]
  exact hs.byt o ho hf' j hj
 ·have hf':o.fmt=1:=k2 ▸ hf
  have:=k7 (j-x.place) (by omega) (by omega)
  rw [show x.place+(j-x.place)=j by omega] at this
  rw [this]
  exact hs.byr o ho hf' _ (by omega) (by omega)
theorem ve (hR:Raw H hb wb tb bb nw nt p){pl n f:Int} (h0:0<=pl) (h1:pl+1<nw) (hw:nw<=1048576) (he:p.W (pl+1)=2*n+f) (hf:f=0∨f=1) (h:Q (.tuple #[.int .i64 n,.int .i64 f]) H):ac PP vR #[.pointer (some ⟨hb,0,none⟩),.int .i64 pl] Q H:=by
 apply sM
 unfold Cz iV wW lV
 rw [ah (n:=pl+1) (by omega) (by omega)]
 simp only [af,cond_true,cond_false,Option.isNone_some,Option.isNone_none,aH,aC,aR,aL,aF,aN,aM,aB,aO,aP,aG,aQ,and_assoc,true_and,and_true,al,Nat.zero_add,Nat.mul_one,aq,ao,aA,Bool.not_true,Bool.not_false,aX,aY,hR.c0,hR.word (i:=pl+1) (by omega) (by omega)]
 refine ⟨by omega,by omega,?_⟩
 rw [he,yJ,ti]
 have e1:(2*n+f) / 2=n:=by omega
 have e2:(2*n+f) % 2=f:=by omega
 rw [e1,e2];exact h
theorem oW (hR:Raw H hb wb tb bb nw nt p){pl n f:Int} (h0:0<=pl) (h1:pl+1<nw) (hw:nw<=1048576) (he:p.W (pl+1)=2*n+f) (hf:f=0∨f=1) (hn:0<=n) (hn2:n<=8192) (h:Q (.int .i64 (lenOf n f)) H):ac PP BB #[.pointer (some ⟨hb,0,none⟩),.int .i64 pl] Q H:=by
 apply yh
 unfold Fm iV pV cS
 exact ve hR h0 h1 hw he hf ⟨_,_,rfl,jp hn (by omega) ⟨_,rfl,h⟩⟩
def nQ (hb:Nat) (r:RH):Prop:=∀ {H:ae}{wb tb bb:Nat}{W T B:Int->Int}{low:Int}{Q:QT},PHs H hb wb tb bb W T B low r->(∀ a l c F H',bK 1 H' a l c (ag (r.objs.map (·.oop))) F->Fr [] H H'->(∀ b∈F,H.size<=b)->Q (.slice a l c) H')->ac PP Cy #[.pointer (some ⟨hb,0,none⟩)] Q H
theorem Dj {F:az} (hR:bW H hb F r) (hbp:nQ hb r){a2:Option Addr}{l2 c2:Nat}{ks:List Int} (hk:Rd 1 H a2 l2 (ag ks)) (hd:∀ p,a2=some p->p.block∉F) (hlk:l2<=1099511627776)
  (h:∀ H',bW H' hb F (r.keep ks).2->Fr F H H'->Q (mY (r.keep ks).1) H'):ac PP A5 #[.pointer (some ⟨hb,0,none⟩),.slice a2 l2 c2] Q H:=by
 have hR0:=hR
 obtain ⟨wb,tb,bb,W,T,B,low,rfl,hR⟩:=hR
 apply Dg
 unfold LO iV wW pV lV cS;dsimp only [shH]
 have hwf:=hR.wf
 have hw0:=hwf.w0
 have hw1:=hwf.w1
 have ho0:=hwf.o0
 have ho1:=hwf.o1
 have hne:=hR.raw.ne
 have hen:=dv hwf.objs hwf.w0
 have hcnt:=jm hwf.objs
 have hs2:aI PP 25=some (1,8,some (.int .i64 0)):=by kernel_rfl
 have hs1:aI PP 30=some (1,8,some (.int .i64 0)):=by kernel_rfl
 have hl2:l2=ks.length:=by have:=hk.1;simpa [ag] using this.symm
 refine lg hR ⟨_,rfl,?_⟩
 simp only [af,cond_true,cond_false,Option.isNone_some,Option.isNone_none,aH,aC,aR,aL,aF,aN,aM,aB,aO,aP,aG,aQ,and_assoc,true_and,and_true,al,Nat.zero_add,Nat.mul_one,aq,ao,aA,Bool.not_true,Bool.not_false,aX,aY,hR.c1]
 refine cI hs2 rfl (by omega) (Int.le_refl _) (by omega) (by decide) fun e=>?_
 simp only [Int.toNat_natCast]
 have hlts:∀ b∈[hb,wb,tb,bb],b<H.size:=hR0.lt
 have hsb:H.size∉[hb,wb,tb,bb]:=fun hm=>absurd (hlts _ hm) (by omega)
 simp only [af,cond_true,cond_false,Option.isNone_some,Option.isNone_none,aH,aC,aR,aL,aF,aN,aM,aB,aO,aP,aG,aQ,and_assoc,true_and,and_true,al,Nat.zero_add,Nat.mul_one,aq,ao,aA,Bool.not_true,Bool.not_false,aX,aY]
 refine ⟨fun w H'=>∃ i:Int,w=[.int .i64 i]∧0<=i∧i<=l2∧PHs H' hb wb tb bb W T B low r∧Fr [] H H'∧cT H' H.size (r.oops+1).toNat (fun k=>if k∈ks.take i.toNat then 1 else 0)∧∀ k∈ks.take i.toNat,am r.objs k≠none,fun w _=>match w with
  | [.int _ i]=>(l2-i).toNat
  | _=>0,⟨0,rfl,by omega,by omega,?_,Fr.push _ _ _,?_,by simp⟩,?_⟩
 ·obtain ⟨wb',tb',bb',W',T',B',low',e1,h1⟩:=hR0.fr (Fr.push [] H (.cells (Array.replicate (r.oops+1).toNat (.int .i64 0)) e)) (cA.nil_right _) (by simp)
  exact { hR with hd:=hR.hd.push _,mw:=hR.mw.push _,mt:=hR.mt.push _,mb:=hR.mb.push _,kinds:=h1.kinds }
 ·exact (cT.new _ _ _).congr fun k _ _=>by simp
 rintro w H1 ⟨i,rfl,hi0,hi1,hR1,hf1,hm1,hall⟩ _
 refine ⟨i,rfl,?_⟩
 split
 ·rename_i hi
  have hk1:=hk.fr' hf1 (by simp)
  obtain ⟨pa,hpa,hcell,hlt⟩:=hk1.int hi0 (by omega)
  subst hpa
  simp only [af,cond_true,cond_false,Option.isNone_some,Option.isNone_none,aH,aC,aR,aL,aF,aN,aM,aB,aO,aP,aG,aQ,and_assoc,true_and,and_true,al,Nat.zero_add,Nat.mul_one,aq,ao,aA,Bool.not_true,Bool.not_false,aX,aY,hcell]
  refine ⟨hi0,hi,nF hR1 ?_⟩
  have htk:ks.take (i+1).toNat=ks.take i.toNat++[ks.getD i.toNat 0]:=by
   rw [show (i+1).toNat=i.toNat+1 by omega,List.take_add_one]
   simp [hlt]
  unfold np
  cases ho:am r.objs (ks.getD i.toNat 0) with
  | none =>
   refine ⟨_,_,rfl,?_⟩
   rw [if_pos (by decide)]
   have hmem:ks.getD i.toNat 0∈ks:=by
    have:ks.getD i.toNat 0=ks[i.toNat]:=by simp [hlt]
    rw [this];exact List.getElem_mem hlt
   have hke:r.keep ks=((0,0,20),r):=by unfold RH.keep;rw [if_pos ⟨_,hmem,ho⟩]
   rw [hke] at h
   exact h H1 ⟨wb,tb,bb,W,T,B,low,rfl,hR1⟩ hf1.of_nil
  | some o =>
   have hgo:=hwf.objs.good o (au ho).1
   have hoo:=(au ho).2
   have hg1:=hgo.oop1
   have hg2:=hgo.oop2
   rw [hoo] at hg1 hg2
   refine ⟨_,_,rfl,?_⟩
   simp only [af,cond_true,cond_false,Option.isNone_some,Option.isNone_none,aH,aC,aR,aL,aF,aN,aM,aB,aO,aP,aG,aQ,and_assoc,true_and,and_true,al,Nat.zero_add,Nat.mul_one,aq,ao,aA,Bool.not_true,Bool.not_false,aX,aY,ne_eq,not_true_eq_false,if_false]
   rw [ah (n:=i+1) (by omega) (by omega)]
   refine ⟨by omega,by omega,hm1.wr (by omega) (by omega),⟨i+1,rfl,by omega,by omega,?_,?_,?_,?_⟩,by simp;omega⟩
   ·have hfs:Fr [H.size] H1 (av H1 ⟨H.size,(ks.getD i.toNat 0).toNat,none⟩ (.int .i64 1)):=Fr.set (by simp)
    have hmm:∀ b∈[hb,wb,tb,bb],b∉[H.size]:=fun b hb' hn=>by simp at hn;subst hn;exact hsb hb'
    have hgk:ax<H.size:=by
     have h0:=hR.kinds.1
     unfold aa at h0
     rcases Nat.lt_or_ge ax H.size with h1 | h1
     ·exact h1
     ·simp only [Array.getElem?_eq_none h1] at h0;cases h0
    exact { hR1 with hd:=hR1.hd.fr hfs (hmm _ (by simp)),mw:=hR1.mw.fr hfs (hmm _ (by simp)),mt:=hR1.mt.fr hfs (hmm _ (by simp)),mb:=hR1.mb.fr hfs (hmm _ (by simp)),kinds:=hR1.kinds.fr hfs (by simp;omega) }
   ·exact ⟨by rw [bt];exact hf1.1,fun b hb' hn=>by rw [ce (by simp;omega)];exact hf1.2 b hb' hn⟩
   ·refine (hm1.set (i:=ks.getD i.toNat 0) (by omega) 1).congr fun k _ _=>?_
    unfold upd
    rw [htk]
    by_cases hkk:k=ks.getD i.toNat 0
    ·rw [if_pos hkk,if_pos (by simp [hkk])]
    ·rw [if_neg hkk]
     simp only [List.mem_append,List.mem_singleton,hkk,or_false]
   ·rw [htk]
    intro k hkm
    rcases List.mem_append.1 hkm with hkm | hkm
    ·exact hall k hkm
    ·simp only [List.mem_singleton] at hkm;rw [hkm,ho];simp
 ·rename_i hi
  have hil:i.toNat=ks.length:=by omega
  have htake:ks.take i.toNat=ks:=by rw [hil,List.take_length]
  rw [htake] at hm1 hall
  have hke:r.keep ks=(((r.objs.length:Int)-((r.keepO ks).length:Int),aU r.objs-aU (r.keepO ks),0),{ r with objs:=r.keepO ks,turn:=IntKind.wrap .i64 (r.turn+1) }):=by
   unfold RH.keep
   rw [if_neg]
   rintro ⟨k,hk1,hk2⟩
   exact hall k hk1 hk2
  have hwf2:=dF hwf ks
  rw [hke] at h hwf2
  simp only [af,cond_true,cond_false,Option.isNone_some,Option.isNone_none,aH,aC,aR,aL,aF,aN,aM,aB,aO,aP,aG,aQ,and_assoc,true_and,and_true,al,Nat.zero_add,Nat.mul_one,aq,ao,aA,Bool.not_true,Bool.not_false,aX,aY,hR1.c3,hR1.c4]
  refine hbp hR1 fun ab lb cb Fb H2 hob hf2 hFb=>?_
  simp only [af,cond_true,cond_false,Option.isNone_some,Option.isNone_none,aH,aC,aR,aL,aF,aN,aM,aB,aO,aP,aG,aQ,and_assoc,true_and,and_true,al,Nat.zero_add,Nat.mul_one,aq,ao,aA,Bool.not_true,Bool.not_false,aX,aY]
  have hkeepf:∃ kf:RO->Bool,kf=fun o=>decide (o.oop∈ks):=⟨_,rfl⟩
  obtain ⟨kf,hkf⟩:=hkeepf
  have hko:r.keepO ks=bo 0 (r.objs.filter kf):=by rw [hkf];rfl
  have hlb:lb=r.objs.length:=by have:=hob.1;simpa [ag] using this.symm
  have hf12:Fr [] H H2:=hf1.trans hf2
  have hFb':∀ b∈Fb,b∉[hb,wb,tb,bb]:=fun b hb' hn=>absurd (hlts b hn) (by have:=hFb b hb';have:=hf1.1;omega)
  have hsbF:H.size∉Fb:=fun hm=>by have:=hFb _ hm;have:=hm1.lt;omega
  have hsub:∀ {H'},Fr [hb,wb,tb,bb] H2 H'->Fr [hb,wb,tb,bb] H H':=fun hf=>(hf12.of_nil).trans hf
  refine ⟨fun w H'=>∃(j:Nat) (W' T':Int->Int) (low':Int),w=[.int .i64 (bj 0 ((r.objs.take j).filter kf)),.int .i64 j]∧j<=r.objs.length∧KeepSt W r.words r.oops kf (r.objs.take j) (r.objs.drop j) W' T' low' ∧
    Raw H' hb wb tb bb r.words.toNat (r.oops+1).toNat ⟨W',T',B,((bo 0 ((r.objs.take j).filter kf)).length:Int)+((r.objs.length-j:Nat):Int),aU r.objs,low',r.mark,r.born,r.turn⟩∧Fr [hb,wb,tb,bb] H2 H',fun w _=>match w with
   | [_,.int _ i]=>(r.objs.length-i).toNat
   | _=>0,⟨0,W,T,low,by simp [bj],by omega,?_,?_,Fr.refl _ _⟩,?_⟩
  ·have:=xo hwf hR.sim kf
   simpa using this
  ·have hR2:=hR1.raw.keep hf2 (cA.nil_right _)
   simpa [bo] using hR2
  rintro w H3 ⟨j,W',T',low',rfl,hj,hst,hr3,hf3⟩ _
  refine ⟨_,_,rfl,?_⟩
  have hob3:=hob.fr hf3 hFb'
  have hm3:cT H3 H.size (r.oops+1).toNat (fun k=>if k∈ks then 1 else 0):=(hm1.fr hf2 (by simp)).fr hf3 hsb
  split
  ·rename_i hjl
   have hjl:j<r.objs.length:=by omega
   obtain ⟨pa,hpa,hcell,hlt⟩:=(hob3.rd).int (i:=(j:Int)) (by omega) (by omega)
   have ho:r.objs.drop j=r.objs[j] :: r.objs.drop (j+1):=List.drop_eq_getElem_cons hjl
   have hom:r.objs[j]∈r.objs:=List.getElem_mem hjl
   have hgd:(r.objs.map (·.oop)).getD (j:Int).toNat 0=r.objs[j].oop:=by simp [hjl]
   rw [hgd] at hcell
   have htk:r.objs.take (j+1)=r.objs.take j++[r.objs[j]]:=by rw [List.take_add_one];simp [hjl]
   generalize hoe:r.objs[j]=o at *
   have hg:=hwf.objs.good o hom
   have hg1:=hg.oop1
   have hg2:=hg.oop2
   have hg3:=hg.pl
   have hg4:=hg.fits
   have hg5:=o.len_pos
   have hg6:=hg.many
   rw [ho] at hst
   obtain ⟨e1,e2,e3,e4⟩:=hst.ends
   have hT:T' o.oop=o.place:=by
    rw [hst.tab o.oop (by omega) (by omega),eN,fW,if_pos rfl]
    have hn:am (bo 0 ((r.objs.take j).filter kf)) o.oop=none:=cV.2 fun x hx=>(e3 x hx).2.2
    rw [hn];rfl
   have hWs:W' (o.place+1)=2*(o.slots.length:Int)+o.fmt:=by
    rw [hst.regR o (by simp) 1 (by omega) (by omega)];exact hR.sim.shp o hom
   subst hpa
   have ej:IntKind.wrap .i64 ((j:Int)+1)=((j+1:Nat):Int):=by rw [ah (by omega) (by omega)];omega
   simp only [af,cond_true,cond_false,Option.isNone_some,Option.isNone_none,aH,aC,aR,aL,aF,aN,aM,aB,aO,aP,aG,aQ,and_assoc,true_and,and_true,al,Nat.zero_add,Nat.mul_one,aq,ao,aA,Bool.not_true,Bool.not_false,aX,aY,hcell,hr3.c1,hr3.tabc (i:=o.oop) (by omega) (by omega),hm3.cell (i:=o.oop) (by omega) (by omega),hT,ej]
   refine ⟨by omega,by omega,by omega,by omega,by omega,by omega,?_⟩
   by_cases hkk:o.oop∈ks
   ·have hkeep:kf o=true:=by rw [hkf];simpa using hkk
    simp only [hkk,if_true]
    rw [if_neg (by decide)]
    have hlen:o.len=lenOf o.slots.length o.fmt:=rfl
    refine oW hr3 hg3 (by omega) (by omega) hWs hg.fmt (by omega) (by omega) ?_
    rw [←hlen]
    have e5:IntKind.wrap .i64 (o.place+o.len)=o.place+o.len:=ah (by omega) (by omega)
    have e6:IntKind.wrap .i64 (bj 0 ((r.objs.take j).filter kf)+o.len)=bj 0 ((r.objs.take j).filter kf)+o.len:=ah (by omega) (by omega)
    simp only [af,cond_true,cond_false,Option.isNone_some,Option.isNone_none,aH,aC,aR,aL,aF,aN,aM,aB,aO,aP,aG,aQ,and_assoc,true_and,and_true,al,Nat.zero_add,Nat.mul_one,aq,ao,aA,Bool.not_true,Bool.not_false,aX,aY,hr3.c0,e5,e6]
    refine ⟨by omega,by omega,by omega,by omega,by omega,by omega,?_⟩
    refine pq hs1 hr3.mw e1 (by omega) (by omega) hg3 (by omega) (by omega) (by omega) fun H4 hm4 hs4 hk4=>?_
    have hr4:Raw H4 hb wb tb bb r.words.toNat (r.oops+1).toNat ⟨fun i=>if bj 0 ((r.objs.take j).filter kf)<=i∧i<bj 0 ((r.objs.take j).filter kf)+(((o.place+o.len).toNat-o.place.toNat:Nat):Int) then W' (i-bj 0 ((r.objs.take j).filter kf)+o.place) else W' i,T',B,((bo 0 ((r.objs.take j).filter kf)).length:Int)+((r.objs.length-j:Nat):Int),aU r.objs,low',r.mark,r.born,r.turn⟩:=⟨hr3.hd.of_eq (hk4 _ hne.1.1),hm4,hr3.mt.of_eq (hk4 _ hne.2.1.1.symm),hr3.mb.of_eq (hk4 _ hne.2.1.2.1.symm),hr3.d⟩
    have hf4:Fr [hb,wb,tb,bb] H2 H4:=hf3.trans ⟨by omega,fun b _ hn=>hk4 b fun e=>hn (by simp [e])⟩
    simp only [af,cond_true,cond_false,Option.isNone_some,Option.isNone_none,aH,aC,aR,aL,aF,aN,aM,aB,aO,aP,aG,aQ,and_assoc,true_and,and_true,al,Nat.zero_add,Nat.mul_one,aq,ao,aA,Bool.not_true,Bool.not_false,aX,aY,hr4.c1]
    have hr5:=hr4.setT (i:=o.oop) (by omega) (bj 0 ((r.objs.take j).filter kf))
    have hst5:=hst.stay hkeep (W':=fun i=>if bj 0 ((r.objs.take j).filter kf)<=i∧i<bj 0 ((r.objs.take j).filter kf)+(((o.place+o.len).toNat-o.place.toNat:Nat):Int) then W' (i-bj 0 ((r.objs.take j).filter kf)+o.place) else W' i) fun i=>by
     have:(((o.place+o.len).toNat-o.place.toNat:Nat):Int)=o.len:=by omega
     rw [this]
    have hfl:(r.objs.take (j+1)).filter kf=(r.objs.take j).filter kf++[o]:=by rw [htk,List.filter_append];simp [hkeep]
    refine ⟨by omega,by omega,hr4.mt.wr (by omega) (by omega),⟨j+1,_,_,_,?_,by omega,by rw [htk];exact hst5,?_,hf4.step (by simp)⟩,by simp;omega⟩
    ·rw [hfl,eY]
    ·rw [hfl,dB,List.length_append]
     have hc:((bo 0 ((r.objs.take j).filter kf)).length:Int)+((r.objs.length-j:Nat):Int)=((bo 0 ((r.objs.take j).filter kf)).length+([({ o with place:=bj 0 ((r.objs.take j).filter kf) }:RO)].length:Nat):Nat)+((r.objs.length-(j+1):Nat):Int):=by
      simp only [List.length_singleton];omega
     have:=hr5
     simp only [hc] at this
     exact this
   ·have hkeep:kf o=false:=by rw [hkf];simpa using hkk
    simp only [hkk,if_false]
    rw [if_pos trivial]
    have hfl:(r.objs.take (j+1)).filter kf=(r.objs.take j).filter kf:=by rw [htk,List.filter_append];simp [hkeep]
    have hslen:((bo 0 ((r.objs.take j).filter kf)).length:Int)<=r.objs.length:=by
     rw [nu]
     have h1:=List.length_filter_le kf (r.objs.take j)
     have h2:=List.length_take_le j r.objs
     rw [List.length_take] at h1
     omega
    refine Eu hr3 (by omega) (by omega) (by show 0<=T' o.oop;rw [hT];exact hg3) (by show T' o.oop<_;rw [hT];omega) (by simp only;omega) (by simp only;omega) fun H4 hr4 hf4=>?_
    have hst5:=hst.drop hkeep
    refine ⟨rfl,⟨j+1,_,_,_,by rw [hfl],by omega,by rw [htk];exact hst5,?_,hf3.trans hf4⟩,by simp;omega⟩
    rw [hfl]
    have hc:((bo 0 ((r.objs.take j).filter kf)).length:Int)+((r.objs.length-j:Nat):Int)-1=((bo 0 ((r.objs.take j).filter kf)).length:Int)+((r.objs.length-(j+1):Nat):Int):=by omega
    have:=hr4
    simp only [hc,hT] at this
    exact this
  ·rename_i hjl
   have hje:j=r.objs.length:=by omega
   subst hje
   have htl:r.objs.take r.objs.length=r.objs:=List.take_length
   have hdl:r.objs.drop r.objs.length=[]:=List.drop_length
   rw [htl,hdl] at hst
   rw [htl] at hr3
   rw [htl]
   rw [←hko] at hr3
   have hek:bj 0 (r.objs.filter kf)=aU (r.keepO ks):=by rw [hko,iJ]
   rw [hek]
   have hkw:=pL hwf ks
   have hkb:=dv hkw hwf.w0
   have hkc:=jm hkw
   have hle:aU (r.keepO ks)<=aU r.objs:=by
    rcases List.eq_nil_or_concat (r.keepO ks) with he | ⟨m,x,he⟩
    ·rw [he];simpa [aU] using hen.1
    ·simp only [List.concat_eq_append] at he
     have hx:x∈r.keepO ks:=by rw [he];simp
     rw [hko] at hx
     obtain ⟨o,g1,g2,g3⟩:=li _ 0 hst.wfd (fun o ho=>(hst.wfd.good o ho).pl) x hx
     have hxl:x.len=o.len:=by rw [g2];rfl
     have:=jz hwf.objs (List.mem_filter.1 g1).1
     rw [he,cr];omega
   have hkl:((r.keepO ks).length:Int)<=r.objs.length:=by
    rw [hko,nu]
    have:=List.length_filter_le kf r.objs
    omega
   simp only [af,cond_true,cond_false,Option.isNone_some,Option.isNone_none,aH,aC,aR,aL,aF,aN,aM,aB,aO,aP,aG,aQ,and_assoc,true_and,and_true,al,Nat.zero_add,Nat.mul_one,aq,ao,aA,Bool.not_true,Bool.not_false,aX,aY,hr3.c0,hr3.c4]
   refine ⟨by omega,by omega,by omega,by omega,?_⟩
   refine jy hs1 hr3.mw (by omega) (by omega) fun H4 hm4 hs4 hk4=>?_
   have hr4:Raw H4 hb wb tb bb r.words.toNat (r.oops+1).toNat ⟨fun i=>if aU (r.keepO ks)<=i∧i<aU (r.keepO ks)+(((aU r.objs).toNat-(aU (r.keepO ks)).toNat:Nat):Int) then 0 else W' i,T',B,((r.keepO ks).length:Int)+((r.objs.length-r.objs.length:Nat):Int),aU r.objs,low',r.mark,r.born,r.turn⟩:=⟨hr3.hd.of_eq (hk4 _ hne.1.1),hm4,hr3.mt.of_eq (hk4 _ hne.2.1.1.symm),hr3.mb.of_eq (hk4 _ hne.2.1.2.1.symm),hr3.d⟩
   have hf4:Fr [hb,wb,tb,bb] H2 H4:=hf3.trans ⟨by omega,fun b _ hn=>hk4 b fun e=>hn (by simp [e])⟩
   have hr5:=hr4.set4 (aU (r.keepO ks))
   have hr6:=hr5.set8 (IntKind.wrap .i64 (r.turn+1))
   simp only [af,cond_true,cond_false,Option.isNone_some,Option.isNone_none,aH,aC,aR,aL,aF,aN,aM,aB,aO,aP,aG,aQ,and_assoc,true_and,and_true,al,Nat.zero_add,Nat.mul_one,aq,ao,aA,Bool.not_true,Bool.not_false,aX,aY,hr5.c8,hr6.c3]
   have e7:IntKind.wrap .i64 ((r.objs.length:Int)-(((r.keepO ks).length:Int)+((r.objs.length-r.objs.length:Nat):Int)))=(r.objs.length:Int)-((r.keepO ks).length:Int):=by rw [ah (by omega) (by omega)];omega
   have e8:IntKind.wrap .i64 (aU r.objs-aU (r.keepO ks))=aU r.objs-aU (r.keepO ks):=ah (by omega) (by omega)
   rw [e7,e8]
   have hf6:Fr [hb,wb,tb,bb] H (av (av H4 ⟨hb,4,none⟩ (.int .i64 (aU (r.keepO ks)))) ⟨hb,8,none⟩ (.int .i64 (IntKind.wrap .i64 (r.turn+1)))):=((hsub hf4).step (by simp)).step (by simp)
   refine ⟨hr4.wrh (by decide),hr5.wrh (by decide),h _ ⟨wb,tb,bb,_,_,_,_,rfl,hr6.phs (hR.kinds.fr hf6 hR0.gk) hwf2 (r:={ r with objs:=r.keepO ks,turn:=IntKind.wrap .i64 (r.turn+1) }) ?_ rfl rfl (by simp) rfl rfl rfl rfl⟩ hf6⟩
   have hst2:KeepSt W r.words r.oops kf r.objs [] (fun i=>if aU (r.keepO ks)<=i∧i<aU (r.keepO ks)+(((aU r.objs).toNat-(aU (r.keepO ks)).toNat:Nat):Int) then 0 else W' i) T' low' :=
    { wf:=hst.wf,regK:=fun x hx=>by
       obtain ⟨o,g1,g2,g3⟩:=hst.regK x hx
       refine ⟨o,g1,g2,fun i h0 h1=>?_⟩
       have hx':x∈r.keepO ks:=by rw [hko];exact hx
       have:=jz hkw hx'
       have hxl:x.len=o.len:=by rw [g2];rfl
       rw [if_neg (by omega)]
       exact g3 i h0 h1
      regR:=fun y hy=>by cases hy
      tab:=hst.tab,low1:=hst.low1,low2:=hst.low2,low3:=hst.low3 }
   have:=Ay hR.sim hst2 (tn:=IntKind.wrap .i64 (r.turn+1))
   rw [←hko] at this
   exact this
end
end Go.Proofs.YtgjfejoohojokaaGreatDoor
namespace Kw
open Go Go.Proofs Go.Shelf Go.Sort Go.RowKit Go.Lib
variable {P:Program}{α:Type} [Inhabited α]
theorem qt {enc:α->Value}{w:World}{b:Nat}{d:Array α}{cs:Array Value}{t:TypeId}{fr:Nat × Nat} (hb:w.heap[b]?=some (.cells cs t fr)) :
  (putRow enc w b 0 d).heap[b]?=some (.cells (putCells enc 0 d cs) t fr)∧(putRow enc w b 0 d).heap.size=w.heap.size∧∀ b',b'≠b->(putRow enc w b 0 d).heap[b']?=w.heap[b']?:=by
 refine ⟨?_,by simp [putRow,mapBlock],fun b' hn=>?_⟩
 ·simp only [putRow,mapBlock,Array.getElem?_modify,if_true,hb,Option.map_some]
  rfl
 ·simp only [putRow,mapBlock,Array.getElem?_modify]
  rw [if_neg (Ne.symm hn)]
theorem gI {enc:α->Value}{w:World}{b m:Nat}{d:Array α}{os:Array Obj}{cs:Array Value}{t:TypeId}{fr:Nat × Nat} (hb:w.heap[b]?=some (.cells cs t fr)) :
  (sortWorld enc w b 0 m d os).heap[b]?=some (.cells (putCells enc 0 d cs) t fr)∧Fr [b] w.heap (sortWorld enc w b 0 m d os).heap:=by
 have h:=qt (enc:=enc) (w:=Sort.ahead w m) (d:=d) (b:=b) (cs:=cs) (t:=t) (fr:=fr) hb
 have hlt:b<w.heap.size:=(Array.getElem?_eq_some_iff.1 hb).1
 have hs:(Sort.ahead w m).heap.size=w.heap.size:=rfl
 unfold sortWorld Sort.grow
 refine ⟨?_,?_,fun b' hb' hn=>?_⟩
 ·simp only
  rw [Array.getElem?_append_left (by rw [h.2.1];exact hlt)]
  exact h.1
 ·simp only [Array.size_append];rw [h.2.1];exact Nat.le_add_right _ _
 ·simp only
  rw [Array.getElem?_append_left (by rw [h.2.1];exact hb')]
  exact h.2.2 b' (by simpa using hn)
theorem lc {ρ:Ren} (L:SlLaysF.n6 P ρ) (enc:α->Int) (cf:α->α->Int) (hO:SWO (ltOf cf)) (hT:∀ x y,(ltOf cf) x y=false->(ltOf cf) y x=false->x=y){g:Nat}{cb:Array Value}
  (hfn:∃ fn,P.funcs[ρ.f 6]?=some fn∧fn.body.isSome=true) (eg:∀ args w,(callFunc g args).run P w=.ok (.enter g args) w){b l c:Nat}{H:ae}{d:List α}{Q:Value->ae->Prop} (ho:bK 1 H (some ⟨b,0,none⟩) l c (ag (d.map enc)) [b]) (hsz:l<4611686018427387904)
  (hcl:∀ x y H',Fr [b] H H'->ac P g (#[.int .i64 (enc x),.int .i64 (enc y)]++cb) (fun v H''=>v=.int .i64 (cf x y)∧H''=H') H')
  (h:∀ H',bK 1 H' (some ⟨b,0,none⟩) l c (ag ((d.mergeSort fun x y=>!(ltOf cf) y x).map enc)) [b]->Fr [b] H H'->Q (.tuple #[]) H') :
  ac P (ρ.f 6) #[.slice (some ⟨b,0,none⟩) l c,.func (.func g) #[] cb] Q H:=by
 refine ⟨hfn,?_⟩
 intro w hw
 subst hw
 rcases ho.2.2 with ⟨h0,_,_⟩ | ⟨b',cs,hb1,_,⟨t,hbk⟩,hcs,htk⟩
 ·cases h0
 cases hb1
 have hl:l=d.length:=by have:=ho.1;simpa [ag] using this.symm
 subst hl
 have hdl:(d.toArray).size=d.length:=by simp
 have hle:d.length<=c:=ho.2.1
 have hcell:∀ j,j<d.length->cs[j]?=some (.int .i64 (enc d.toArray[j]!)):=by
  intro j hj
  have h1:(cs.toList.take (d.length*1))[j]?=(ag (d.map enc))[j]?:=by rw [htk]
  rw [List.getElem?_take_of_lt (by omega)] at h1
  rw [←Array.getElem?_toList,h1]
  simp [ag,hj]
 have hH:Go.Sort.Holds (fun x=>Value.int .i64 (enc x)) w b 0 d.toArray:=by
  intro j hj
  rw [hdl] at hj
  refine ⟨?_,?_⟩
  ·rw [Nat.zero_add,←hcell j hj]
   unfold World.cell?
   simp only [hbk]
   rfl
  ·unfold World.frozen?
   simp only [hbk]
   simp
 have hS0:=Any.slices_SortFunc L (fun x=>Value.int .i64 (enc x)) (fun _=>rfl) cf hO g cb b 0 c d.toArray w eg (fun m os dk hdk x y=>?_) hH (Array.getElem?_eq_some_iff.1 hbk).1 (by simpa using hsz)
 ·rw [hdl] at hS0
  refine hS0.mono ?_
  rintro e w' ⟨rfl,d',n,os,hp,hs,rfl⟩
  have hd':d'=(d.mergeSort fun x y=>!(ltOf cf) y x).toArray:=by
   have h1:=sorted_unique_holds hO hT d.toArray d' (by simpa using hp) (by simpa using hs)
   rw [←h1]
  subst hd'
  have hh:=gI (enc:=fun x=>Value.int .i64 (enc x)) (m:=n) (os:=os) (d:=(d.mergeSort fun x y=>!(ltOf cf) y x).toArray) hbk
  refine ⟨_,rfl,h _ ⟨by simp [ag,List.length_mergeSort],hle,.inr ⟨b,_,rfl,rfl,⟨t,hh.1⟩,by simp [putCells,hcs],?_⟩⟩ hh.2,rfl,rfl,rfl,?_⟩
  ·apply List.ext_getElem
   ·simp [ag,putCells,List.length_mergeSort];omega
   ·intro j h1 h2
    have hj:j<d.length:=by simpa [ag,List.length_mergeSort] using h2
    have hj2:j<(d.mergeSort fun x y=>!(ltOf cf) y x).length:=by rw [List.length_mergeSort];exact hj
    simp only [List.getElem_take,ag,List.getElem_map,Array.getElem_toList,putCells,Array.getElem_mapIdx,Nat.zero_le,true_and,Nat.zero_add,List.size_toArray,List.length_mergeSort,hj,if_true,Nat.sub_zero]
    congr 2
    rw [List.getElem!_toArray,List.getElem!_eq_getElem?_getD,List.getElem?_eq_getElem hj2]
    rfl
  ·refine ⟨by show w.drawn<=w.drawn+n;omega,hh.2.1,fun b' ds hb'=>?_⟩
   have hlt':b'<w.heap.size:=(Array.getElem?_eq_some_iff.1 hb').1
   have hne:b'≠b:=fun e=>by subst e;rw [hbk] at hb';cases hb'
   exact (hh.2.2 b' hlt' (by simpa using hne)).trans hb'
 ·have hh:=gI (enc:=fun x=>Value.int .i64 (enc x)) (m:=m) (os:=os) (d:=dk) hbk
  refine ((hcl x y _ hh.2).2 _ rfl).mono ?_
  rintro e w' ⟨v,rfl,⟨rfl,hheap⟩,h1,h2,h3,h4,h5⟩
  refine ⟨rfl,w'.drawn-(sortWorld (fun x=>Value.int .i64 (enc x)) w b 0 m dk os).drawn,#[],?_⟩
  rw [Sort.grow_empty]
  cases w'
  simp only at hheap h1 h2 h3 h4
  subst hheap;subst h1;subst h2;subst h3
  rename_i dr
  have e:dr=(sortWorld (fun x=>Value.int .i64 (enc x)) w b 0 m dk os).drawn+(dr-(sortWorld (fun x=>Value.int .i64 (enc x)) w b 0 m dk os).drawn):=by omega
  unfold World.drewN
  show World.mk _ _ _ _ _=World.mk _ _ _ _ _
  congr 1
end Kw
namespace Go.Proofs
open Go.Shelf
def Tryz.sortL_ren:Go.Shelf.Ren:=⟨fun | 6=>284 | 15=>282 | 14=>350 | 28=>348 | 29=>349 | 20=>374 | 21=>375 | 22=>376 | 23=>377 | 24=>378 | 25=>379 | 26=>380 | 27=>381 | 46=>392 | 47=>370 | 48=>371 | 49=>393 | 50=>394 | 57=>398 | n=>n,fun | 22=>25 | 24=>3 | 25=>182 | 3=>3 | 39=>79 | 0=>0 | 53=>286 | 55=>288 | 4=>4 | 46=>280 | 45=>279 | 50=>180 | 5=>5 | 9=>9 | 66=>313 | 70=>317 | 76=>329 | 77=>88 | n=>n,fun | n=>n⟩
theorem Tryz.sortL:Go.Proofs.SlLaysF.n6 Tryz.prog Tryz.sortL_ren:={
 mixed:=by kernel_rfl
 f6:=⟨Tryz.f284.name,by decide,Tryz.func284.trans (congrArg some (by kernel_rfl))⟩
 f14:=⟨Tryz.f350.name,by decide,Tryz.func350.trans (congrArg some (by kernel_rfl))⟩
 f15:=Tryz.func282.trans (congrArg some (by kernel_rfl))
 f20:=⟨Tryz.f374.name,by decide,Tryz.func374.trans (congrArg some (by kernel_rfl))⟩
 f21:=⟨Tryz.f375.name,by decide,Tryz.func375.trans (congrArg some (by kernel_rfl))⟩
 f22:=⟨Tryz.f376.name,by decide,Tryz.func376.trans (congrArg some (by kernel_rfl))⟩
 f23:=⟨Tryz.f377.name,by decide,Tryz.func377.trans (congrArg some (by kernel_rfl))⟩
 f24:=⟨Tryz.f378.name,by decide,Tryz.func378.trans (congrArg some (by kernel_rfl))⟩
 f25:=⟨Tryz.f379.name,by decide,Tryz.func379.trans (congrArg some (by kernel_rfl))⟩
 f26:=⟨Tryz.f380.name,by decide,Tryz.func380.trans (congrArg some (by kernel_rfl))⟩
 f27:=⟨Tryz.f381.name,by decide,Tryz.func381.trans (congrArg some (by kernel_rfl))⟩
 f28:=Tryz.func348.trans (congrArg some (by kernel_rfl))
 f29:=Tryz.func349.trans (congrArg some (by kernel_rfl))
 f46:=⟨Tryz.f392.name,by decide,Tryz.func392.trans (congrArg some (by kernel_rfl))⟩
 f47:=Tryz.func370.trans (congrArg some (by kernel_rfl))
 f48:=Tryz.func371.trans (congrArg some (by kernel_rfl))
 f49:=⟨Tryz.f393.name,by decide,Tryz.func393.trans (congrArg some (by kernel_rfl))⟩
 f50:=⟨Tryz.f394.name,by decide,Tryz.func394.trans (congrArg some (by kernel_rfl))⟩
 f57:=⟨Tryz.f398.name,by decide,Tryz.func398.trans (congrArg some (by kernel_rfl))⟩
 t0:=Tryz.underlying0
 a0:=Tryz.isAgg0
 z0:=Tryz.sizeOf0
 v0:=Tryz.zeroValue0
 t3:=Tryz.underlying3
 a3:=Tryz.isAgg3
 z3:=Tryz.sizeOf3
 v3:=Tryz.zeroValue3
 t4:=Tryz.underlying4
 a4:=Tryz.isAgg4
 z4:=Tryz.sizeOf4
 v4:=Tryz.zeroValue4
 t5:=Tryz.underlying5
 a5:=Tryz.isAgg5
 z5:=Tryz.sizeOf5
 v5:=Tryz.zeroValue5
 t9:=Tryz.underlying9
 a9:=Tryz.isAgg9
 z9:=Tryz.sizeOf9
 v9:=Tryz.zeroValue9
 t22:=Tryz.underlying25
 a22:=Tryz.isAgg25
 z22:=Tryz.sizeOf25
 v22:=Tryz.zeroValue25
 a24:=Tryz.isAgg3
 z24:=Tryz.sizeOf3
 t25:=Tryz.underlying182
 a25:=Tryz.isAgg182
 z25:=Tryz.sizeOf182
 v25:=Tryz.zeroValue182
 t39:=Tryz.underlying79
 a39:=Tryz.isAgg79
 z39:=Tryz.sizeOf79
 v39:=Tryz.zeroValue79
 t45:=Tryz.underlying279
 a45:=Tryz.isAgg279
 z45:=Tryz.sizeOf279
 v45:=Tryz.zeroValue279
 t46:=Tryz.underlying280
 a46:=Tryz.isAgg280
 z46:=Tryz.sizeOf280
 v46:=Tryz.zeroValue280
 t50:=Tryz.underlying180
 a50:=Tryz.isAgg180
 z50:=Tryz.sizeOf180
 v50:=Tryz.zeroValue180
 t53:=Tryz.underlying286
 a53:=Tryz.isAgg286
 z53:=Tryz.sizeOf286
 v53:=Tryz.zeroValue286
 t55:=Tryz.underlying288
 a55:=Tryz.isAgg288
 z55:=Tryz.sizeOf288
 v55:=Tryz.zeroValue288
 t66:=Tryz.underlying313
 a66:=Tryz.isAgg313
 z66:=Tryz.sizeOf313
 v66:=Tryz.zeroValue313
 t70:=Tryz.underlying317
 a70:=Tryz.isAgg317
 z70:=Tryz.sizeOf317
 v70:=Tryz.zeroValue317
 t76:=Tryz.underlying329
 a76:=Tryz.isAgg329
 z76:=Tryz.sizeOf329
 v76:=Tryz.zeroValue329
 t77:=Tryz.underlying88
 a77:=Tryz.isAgg88
 z77:=Tryz.sizeOf88
 v77:=Tryz.zeroValue88 }
def Tryz.sortI_ren:Go.Shelf.Ren:=⟨fun | 189=>167 | 125=>282 | 257=>281 | 128=>348 | 129=>349 | 294=>340 | 295=>341 | 296=>342 | 297=>343 | 298=>344 | 299=>345 | 216=>246 | 300=>346 | 301=>347 | 328=>369 | 329=>370 | 330=>371 | 331=>372 | 332=>373 | 215=>317 | 343=>391 | n=>n,fun | 28=>25 | 3=>3 | 46=>79 | 0=>0 | 51=>286 | 53=>288 | 4=>4 | 183=>280 | 182=>279 | 131=>180 | 5=>5 | 9=>9 | 218=>313 | 222=>317 | 228=>329 | 229=>88 | n=>n,fun | n=>n⟩
theorem Tryz.sortI:Go.Proofs.Lays.n189 Tryz.prog Tryz.sortI_ren:={
 mixed:=by kernel_rfl
 f125:=Tryz.func282.trans (congrArg some (by kernel_rfl))
 f128:=Tryz.func348.trans (congrArg some (by kernel_rfl))
 f129:=Tryz.func349.trans (congrArg some (by kernel_rfl))
 f189:=Tryz.func167.trans (congrArg some (by kernel_rfl))
 f215:=Tryz.func317.trans (congrArg some (by kernel_rfl))
 f216:=Tryz.func246.trans (congrArg some (by kernel_rfl))
 f257:=Tryz.func281.trans (congrArg some (by kernel_rfl))
 f294:=Tryz.func340.trans (congrArg some (by kernel_rfl))
 f295:=Tryz.func341.trans (congrArg some (by kernel_rfl))
 f296:=Tryz.func342.trans (congrArg some (by kernel_rfl))
 f297:=Tryz.func343.trans (congrArg some (by kernel_rfl))
 f298:=Tryz.func344.trans (congrArg some (by kernel_rfl))
 f299:=Tryz.func345.trans (congrArg some (by kernel_rfl))
 f300:=Tryz.func346.trans (congrArg some (by kernel_rfl))
 f301:=Tryz.func347.trans (congrArg some (by kernel_rfl))
 f328:=Tryz.func369.trans (congrArg some (by kernel_rfl))
 f329:=Tryz.func370.trans (congrArg some (by kernel_rfl))
 f330:=Tryz.func371.trans (congrArg some (by kernel_rfl))
 f331:=Tryz.func372.trans (congrArg some (by kernel_rfl))
 f332:=Tryz.func373.trans (congrArg some (by kernel_rfl))
 f343:=Tryz.func391.trans (congrArg some (by kernel_rfl))
 t0:=Tryz.underlying0
 a0:=Tryz.isAgg0
 z0:=Tryz.sizeOf0
 v0:=Tryz.zeroValue0
 t3:=Tryz.underlying3
 a3:=Tryz.isAgg3
 z3:=Tryz.sizeOf3
 v3:=Tryz.zeroValue3
 t4:=Tryz.underlying4
 a4:=Tryz.isAgg4
 z4:=Tryz.sizeOf4
 v4:=Tryz.zeroValue4
 t5:=Tryz.underlying5
 a5:=Tryz.isAgg5
 z5:=Tryz.sizeOf5
 v5:=Tryz.zeroValue5
 t9:=Tryz.underlying9
 a9:=Tryz.isAgg9
 z9:=Tryz.sizeOf9
 v9:=Tryz.zeroValue9
 t28:=Tryz.underlying25
 a28:=Tryz.isAgg25
 z28:=Tryz.sizeOf25
 v28:=Tryz.zeroValue25
 t46:=Tryz.underlying79
 a46:=Tryz.isAgg79
 z46:=Tryz.sizeOf79
 v46:=Tryz.zeroValue79
 t51:=Tryz.underlying286
 a51:=Tryz.isAgg286
 z51:=Tryz.sizeOf286
 v51:=Tryz.zeroValue286
 t53:=Tryz.underlying288
 a53:=Tryz.isAgg288
 z53:=Tryz.sizeOf288
 v53:=Tryz.zeroValue288
 t131:=Tryz.underlying180
 a131:=Tryz.isAgg180
 z131:=Tryz.sizeOf180
 v131:=Tryz.zeroValue180
 t182:=Tryz.underlying279
 a182:=Tryz.isAgg279
 z182:=Tryz.sizeOf279
 v182:=Tryz.zeroValue279
 t183:=Tryz.underlying280
 a183:=Tryz.isAgg280
 z183:=Tryz.sizeOf280
 v183:=Tryz.zeroValue280
 t218:=Tryz.underlying313
 a218:=Tryz.isAgg313
 z218:=Tryz.sizeOf313
 v218:=Tryz.zeroValue313
 t222:=Tryz.underlying317
 a222:=Tryz.isAgg317
 z222:=Tryz.sizeOf317
 v222:=Tryz.zeroValue317
 t228:=Tryz.underlying329
 a228:=Tryz.isAgg329
 z228:=Tryz.sizeOf329
 v228:=Tryz.zeroValue329
 t229:=Tryz.underlying88
 a229:=Tryz.isAgg88
 z229:=Tryz.sizeOf88
 v229:=Tryz.zeroValue88 }
end Go.Proofs
namespace Go.Proofs.YtgjfejoohojokaaGreatDoor
open Kw Go.Sort
theorem vA {H:ae}{hb:Nat}{r:RH}{Q:QT}{F:az} (hbp:nQ hb r) (hR:bW H hb F r){a2:Option Addr}{l2 c2:Nat}{ks:List Int} (hk:Rd 1 H a2 l2 (ag ks)) (hd:∀ p,a2=some p->p.block∉F) (hlk:l2<=1099511627776)
  (h:∀ H',bW H' hb F (r.keep ks).2->Fr F H H'->Q (mY (r.keep ks).1) H'):ac PP A5 #[.pointer (some ⟨hb,0,none⟩),.slice a2 l2 c2] Q H:=Dj hR hbp hk hd hlk h
def dH (r:RH) (k:Int):Int:=match am r.objs k with
 | some o=>o.place
 | none=>-1
abbrev fL (r:RH):Type:={ k:Int // am r.objs k≠none∨k=0 }
instance (r:RH):Inhabited (fL r):=⟨⟨0,.inr rfl⟩⟩
theorem qn {r:RH} (hw:WFH r){x y:fL r} (h:dH r x.1=dH r y.1):x=y:=by
 have h0:∀ z:fL r,am r.objs z.1=none->z.1=0:=fun z hz=>z.2.resolve_left fun hn=>hn hz
 have hp:∀ z o,am r.objs z=some o->o∈r.objs∧o.oop=z∧0<=o.place:=fun z o ho=>⟨(au ho).1,(au ho).2,(hw.objs.good o (au ho).1).pl⟩
 apply Subtype.ext
 unfold dH at h
 cases hx:am r.objs x.1 with
 | none =>
  cases hy:am r.objs y.1 with
  | none=>rw [h0 x hx,h0 y hy]
  | some o=>rw [hx,hy] at h;have:=(hp _ o hy).2.2;simp only at h;omega
 | some o =>
  cases hy:am r.objs y.1 with
  | none=>rw [hx,hy] at h;have:=(hp _ o hx).2.2;simp only at h;omega
  | some o' =>
   rw [hx,hy] at h
   simp only at h
   obtain ⟨k1,k2,k3⟩:=hp _ o hx
   obtain ⟨k4,k5,k6⟩:=hp _ o' hy
   refine Classical.byContradiction fun hne=>?_
   have:=o.len_pos
   have:=o'.len_pos
   rcases apart hw.objs k1 k4 (by rw [k2,k5];exact hne) with h1 | h1 <;> omega
def ut (r:RH) (x y:fL r):Int:=dH r x.1-dH r y.1
theorem iY {r:RH} (x y:fL r):ltOf (ut r) x y=decide (dH r x.1<dH r y.1):=by
 unfold ltOf ut
 by_cases h:dH r x.1<dH r y.1
 ·simp [h];omega
 ·simp [h];omega
theorem qs {r:RH} (hw:WFH r){d:List (fL r)} (hd:d.map (·.1)=r.all):(d.mergeSort fun x y=>!(ltOf (ut r)) y x).map (·.1)=r.objs.map (·.oop):=by
 have hmem:∀ o∈r.objs,am r.objs o.oop≠none∨o.oop=0:=fun o ho=>.inl (by rw [ch hw.objs ho];simp)
 obtain ⟨t,ht⟩:∃ t:List (fL r),t.map (·.1)=r.objs.map (·.oop):=⟨r.objs.attach.map fun o=>⟨o.1.oop,hmem o.1 o.2⟩,by
  simp only [List.map_map]
  exact List.attach_map_val (f:=fun o:RO=>o.oop) (l:=r.objs)⟩
 have hle:∀ x y:fL r,(!(ltOf (ut r)) y x)=decide (dH r x.1<=dH r y.1):=fun x y=>by
  rw [iY]
  by_cases h:dH r y.1<dH r x.1
  ·simp [h]
  ·simp [h];omega
 rw [←ht]
 congr 1
 have hfun:(fun x y:fL r=>!(ltOf (ut r)) y x)=fun x y=>decide (dH r x.1<=dH r y.1):=by funext x y;exact hle x y
 rw [hfun]
 have hnd:d.Nodup:=by
  have h1:(r.all).Nodup:=by
   unfold RH.all RH.upto
   exact (List.nodup_range.map (fun (i:Nat)=>(i:Int)) fun a b hab h=>hab (by omega)).filter _
  rw [←hd] at h1
  rw [List.nodup_iff_pairwise_ne,List.pairwise_map] at h1
  exact List.nodup_iff_pairwise_ne.2 (h1.imp fun h e=>h (congrArg _ e))
 have hnt:t.Nodup:=by
  have h1:(r.objs.map (·.oop)).Nodup:=by
   rw [List.nodup_iff_pairwise_ne,List.pairwise_map]
   exact hw.objs.pw.imp fun h=>h.1
  rw [←ht] at h1
  rw [List.nodup_iff_pairwise_ne,List.pairwise_map] at h1
  exact List.nodup_iff_pairwise_ne.2 (h1.imp fun h e=>h (congrArg _ e))
 have hperm:d.Perm t:=by
  rw [List.perm_ext_iff_of_nodup hnd hnt]
  intro x
  have e1:x∈d↔x.1∈r.all:=by
   rw [←hd,List.mem_map]
   constructor
   ·exact fun h=>⟨x,h,rfl⟩
   ·rintro ⟨y,hy,he⟩;rw [←Subtype.ext he];exact hy
  have e2:x∈t↔x.1∈r.objs.map (·.oop):=by
   rw [←ht,List.mem_map]
   constructor
   ·exact fun h=>⟨x,h,rfl⟩
   ·rintro ⟨y,hy,he⟩;rw [←Subtype.ext he];exact hy
  rw [e1,e2,RH.mem_all hw,List.mem_map]
  constructor
  ·intro h
   cases ho:am r.objs x.1 with
   | none=>exact absurd ho h
   | some o=>exact ⟨o,(au ho).1,(au ho).2⟩
  ·rintro ⟨o,ho,he⟩
   rw [←he,ch hw.objs ho];simp
 have hs1:=List.pairwise_mergeSort (le:=fun x y:fL r=>decide (dH r x.1<=dH r y.1)) (fun a b c h1 h2=>by simp at *;omega) (fun a b=>by simp;omega) d
 have hs2:t.Pairwise fun x y=>decide (dH r x.1<=dH r y.1)=true:=by
  have h1:(r.objs.map fun o=>dH r o.oop).Pairwise (·<=·):=by
   rw [List.pairwise_map]
   have h2:∀ o∈r.objs,dH r o.oop=o.place:=fun o ho=>by unfold dH;rw [ch hw.objs ho]
   refine List.Pairwise.imp_of_mem ?_ hw.objs.pw
   intro a b ha hb hab
   rw [h2 a ha,h2 b hb]
   have:=hab.2
   have:=a.len_pos
   omega
  have h2:(t.map fun x=>dH r x.1)=r.objs.map fun o=>dH r o.oop:=by
   have:=congrArg (List.map (dH r)) ht
   rw [List.map_map,List.map_map] at this
   exact this
  rw [←h2,List.pairwise_map] at h1
  exact h1.imp fun h=>by simpa using h
 exact List.Perm.eq_of_pairwise (fun a b _ _ h1 h2=>qn hw (by simp at h1 h2;omega)) hs1 hs2 ((List.mergeSort_perm d _).trans hperm)
theorem tC (hb:Nat) (r:RH):nQ hb r:=by
 intro H wb tb bb W T B low Q hR h
 have hw:=hR.wf
 have ho0:=hw.o0
 have ho1:=hw.o1
 apply Ai
 unfold Io A0 pV lV cS
 have hgk:ax<H.size:=by
  have h0:=hR.kinds.1
  unfold aa at h0
  rcases Nat.lt_or_ge ax H.size with h1 | h1
  ·exact h1
  ·simp only [Array.getElem?_eq_none h1] at h0;cases h0
 have hfp:Fr [] H (H.push (.cells #[.pointer (some ⟨hb,0,none⟩)] 66)):=Fr.push _ _ _
 obtain ⟨wb',tb',bb',W',T',B',low',e,hR1'⟩:=hR.rep.fr hfp (cA.nil_right _) (by simp)
 have hR1:PHs (H.push (.cells #[.pointer (some ⟨hb,0,none⟩)] 66)) hb wb tb bb W T B low r:={ hR with hd:=hR.hd.push _,mw:=hR.mw.push _,mt:=hR.mt.push _,mb:=hR.mb.push _,kinds:=hR1'.kinds }
 simp only [af,cond_true,cond_false,Option.isNone_some,Option.isNone_none,aH,aC,aR,aL,aF,aN,aM,aB,aO,aP,aG,aQ,and_assoc,true_and,and_true,al,Nat.zero_add,Nat.mul_one,aq,ao,aA,Bool.not_true,Bool.not_false,aX,aY,List.setIfInBounds_toArray,List.set_cons_zero,List.set_cons_succ,List.size_toArray,List.length_cons,List.length_nil,List.getElem?_toArray,List.getElem?_cons_succ,List.getElem?_cons_zero]
 refine Kc hR1 fun a l c F H1 ho hf hF hFn=>?_
 simp only [af,cond_true,cond_false,Option.isNone_some,Option.isNone_none,aH,aC,aR,aL,aF,aN,aM,aB,aO,aP,aG,aQ,and_assoc,true_and,and_true,al,Nat.zero_add,Nat.mul_one,aq,ao,aA,Bool.not_true,Bool.not_false,aX,aY]
 have hlt:=ho.lt
 have hcap:aa H1 ⟨H.size,0,none⟩=some (.pointer (some ⟨hb,0,none⟩)):=((aV.new H #[.pointer (some ⟨hb,0,none⟩)] 66).fr hf (by simp)).cell 0
 have hlen:=ho.len
 simp only [ag,List.length_map] at hlen
 have hul:=r.upto_len (r.oops+1).toNat
 let d:List (fL r):=r.all.attach.map fun k=>⟨k.1,.inl ((RH.mem_all hw).1 k.2)⟩
 have hd:d.map (·.1)=r.all:=by
  simp only [d,List.map_map]
  exact List.attach_map_val (f:=fun k:Int=>k) (l:=r.all) |>.trans (List.map_id _)
 rcases ho.2.2 with ⟨ha,hc,hF0⟩ | ⟨b,cs,ha,hF0,_⟩
 ·exact absurd hF0 hFn
 ·subst ha;subst hF0
  have hbs:b≠H.size:=by
   have:=hF b (by simp)
   simp only [Array.size_push] at this
   omega
  have hbt:∀ x∈[hb,wb,tb,bb],x∉[b]:=fun x hx hn=>by
   simp only [List.mem_singleton] at hn
   have h1:=hF b (by simp)
   have h2:=hR.rep.lt x hx
   simp only [Array.size_push] at h1
   omega
  have hsz:l<4611686018427387904:=by
   have h1:r.all.length<=(r.oops+1).toNat:=hul
   omega
  refine lc (α:=fL r) Tryz.sortL (fun x=>x.1) (ut r) ?_ ?_ ⟨_,Tryz.func284,rfl⟩ (enters_of Tryz.func285 (by kernel_rfl) rfl) (d:=d) (by rw [hd];exact ho) hsz (fun x y H2 hf2=>?_) fun H2 ho2 hf2=>?_
  ·refine ⟨fun x=>?_,fun x y z h1 h2=>?_,fun x y z h1 h2=>?_⟩
   ·rw [iY];simp
   ·rw [iY] at *;simp at *;omega
   ·rw [iY] at *;simp at *;omega
  ·intro x y h1 h2
   rw [iY] at h1 h2
   simp at h1 h2
   exact qn hw (by omega)
  ·have hR2:Raw H2 hb wb tb bb r.words.toNat (r.oops+1).toNat _:=(hR1.raw.keep hf (cA.nil_right _)).keep hf2 hbt
   have hcap2:aa H2 ⟨H.size,0,none⟩=some (.pointer (some ⟨hb,0,none⟩)):=(((aV.new H #[.pointer (some ⟨hb,0,none⟩)] 66).fr hf (by simp)).fr hf2 (by simp;omega)).cell 0
   have hrng:∀ z:fL r,0<=z.1∧z.1<=r.oops∧T z.1=dH r z.1∧-1<=dH r z.1∧dH r z.1<=r.words:=by
    intro z
    have hz:0<=z.1∧z.1<=r.oops:=by
     rcases z.2 with h1 | h1
     ·cases ho:am r.objs z.1 with
      | none=>exact absurd ho h1
      | some o =>
       have hg:=hw.objs.good o (au ho).1
       have h2:=hg.oop1
       have h3:=hg.oop2
       rw [(au ho).2] at h2 h3
       omega
     ·omega
    refine ⟨hz.1,hz.2,hR.sim.tab z.1 hz.1 hz.2,?_⟩
    unfold dH
    have hw0:=hw.w0
    cases ho:am r.objs z.1 with
    | none=>simp;omega
    | some o =>
     have hg:=hw.objs.good o (au ho).1
     have h2:=hg.pl
     have h3:=hg.fits
     have h4:=o.len_pos
     simp only;omega
   obtain ⟨x1,x2,x3,x4,x5⟩:=hrng x
   obtain ⟨y1,y2,y3,y4,y5⟩:=hrng y
   have hw1:=hw.w1
   show ac PP EL #[.int .i64 x.1,.int .i64 y.1,.pointer (some ⟨H.size,0,none⟩)] _ H2
   apply AM
   unfold FK iV wW pV lV
   simp only [af,cond_true,cond_false,Option.isNone_some,Option.isNone_none,aH,aC,aR,aL,aF,aN,aM,aB,aO,aP,aG,aQ,and_assoc,true_and,and_true,al,Nat.zero_add,Nat.mul_one,aq,ao,aA,Bool.not_true,Bool.not_false,aX,aY,hcap2,hR2.c1,hR2.tabc (i:=x.1) (by omega) (by omega),hR2.tabc (i:=y.1) (by omega) (by omega)]
   refine ⟨by omega,by omega,by omega,by omega,?_⟩
   rw [x3,y3,ah (by omega) (by omega)]
   rfl
  ·have hs:=qs hw hd
   rw [hs] at ho2
   refine ⟨rfl,h _ _ _ [b] H2 ho2 ⟨?_,fun x hx _=>?_⟩ (fun x hx=>?_)⟩
   ·exact Nat.le_trans (hfp.trans hf).1 hf2.1
   ·rw [hf2.2 x (Nat.lt_of_lt_of_le hx (hfp.trans hf).1) (fun hn=>by
     simp only [List.mem_singleton] at hn
     have:=hF b (by simp)
     simp only [Array.size_push] at this
     omega),(hfp.trans hf).2 x hx (by simp)]
   ·have:=hF x hx
    simp only [Array.size_push] at this
    omega
end Go.Proofs.YtgjfejoohojokaaGreatDoor
namespace Go.Proofs.YtgjfejoohojokaaGreatDoor
open Kw
variable {Q:QT}{H:ae}
abbrev Kv:Nat:=8
def k8 (p1:Option Addr) (n2:Int) (Q:QT) (H:ae):Prop :=
 ac PP 27 #[pV p1] (fun v3 H1=>∃ b4,v3=.bool b4∧cond b4 (Q (iV 2) H1) (cond (decide (n2<0)) (Q (iV 28) H1) (∃ q5,p1=some q5∧∃ a6 l6 c6,aa H1 (q5.add 2)=some (lV a6 l6 c6)∧cond (decide (n2 > (l6:Int))) (Q (iV 28) H1) (∃ q7,p1=some q7∧∃ a8 l8 c8,aa H1 (q7.add 2)=some (lV a8 l8 c8)∧∃ q9,p1=some q9∧∃ a10 l10 c10,aa H1 (q9.add 2)=some (lV a10 l10 c10)∧((0:Int)<=(wW ((l10:Int)-n2))∧(wW ((l10:Int)-n2))<=(c8:Int))∧∃ q11,p1=some q11∧Wr H1 (q11.add 2)∧True∧Q (iV 0) (av H1 (q11.add 2) (lV a8 (Int.toNat (wW ((l10:Int)-n2))) c8)))))) H
theorem Fn {p1:Option Addr}{n2:Int} (h:k8 p1 n2 Q H):ac PP 8 #[.pointer p1,.int .i64 n2] Q H :=
 okF Tryz.func8 rfl h
abbrev Gg:Nat:=10
def KU (p1:Option Addr) (Q:QT) (H:ae):Prop :=
 ac PP 27 #[pV p1] (fun v2 H1=>∃ b3,v2=.bool b3∧cond b3 (Q (.tuple #[iV 0,iV 0,iV 2]) H1) (∃ q4,p1=some q4∧∃ b5,aa H1 (q4.add 3)=some (.bool b5)∧cond b5 (Q (.tuple #[iV 0,iV 0,iV 25]) H1) (∃ q6,p1=some q6∧∃ p7,aa H1 q6=some (pV p7)∧cS 29 #[pV p1] (fun v8 H2=>∃ a9 l9 c9,v8=lV a9 l9 c9∧((aa H2 q6=some (pV p7)∧True)∧True)∧cS 28 #[pV p7,lV a9 l9 c9] (fun v10 H3=>∃ n11 n12 n13,v10=.tuple #[iV n11,iV n12,iV n13]∧True∧Q (.tuple #[iV n11,iV n12,iV n13]) H3) H2) H1))) H
theorem Cv {p1:Option Addr} (h:KU p1 Q H):ac PP 10 #[.pointer p1] Q H :=
 okF Tryz.func10 rfl h
abbrev Ih:Nat:=27
def LT (p1:Option Addr) (Q:QT) (H:ae):Prop :=
 cond (Option.isNone p1) (Q (.bool true) H) (∃ q2,p1=some q2∧∃ p3,aa H q2=some (pV p3)∧Q (.bool (Option.isNone p3)) H)
theorem D8 {p1:Option Addr} (h:LT p1 Q H):ac PP 27 #[.pointer p1] Q H :=
 okF Tryz.func27 rfl h
abbrev Iu:Nat:=28
def L8 (p1:Option Addr) (a2:Option Addr) (l2:Nat) (c2:Nat) (Q:QT) (H:ae):Prop :=
 ac PP 82 #[pV p1,lV a2 l2 c2] (fun v3 H1=>∃ a4 l4 c4 n5,v3=.tuple #[lV a4 l4 c4,iV n5]∧cond (n5 != 0) (Q (.tuple #[iV 0,iV 0,iV n5]) H1) (cS 83 #[pV p1,lV a4 l4 c4] (fun v6 H2=>∃ n7 n8 n9,v6=.tuple #[iV n7,iV n8,iV n9]∧Q (.tuple #[iV n7,iV n8,iV n9]) H2) H1)) H
theorem Ej {p1:Option Addr}{a2:Option Addr}{l2:Nat}{c2:Nat} (h:L8 p1 a2 l2 c2 Q H):ac PP 28 #[.pointer p1,.slice a2 l2 c2] Q H :=
 okF Tryz.func28 rfl h
abbrev KP:Nat:=29
def LK (p1:Option Addr) (Q:QT) (H:ae):Prop :=
 ∃ q2,p1=some q2∧∃ n3,aa H (q2.add 1)=some (iV n3)∧cS 84 #[iV n3] (fun v4 H1=>∃ n5 n6,v4=.tuple #[iV n5,iV n6]∧cond (n6 != 0) (∃ q7,p1=some q7∧∃ a8 l8 c8,aa H1 (q7.add 2)=some (lV a8 l8 c8)∧Q (lV a8 l8 c8) H1) (∃ q9,p1=some q9∧∃ a10 l10 c10,aa (H1.push (.cells #[iV n5] 26)) (q9.add 2)=some (lV a10 l10 c10)∧aK PP (Builtin.append_ #[30,30] 30 #[lV (some (A0 H1.size)) 1 1,lV a10 l10 c10]) (fun v11 H2=>∃ a12 l12 c12,v11=lV a12 l12 c12∧Q (lV a12 l12 c12) H2) (H1.push (.cells #[iV n5] 26)))) H
theorem BE {p1:Option Addr} (h:LK p1 Q H):ac PP 29 #[.pointer p1] Q H :=
 okF Tryz.func29 rfl h
abbrev su:Nat:=44
def K9 (p1:Option Addr) (Q:QT) (H:ae):Prop :=
 ac PP 27 #[pV p1] (fun v2 H1=>∃ b3,v2=.bool b3∧cond b3 (Q (pV none) H1) (∃ q4,p1=some q4∧∃ p5,aa H1 q4=some (pV p5)∧Q (pV p5) H1)) H
theorem vP {p1:Option Addr} (h:K9 p1 Q H):ac PP 44 #[.pointer p1] Q H :=
 okF Tryz.func44 rfl h
abbrev IY:Nat:=63
def Mg (p1:Option Addr) (Q:QT) (H:ae):Prop :=
 ac PP 27 #[pV p1] (fun v2 H1=>∃ b3,v2=.bool b3∧cond b3 (Q (lV none 0 0) H1) (∃ q4,p1=some q4∧∃ a5 l5 c5,aa H1 (q4.add 2)=some (lV a5 l5 c5)∧cS 124 #[lV a5 l5 c5] (fun v6 H2=>∃ a7 l7 c7,v6=lV a7 l7 c7∧cS 123 #[lV a7 l7 c7] (fun v8 H3=>∃ a9 l9 c9,v8=lV a9 l9 c9∧Q (lV a9 l9 c9) H3) H2) H1)) H
theorem EQ {p1:Option Addr} (h:Mg p1 Q H):ac PP 63 #[.pointer p1] Q H :=
 okF Tryz.func63 rfl h
abbrev FO:Nat:=69
def Mi (n1:Int) (n2:Int) (Q:QT) (H:ae):Prop :=
 ac PP 139 #[iV n1,iV n2] (fun v3 H1=>∃ p4 n5,v3=.tuple #[pV p4,iV n5]∧cond (n5 != 0) (Q (.tuple #[pV none,iV n5]) H1) (Q (.tuple #[pV (some (A0 H1.size)),iV 0]) (H1.push (.cells #[pV p4,iV 0,lV none 0 0,.bool false,pV none,iV 0,iV 0,iV 0] 72)))) H
theorem B8 {n1:Int}{n2:Int} (h:Mi n1 n2 Q H):ac PP 69 #[.int .i64 n1,.int .i64 n2] Q H :=
 okF Tryz.func69 rfl h
abbrev Hl:Nat:=74
def LQ (p1:Option Addr) (a2:Option Addr) (l2:Nat) (c2:Nat) (Q:QT) (H:ae):Prop :=
 ac PP 27 #[pV p1] (fun v3 H1=>∃ b4,v3=.bool b4∧cond b4 (Q (iV 2) H1) (cS 143 #[lV a2 l2 c2,.func (.func 144) #[] #[]] (fun v5 H2=>∃ b6,v5=.bool b6∧cond b6 (Q (iV 10) H2) (∃ q7,p1=some q7∧∃ a8 l8 c8,aa H2 (q7.add 2)=some (lV a8 l8 c8)∧cond (decide ((wW ((l8:Int)+(l2:Int))) > 65536)) (Q (iV 22) H2) (∃ q9,p1=some q9∧∃ a10 l10 c10,aa H2 (q9.add 2)=some (lV a10 l10 c10)∧aK PP (Builtin.append_ #[30,30] 30 #[lV a10 l10 c10,lV a2 l2 c2]) (fun v11 H3=>∃ a12 l12 c12,v11=lV a12 l12 c12∧∃ q13,p1=some q13∧Wr H3 (q13.add 2)∧Q (iV 0) (av H3 (q13.add 2) (lV a12 l12 c12))) H2))) H1)) H
theorem Dy {p1:Option Addr}{a2:Option Addr}{l2:Nat}{c2:Nat} (h:LQ p1 a2 l2 c2 Q H):ac PP 74 #[.pointer p1,.slice a2 l2 c2] Q H :=
 okF Tryz.func74 rfl h
abbrev Hy:Nat:=76
def L3 (p1:Option Addr) (n2:Int) (Q:QT) (H:ae):Prop :=
 ac PP 27 #[pV p1] (fun v3 H1=>∃ b4,v3=.bool b4∧cond b4 (Q (iV 2) H1) (∃ q5,p1=some q5∧∃ p6,aa H1 q5=some (pV p6)∧cS 54 #[pV p6,iV n2] (fun v7 H2=>∃ n8 n9,v7=.tuple #[iV n8,iV n9]∧cond (n9 != 0) (Q (iV n9) H2) (∃ q10,p1=some q10∧Wr H2 (q10.add 1)∧Q (iV 0) (av H2 (q10.add 1) (iV n2)))) H1)) H
theorem E8 {p1:Option Addr}{n2:Int} (h:L3 p1 n2 Q H):ac PP 76 #[.pointer p1,.int .i64 n2] Q H :=
 okF Tryz.func76 rfl h
abbrev Ks:Nat:=82
def LF (p1:Option Addr) (a2:Option Addr) (l2:Nat) (c2:Nat) (Q:QT) (H:ae):Prop :=
 shH (av ((H.push (.map #[] 0)).push (.cells #[.map none] 213)) (⟨(H.push (.map #[] 0)).size,0,none⟩:Addr) (.map (some H.size))) fun C1=>shH ((C1.push (.cells #[lV none 0 0] 25)).push (.cells #[.nilFunc] 214)) fun C2=>cond (Option.isNone p1) (∀ H1:ae,gD H.size H H1->Q (.tuple #[lV none 0 0,iV 2]) H1) (Wr ((H.push (.map #[] 0)).push (.cells #[.map none] 213)) (⟨(H.push (.map #[] 0)).size,0,none⟩:Addr)∧Wr C2 (⟨(C1.push (.cells #[lV none 0 0] 25)).size,0,none⟩:Addr)∧∃(I3:IT) (μ3:MT),I3 [iV 0] (av C2 (⟨(C1.push (.cells #[lV none 0 0] 25)).size,0,none⟩:Addr) (.func (.func 164) #[] #[pV (some (⟨(H.push (.map #[] 0)).size,0,none⟩:Addr)),pV (some (A0 C1.size))]))∧∀ w4 H2,I3 w4 H2->∀ g_5:Nat->Value,∃ n6,w4=[iV n6]∧cond (decide (n6<(l2:Int))) (((0:Int)<=n6∧n6<(l2:Int))∧∃ q7,a2=some q7∧∃ n8,aa H2 (q7.add (Int.toNat n6*1))=some (iV n8)∧cS 165 #[pV p1,iV n8] (fun v9 H3=>∃ n10 b11,v9=.tuple #[iV n10,.bool b11]∧cond b11 (((∃ f12,∃ g12:Array Value,∃ h12:Array Value,aa H3 (⟨(C1.push (.cells #[lV none 0 0] 25)).size,0,none⟩:Addr)=some (.func (.func f12) g12 h12)∧ac PP f12 ((g12++#[iV n10])++h12) (fun v13 H4=>v13=.tuple #[]∧I3 [iV (wW (n6+1))] H4∧μ3 [iV (wW (n6+1))] H4<μ3 w4 H2) H3)∨(aa H3 (⟨(C1.push (.cells #[lV none 0 0] 25)).size,0,none⟩:Addr)=some (.nilFunc)∧False))) (I3 [iV (wW (n6+1))] H3∧μ3 [iV (wW (n6+1))] H3<μ3 w4 H2)) H2) (∃(I14:IT) (μ14:MT),I14 [] H2∧∀ w15 H5,I14 w15 H5->∀ g_16:Nat->Value,w15=[]∧∃ a17 l17 c17,aa H5 (A0 C1.size)=some (lV a17 l17 c17)∧cond (decide ((l17:Int) > 0)) (∃ a18 l18 c18,aa H5 (A0 C1.size)=some (lV a18 l18 c18)∧∃ a19 l19 c19,aa H5 (A0 C1.size)=some (lV a19 l19 c19)∧((0:Int)<=(wW ((l19:Int)-1))∧(wW ((l19:Int)-1))<(l18:Int))∧∃ q20,a18=some q20∧∃ n21,aa H5 (q20.add (Int.toNat (wW ((l19:Int)-1))*1))=some (iV n21)∧∃ a22 l22 c22,aa H5 (A0 C1.size)=some (lV a22 l22 c22)∧∃ a23 l23 c23,aa H5 (A0 C1.size)=some (lV a23 l23 c23)∧((0:Int)<=(wW ((l23:Int)-1))∧(wW ((l23:Int)-1))<=(c22:Int))∧Wr H5 (A0 C1.size)∧cS 166 #[pV p1,iV n21] (fun v24 H6=>∃ f25,∃ g25:Array Value,∃ h25:Array Value,v24=.func (.func f25) g25 h25∧∀ fn26:FuncId,ac PP f25 ((g25++#[.func (.yield (H6.size+1)) #[] #[]])++h25) (fun _ H7=>lx (H6.size+1) (fun H8=>I14 [] H8∧μ14 [] H8<μ14 w15 H5) (fun H9=>∀ H10:ae,gD H.size H9 H10->Q (.tuple #[lV none 0 0,iV 0]) H10) [] H7) ((H6.push (.deferred (some []))).push (.loop (hE fn26 #[pV p1,lV a2 l2 c2,.tuple #[],.tuple #[],lV none 0 0,iV 0,pV (some (⟨(H.push (.map #[] 0)).size,0,none⟩:Addr)),pV (some (A0 C1.size)),pV (some (⟨(C1.push (.cells #[lV none 0 0] 25)).size,0,none⟩:Addr)),.tuple #[],(g_5 10),(g_5 11),(g_5 12),iV n21,.tuple #[],.tuple #[],.tuple #[],pV p1,.bool false,.map (some H.size),.func (.func 164) #[] #[pV (some (⟨(H.push (.map #[] 0)).size,0,none⟩:Addr)),pV (some (A0 C1.size))],lV a2 l2 c2,iV (l2:Int),iV n6,.bool false,(g_5 25),(g_5 26),(g_5 27),(g_5 28),(g_5 29),(g_5 30),(g_5 31),(g_5 32),(g_5 33),(g_5 34),(g_5 35),(g_5 36),(g_5 37),lV a17 l17 c17,iV (l17:Int),.bool true,lV a18 l18 c18,lV a19 l19 c19,iV (l19:Int),iV (wW ((l19:Int)-1)),pV (some (q20.add (Int.toNat (wW ((l19:Int)-1))*1))),iV n21,lV a22 l22 c22,lV a23 l23 c23,iV (l23:Int),iV (wW ((l23:Int)-1)),lV a22 (Int.toNat (wW ((l23:Int)-1))) c22,pV p1,iV n21,.func (.func f25) g25 h25,.tuple #[],.tuple #[],.tuple #[],.tuple #[],.tuple #[],.tuple #[],.tuple #[],.tuple #[],.tuple #[],.tuple #[],.tuple #[],.tuple #[],.tuple #[],.tuple #[],.tuple #[],.tuple #[],.tuple #[],.tuple #[],.tuple #[],.tuple #[]] (ik PP 82 0).1 (ik PP 82 0).2.1 (ik PP 82 0).2.2 H6.size)))) (av H5 (A0 C1.size) (lV a22 (Int.toNat (wW ((l23:Int)-1))) c22))) (∃ r27:Option Nat,aa H5 (⟨(H.push (.map #[] 0)).size,0,none⟩:Addr)=some (.map r27)∧aK PP (Builtin.len_ #[213] 3 #[.map r27]) (fun v28 H11=>∃ n29,v28=iV n29∧aK PP (Instr.makeSlice 25 (iV 0) (iV n29)) (fun v30 H12=>∃ a31 l31 c31,v30=lV a31 l31 c31∧∃ r32:Option Nat,aa H12 (⟨(H.push (.map #[] 0)).size,0,none⟩:Addr)=some (.map r32)∧aK PP (Instr.range 213 (.map r32)) (fun v33 H13=>∃(I34:IT) (μ34:MT),I34 [lV a31 l31 c31] H13∧∀ w35 H14,I34 w35 H14->∀ g_36:Nat->Value,∃ a37 l37 c37,w35=[lV a37 l37 c37]∧aK PP (Instr.next (v33) false 0) (fun v38 H15=>(v38=.tuple #[.bool false]∧cS 167 #[lV a37 l37 c37] (fun v41 H16=>v41=.tuple #[]∧∀ H17:ae,gD H.size H16 H17->Q (.tuple #[lV a37 l37 c37,iV 0]) H17) H15)∨∃ x39 y40:Value,v38=.tuple #[.bool true,x39,y40]∧aK PP (Instr.entry (v33)) (fun v42 H18=>∃ n43,∃ x44:Value,v42=.tuple #[iV n43,x44]∧aK PP (Builtin.append_ #[25,25] 25 #[lV a37 l37 c37,lV (some (A0 H18.size)) 1 1]) (fun v45 H19=>∃ a46 l46 c46,v45=lV a46 l46 c46∧I34 [lV a46 l46 c46] H19∧μ34 [lV a46 l46 c46] H19<μ34 w35 H14) (H18.push (.cells #[iV n43] 3))) H15) H14) H12) H11) H5)))
theorem Ff {p1:Option Addr}{a2:Option Addr}{l2:Nat}{c2:Nat} (h:LF p1 a2 l2 c2 Q H):ac PP 82 #[.pointer p1,.slice a2 l2 c2] Q H :=
 tE good Tryz.func82 rfl (Ls:=fun | 7=>some [(23,3)] | 13=>some [] | 21=>some [(15,25)] | _=>none) (mk:=true) (by kernel_rfl) h
def cW (l:Nat) (q_8:Addr) (n1:Int) (Q:QT) (H:ae):Prop :=
 ∃ r2:Loop,H[l]?=some (.loop r2)∧r2.state=.ready∧((∃ f3,∃ g3:Array Value,∃ h3:Array Value,aa (H.setIfInBounds l (.loop { r2 with state:=.busy })) q_8=some (.func (.func f3) g3 h3)∧ac PP f3 ((g3++#[iV n1])++h3) (fun v4 H1=>v4=.tuple #[]∧∃ r5:Loop,H1[l]?=some (.loop r5)∧Q (.bool true) (H1.setIfInBounds l (.loop { r5 with state:=.ready,pending:=none }))) (H.setIfInBounds l (.loop { r2 with state:=.busy })))∨(aa (H.setIfInBounds l (.loop { r2 with state:=.busy })) q_8=some (.nilFunc)∧False))
theorem fD {l:Nat}{fn:FuncId}{D:Nat}{Ya:Value}{Yb:Value}{Yc:Value}{Yd:Value}{Ye:Value}{Yf:Value}{Yg:Value}{Yh:Value}{q_8:Addr}{Yj:Value}{Yk:Value}{Yl:Value}{Ym:Value}{Yn:Value}{Yo:Value}{Yp:Value}{Yq:Value}{Yr:Value}{Ys:Value}{Yt:Value}{Yu:Value}{Yv:Value}{Yw:Value}{Yx:Value}{Yy:Value}{Yz:Value}{YA:Value}{YB:Value}{YC:Value}{YD:Value}{YE:Value}{YF:Value}{YG:Value}{YH:Value}{YI:Value}{YJ:Value}{YK:Value}{YL:Value}{YM:Value}{YN:Value}{YO:Value}{YP:Value}{YQ:Value}{YR:Value}{YS:Value}{YT:Value}{YU:Value}{YV:Value}{YW:Value}{YX:Value}{YY:Value}{YZ:Value}{Y0:Value}{Y1:Value}{Y3:Value}{Y4:Value}{Y5:Value}{Y6:Value}{Y7:Value}{Y8:Value}{Y9:Value}{Za:Value}{Zb:Value}{Zc:Value}{Zd:Value}{Ze:Value}{Zf:Value}{Zg:Value}{Zh:Value}{Zi:Value}{Zj:Value}{Zk:Value}{Zl:Value}{Zm:Value}{Zn:Value}{n1:Int} (hl:H[l]?=some (.loop (hE fn #[Ya,Yb,Yc,Yd,Ye,Yf,Yg,Yh,.pointer (some q_8),Yj,Yk,Yl,Ym,Yn,Yo,Yp,Yq,Yr,Ys,Yt,Yu,Yv,Yw,Yx,Yy,Yz,YA,YB,YC,YD,YE,YF,YG,YH,YI,YJ,YK,YL,YM,YN,YO,YP,YQ,YR,YS,YT,YU,YV,YW,YX,YY,YZ,Y0,Y1,Y3,Y4,Y5,Y6,Y7,Y8,Y9,Za,Zb,Zc,Zd,Ze,Zf,Zg,Zh,Zi,Zj,Zk,Zl,Zm,Zn] (ik PP 82 0).1 (ik PP 82 0).2.1 (ik PP 82 0).2.2 D))) (h:cW l q_8 n1 Q H):fA PP l #[.int .i64 n1] Q H :=
 rq good hl (by kernel_rfl) (by kernel_rfl) (Ls:=fun _=>none) (Ls':=fun _=>none) (by kernel_rfl) h
abbrev rC:Nat:=144
def Ik (n1:Int) (Q:QT) (H:ae):Prop :=
 ac PP 13 #[iV n1] (fun v2 H1=>∃ n3,v2=iV n3∧Q (.bool (n3 == 0)) H1) H
theorem Af {n1:Int} (h:Ik n1 Q H):ac PP 144 #[.int .i64 n1] Q H :=
 okF Tryz.func144 rfl h
abbrev Eb:Nat:=162
def KK (p1:Option Addr) (n2:Int) (n3:Int) (Q:QT) (H:ae):Prop :=
 ac PP 27 #[pV p1] (fun v4 H1=>∃ b5,v4=.bool b5∧cond b5 (Q (iV 2) H1) (∃ q6,p1=some q6∧∃ p7,aa H1 q6=some (pV p7)∧∃ q8,p1=some q8∧∃ n9,aa H1 (q8.add 1)=some (iV n9)∧cS 148 #[pV p7,iV n9,iV n2,iV n3] (fun v10 H2=>∃ n11,v10=iV n11∧True∧Q (iV n11) H2) H1)) H
theorem xU {p1:Option Addr}{n2:Int}{n3:Int} (h:KK p1 n2 n3 Q H):ac PP 162 #[.pointer p1,.int .i64 n2,.int .i64 n3] Q H :=
 okF Tryz.func162 rfl h
abbrev kZ:Nat:=164
def Gz (n1:Int) (q_0:Addr) (q_1:Addr) (Q:QT) (H:ae):Prop :=
 ∃ r2:Option Nat,aa H q_0=some (.map r2)∧aK PP (Instr.lookup 213 (.map r2) (iV n1) false) (fun v3 H1=>∃ n4,v3=iV n4∧cond (n4 == 0) (∃ r5:Option Nat,aa H1 q_0=some (.map r5)∧aK PP (Instr.mapUpdate 213 (.map r5) (iV n1) (iV 1)) (fun _ H2=>∃ a6 l6 c6,aa H2 q_1=some (lV a6 l6 c6)∧aK PP (Builtin.append_ #[25,25] 25 #[lV a6 l6 c6,lV (some (A0 H2.size)) 1 1]) (fun v7 H3=>∃ a8 l8 c8,v7=lV a8 l8 c8∧Wr H3 q_1∧Q (.tuple #[]) (av H3 q_1 (lV a8 l8 c8))) (H2.push (.cells #[iV n1] 3))) H1) (Q (.tuple #[]) H1)) H
theorem ya {n1:Int}{q_0:Addr}{q_1:Addr} (h:Gz n1 q_0 q_1 Q H):ac PP 164 #[.int .i64 n1,.pointer (some q_0),.pointer (some q_1)] Q H :=
 okF Tryz.func164 rfl h
abbrev CP:Nat:=165
def IG (p1:Option Addr) (n2:Int) (Q:QT) (H:ae):Prop :=
 ac PP 89 #[iV n2] (fun v3 H1=>∃ n4 n5,v3=.tuple #[iV n4,iV n5]∧cond (n5 != 0) (Q (.tuple #[iV 0,.bool false]) H1) (cS 54 #[pV p1,iV n4] (fun v6 H2=>∃ n7 n8,v6=.tuple #[iV n7,iV n8]∧Q (.tuple #[iV n4,.bool (n8 == 0)]) H2) H1)) H
theorem zq {p1:Option Addr}{n2:Int} (h:IG p1 n2 Q H):ac PP 165 #[.pointer p1,.int .i64 n2] Q H :=
 okF Tryz.func165 rfl h
abbrev Ey:Nat:=166
def IQ (p1:Option Addr) (n2:Int) (Q:QT) (H:ae):Prop :=
 Q (.func (.func 280) #[] #[pV (some (A0 H.size)),pV (some (⟨(H.push (.cells #[pV p1] 66)).size,0,none⟩:Addr))]) ((H.push (.cells #[pV p1] 66)).push (.cells #[iV n2] 3))
theorem AA {p1:Option Addr}{n2:Int} (h:IQ p1 n2 Q H):ac PP 166 #[.pointer p1,.int .i64 n2] Q H :=
 okF Tryz.func166 rfl h
abbrev EF:Nat:=279
def FF (p1:Option Addr) (n2:Int) (n3:Int) (n4:Int) (Q:QT) (H:ae):Prop :=
 ∃ p5,aa (H.push (.cells #[pV p1] 34)) (A0 H.size)=some (pV p5)∧cS 27 #[pV p5] (fun v6 H1=>∃ b7,v6=.bool b7∧cond b7 (Q (.tuple #[iV 0,iV 2]) H1) (∃ p8,aa H1 (A0 H.size)=some (pV p8)∧∃ q9,p8=some q9∧∃ p10,aa H1 q9=some (pV p10)∧cS 338 #[.func (.func 72) #[pV p10] #[],iV n2,iV n3,iV n4,.func (.func 339) #[] #[pV (some (A0 H.size))]] (fun v11 H2=>∃ n12 n13,v11=.tuple #[iV n12,iV n13]∧cond (n13 != 0) (Q (.tuple #[iV 0,iV n13]) H2) (cS 84 #[iV n12] (fun v14 H3=>∃ n15 n16,v14=.tuple #[iV n15,iV n16]∧Q (.tuple #[iV n15,iV n16]) H3) H2)) H1)) (H.push (.cells #[pV p1] 34))
theorem yy {p1:Option Addr}{n2:Int}{n3:Int}{n4:Int} (h:FF p1 n2 n3 n4 Q H):ac PP 279 #[.pointer p1,.int .i64 n2,.int .i64 n3,.int .i64 n4] Q H :=
 okF Tryz.func279 rfl h
abbrev nM:Nat:=280
def He (l0:Nat) (q_0:Addr) (q_1:Addr) (Q:QT) (H:ae):Prop :=
 ∃ p1,aa H q_0=some (pV p1)∧∃ n2,aa H q_1=some (iV n2)∧cS 54 #[pV p1,iV n2] (fun v3 H1=>∃ n4 n5,v3=.tuple #[iV n4,iV n5]∧cond (n5 != 0) (Q (.tuple #[]) H1) (∃ J6:IT,(∃ p7,aa H1 q_0=some (pV p7)∧cS 165 #[pV p7,iV n4] (fun v8 H2=>∃ n9 b10,v8=.tuple #[iV n9,.bool b10]∧cond b10 (fA PP l0 #[iV n9] (fun v11 H3=>∃ b12,v11=.bool b12∧cond (!b12) (Q (.tuple #[]) H3) (J6 [] H3)) H2) (J6 [] H2)) H1)∧∀ w13 H4,J6 w13 H4->∀ _g:Nat->Value,w13=[]∧∃ p14,aa H4 q_0=some (pV p14)∧∃ n15,aa H4 q_1=some (iV n15)∧cS 55 #[pV p14,iV n15] (fun v16 H5=>∃ n17 n18 n19,v16=.tuple #[iV n17,iV n18,iV n19]∧cond (n19 != 0) (Q (.tuple #[]) H5) (cond (n18 != 0) (Q (.tuple #[]) H5) (∃(I20:IT) (μ20:MT),I20 [iV 0] H5∧∀ w21 H6,I20 w21 H6->∀ _g:Nat->Value,∃ n22,w21=[iV n22]∧cond (decide (n22<n17)) (∃ p23,aa H6 q_0=some (pV p23)∧∃ n24,aa H6 q_1=some (iV n24)∧cS 57 #[pV p23,iV n24,iV n22] (fun v25 H7=>∃ n26 n27,v25=.tuple #[iV n26,iV n27]∧cond (n27 != 0) (Q (.tuple #[]) H7) (∃ p28,aa H7 q_0=some (pV p28)∧cS 165 #[pV p28,iV n26] (fun v29 H8=>∃ n30 b31,v29=.tuple #[iV n30,.bool b31]∧cond b31 (fA PP l0 #[iV n30] (fun v32 H9=>∃ b33,v32=.bool b33∧cond (!b33) (Q (.tuple #[]) H9) (I20 [iV (wW (n22+1))] H9∧μ20 [iV (wW (n22+1))] H9<μ20 w21 H6)) H8) (I20 [iV (wW (n22+1))] H8∧μ20 [iV (wW (n22+1))] H8<μ20 w21 H6)) H7)) H6) (Q (.tuple #[]) H6)))) H4)) H
theorem yF {l0:Nat}{q_0:Addr}{q_1:Addr} (h:He l0 q_0 q_1 Q H):ac PP 280 #[.func (.yield l0) #[] #[],.pointer (some q_0),.pointer (some q_1)] Q H :=
 aW good Tryz.func280 rfl (Ls:=fun | 1004=>some [] | 7=>some [(50,3)] | _=>none) (by kernel_rfl) h
def Hq (f0:Nat) (g0:Array Value) (h0:Array Value) (n1:Int) (n2:Int) (n3:Int) (f4:Nat) (g4:Array Value) (h4:Array Value) (Q:QT) (H:ae):Prop :=
 ac PP f0 ((g0++#[iV n1,iV n2,iV n3])++h0) (fun v4 H1=>∃ n5 n6,v4=.tuple #[iV n5,iV n6]∧cond (n6 == 23) (ac PP f4 ((g4++#[])++h4) (fun v7 H2=>∃ b8,v7=.bool b8∧cond b8 (ac PP f0 ((g0++#[iV n1,iV n2,iV n3])++h0) (fun v9 H3=>∃ n10 n11,v9=.tuple #[iV n10,iV n11]∧Q (.tuple #[iV n10,iV n11]) H3) H2) (Q (.tuple #[iV n5,iV n6]) H2)) H1) (Q (.tuple #[iV n5,iV n6]) H1)) H
theorem zN {f0:Nat}{g0:Array Value}{h0:Array Value}{n1:Int}{n2:Int}{n3:Int}{f4:Nat}{g4:Array Value}{h4:Array Value} (h:Hq f0 g0 h0 n1 n2 n3 f4 g4 h4 Q H):ac PP 338 #[.func (.func f0) g0 h0,.int .i64 n1,.int .i64 n2,.int .i64 n3,.func (.func f4) g4 h4] Q H :=
 okF Tryz.func338 rfl h
abbrev E0:Nat:=339
def Km (q_0:Addr) (Q:QT) (H:ae):Prop :=
 ∃ p1,aa H q_0=some (pV p1)∧cS 10 #[pV p1] (fun v2 H1=>∃ n3 n4 n5,v2=.tuple #[iV n3,iV n4,iV n5]∧Q (.bool (n5 == 0)) H1) H
theorem xq {q_0:Addr} (h:Km q_0 Q H):ac PP 339 #[.pointer (some q_0)] Q H :=
 okF Tryz.func339 rfl h
end Go.Proofs.YtgjfejoohojokaaGreatDoor
namespace Kw
open Go Go.Proofs Go.Shelf Go.Sort Go.RowKit
variable {P:Program}
theorem lr {ρ:Ren} (L:Lays.n189 P ρ) (hfn:∃ fn,P.funcs[ρ.f 189]?=some fn∧fn.body.isSome=true){b l c:Nat}{H:ae}{zs:List Int}{Q:Value->ae->Prop} (ho:bK 1 H (some ⟨b,0,none⟩) l c (ag zs) [b]) (hsz:l<4611686018427387904)
  (h:∀ H',bK 1 H' (some ⟨b,0,none⟩) l c (ag (zs.mergeSort fun x y=>decide (x<=y))) [b]->Fr [b] H H'->Q (.tuple #[]) H'):ac P (ρ.f 189) #[.slice (some ⟨b,0,none⟩) l c] Q H:=by
 refine ⟨hfn,?_⟩
 intro w hw
 subst hw
 rcases ho.2.2 with ⟨h0,_,_⟩ | ⟨b',cs,hb1,_,⟨t,hbk⟩,hcs,htk⟩
 ·cases h0
 cases hb1
 have hl:l=zs.length:=by have:=ho.1;simpa [ag] using this.symm
 subst hl
 have hle:zs.length<=c:=ho.2.1
 have hlt:b<w.heap.size:=(Array.getElem?_eq_some_iff.1 hbk).1
 have hH:Go.Sort.Holds (Value.int .i64) w b 0 zs.toArray:=by
  intro j hj
  have hj:j<zs.length:=by simpa using hj
  refine ⟨?_,?_⟩
  ·rw [Nat.zero_add]
   have h1:(cs.toList.take (zs.length*1))[j]?=(ag zs)[j]?:=by rw [htk]
   rw [List.getElem?_take_of_lt (by omega)] at h1
   unfold World.cell?
   simp only [hbk]
   show cs[j]?=_
   rw [←Array.getElem?_toList,h1]
   simp [ag,hj]
  ·unfold World.frozen?
   simp only [hbk]
   simp
 refine (Any.slices_Sort_int L b 0 c zs w hH hlt hsz).mono ?_
 rintro e w' ⟨rfl,n,os,rfl⟩
 have hp:(putRow (Value.int .i64) (Sort.ahead w n) b 0 (zs.mergeSort fun x y=>decide (x<=y)).toArray).heap[b]?=some (.cells (putCells (Value.int .i64) 0 (zs.mergeSort fun x y=>decide (x<=y)).toArray cs) t (0,0)):=by
  simp only [putRow,mapBlock,Array.getElem?_modify,if_true]
  show Option.map _ w.heap[b]?=_
  rw [hbk]
  rfl
 have hsz':(putRow (Value.int .i64) (Sort.ahead w n) b 0 (zs.mergeSort fun x y=>decide (x<=y)).toArray).heap.size=w.heap.size:=by simp [putRow,mapBlock,Sort.ahead]
 have hother:∀ b',b'≠b->(putRow (Value.int .i64) (Sort.ahead w n) b 0 (zs.mergeSort fun x y=>decide (x<=y)).toArray).heap[b']?=w.heap[b']?:=fun b' hn=>by
  simp only [putRow,mapBlock,Array.getElem?_modify]
  rw [if_neg (Ne.symm hn)]
  rfl
 have hfr:Fr [b] w.heap (grow (putRow (Value.int .i64) (Sort.ahead w n) b 0 (zs.mergeSort fun x y=>decide (x<=y)).toArray) os).heap:=by
  refine ⟨?_,fun b' hb' hn=>?_⟩
  ·simp only [Sort.grow,Array.size_append];rw [hsz'];exact Nat.le_add_right _ _
  ·simp only [Sort.grow]
   rw [Array.getElem?_append_left (by rw [hsz'];exact hb')]
   exact hother b' (by simpa using hn)
 have hblk:(grow (putRow (Value.int .i64) (Sort.ahead w n) b 0 (zs.mergeSort fun x y=>decide (x<=y)).toArray) os).heap[b]?=some (.cells (putCells (Value.int .i64) 0 (zs.mergeSort fun x y=>decide (x<=y)).toArray cs) t (0,0)):=by
  simp only [Sort.grow]
  rw [Array.getElem?_append_left (by rw [hsz'];exact hlt)]
  exact hp
 refine ⟨_,rfl,h _ ⟨by simp [ag,List.length_mergeSort],hle,.inr ⟨b,_,rfl,rfl,⟨t,hblk⟩,by simp [putCells,hcs],?_⟩⟩ hfr,rfl,rfl,rfl,?_,hfr.1,fun b' ds hb'=>?_⟩
 ·apply List.ext_getElem
  ·simp [ag,putCells,List.length_mergeSort];omega
  ·intro j h1 h2
   have hj:j<zs.length:=by simpa [ag,List.length_mergeSort] using h2
   have hj2:j<(zs.mergeSort fun x y=>decide (x<=y)).length:=by rw [List.length_mergeSort];exact hj
   simp only [List.getElem_take,ag,List.getElem_map,Array.getElem_toList,putCells,Array.getElem_mapIdx,Nat.zero_le,true_and,Nat.zero_add,List.size_toArray,List.length_mergeSort,hj,if_true,Nat.sub_zero]
   congr 1
   rw [List.getElem!_toArray,List.getElem!_eq_getElem?_getD,List.getElem?_eq_getElem hj2]
   rfl
 ·show w.drawn<=w.drawn+n
  omega
 ·have hlt':b'<w.heap.size:=(Array.getElem?_eq_some_iff.1 hb').1
  have hne:b'≠b:=fun e=>by subst e;rw [hbk] at hb';cases hb'
  exact (hfr.2 b' hlt' (by simpa using hne)).trans hb'
end Kw
namespace Kw
open Go
def cO (P:Program) (t:TypeId):Option (TypeDesc × Option Value) :=
 match P.underlying t with
 | some (.map k e)=>match P.underlying k,P.info? e with
  | some d,some i=>some (d,i.zero)
  | _,_=>none
 | _=>none
inductive Key
 | str (s:ByteArray)
 | int (n:Int)
deriving DecidableEq
def Key.v:Key->Value
 | .str s=>.string s
 | .int n=>.int .i64 n
def Key.of:TypeDesc->Key->Prop
 | .string,.str _=>True
 | .int _,.int _=>True
 | _,_=>False
def zL (ents:Array MapEntry) (clock:Nat):Prop:=(ents.toList.map (·.born)).Nodup∧∀ e∈ents.toList,e.born<clock
def cd (H:ae) (r:Nat) (es:List (Key × Value)):Prop:=∃(ents:Array MapEntry) (clock:Nat),H[r]?=some (.map ents clock)∧ents.toList.map (fun e=>(e.key,e.val))=es.map (fun p=>(p.1.v,p.2))∧zL ents clock
theorem cd.new (H:ae):cd (H.push (.map #[] 0)) H.size []:=⟨#[],0,by simp,rfl,by simp [zL]⟩
theorem cd.lt {H:ae}{r:Nat}{es:List (Key × Value)} (h:cd H r es):r<H.size:=by
 obtain ⟨ents,clock,hr,_⟩:=h;exact (Array.getElem?_eq_some_iff.1 hr).1
theorem cd.of_eq {H H':ae}{r:Nat}{es:List (Key × Value)} (h:cd H r es) (he:H'[r]?=H[r]?):cd H' r es:=by
 obtain ⟨ents,clock,hr,h2⟩:=h;exact ⟨ents,clock,he.trans hr,h2⟩
theorem cd.fr {H H':ae}{G:az}{r:Nat}{es:List (Key × Value)} (h:cd H r es) (hf:Fr G H H') (hn:r∉G):cd H' r es:=h.of_eq (hf.2 r h.lt hn)
def ca:List (Key × Value)->Key->Option Value
 | [],_=>none
 | p :: l,k=>if k=p.1 then some p.2 else ca l k
theorem mT (a b:ByteArray):(a == b)=true↔a=b:=by
 obtain ⟨x⟩:=a
 obtain ⟨y⟩:=b
 show (x == y)=true↔_
 simp
theorem pH {d:TypeDesc}{k k':Key} (h:k.of d) (h':k'.of d):Instr.sameNow d k.v k'.v=some (decide (k=k')):=by
 cases d <;> cases k <;> cases k' <;> simp_all [Key.of,Key.v,Instr.sameNow] <;> (rw [Bool.eq_iff_iff];simp [mT])
def dZ:List (Key × Value)->Key->Option Nat
 | [],_=>none
 | p :: l,k=>if k=p.1 then some 0 else (dZ l k).map (·+1)
theorem du {es:List (Key × Value)}{k:Key}:dZ es k=none↔ca es k=none:=by
 induction es with
 | nil=>simp [dZ,ca]
 | cons p l ih =>
  unfold dZ ca
  by_cases h:k=p.1
  ·simp [h]
  ·rw [if_neg h,if_neg h];simpa using ih
theorem kD {d:TypeDesc}{k:Key} (hk:k.of d):∀ (ents:List MapEntry) (es:List (Key × Value)) (i:Nat),ents.map (fun e=>(e.key,e.val))=es.map (fun p=>(p.1.v,p.2))->(∀ p∈es,p.1.of d) ->
  Instr.findNow d k.v ents i=some (match dZ es k,ca es k with
   | some j,some v=>some (i+j,v)
   | _,_=>none)
 | [],[],i,_,_=>rfl
 | [],_ :: _,_,h,_=>by simp at h
 | _ :: _,[],_,h,_=>by simp at h
 | e :: ents,p :: es,i,h,ho=>by
  simp only [List.map_cons,List.cons.injEq,Prod.mk.injEq] at h
  obtain ⟨⟨h1,h2⟩,h3⟩:=h
  unfold Instr.findNow
  rw [h1,pH hk (ho p (by simp))]
  unfold dZ ca
  by_cases hkp:k=p.1
  ·simp [hkp,h2]
  ·have ih:=kD hk ents es (i+1) h3 fun q hq=>ho q (by simp [hq])
   simp only [hkp,decide_false,if_false]
   rw [ih]
   cases h4:dZ es k with
   | none=>simp
   | some j =>
    cases h5:ca es k with
    | none=>exact absurd (du.2 h5) (by rw [h4];simp)
    | some v=>simp;omega
section
variable {P:Program}{H:ae}
theorem eM {t:TypeId}{d:TypeDesc}{k:Key}{e:Bool}{Q:Unit->ae->Prop} (hu:P.underlying t=some d) (hk:k.of d) (h:Q () H):aK P (Instr.checkKey e 10000 t k.v) Q H:=by
 unfold Instr.checkKey
 refine ak (aJ hu ?_)
 cases d <;> cases k <;> simp_all [Key.of,Key.v] <;> exact h
theorem fh {t:TypeId}{d:TypeDesc}{k:Key}{ents:Array MapEntry}{es:List (Key × Value)}{Q:Option (Nat × Value)->ae->Prop} (hu:P.underlying t=some d) (hk:k.of d) (he:ents.toList.map (fun e=>(e.key,e.val))=es.map fun p=>(p.1.v,p.2)) (ho:∀ p∈es,p.1.of d)
  (h:Q (match dZ es k,ca es k with
   | some j,some v=>some (j,v)
   | _,_=>none) H):aK P (Instr.findKey t k.v ents.toList) Q H:=by
 unfold Instr.findKey
 refine ak (aJ hu ?_)
 rw [kD hk _ _ 0 he ho]
 cases h4:dZ es k with
 | none=>rw [h4] at h;exact h
 | some j =>
  cases h5:ca es k with
  | none=>rw [h4,h5] at h;exact h
  | some v=>rw [h4,h5] at h;show Q (some (0+j,v)) H;rw [Nat.zero_add];exact h
theorem dc {T:TypeId}{d:TypeDesc}{z:Option Value} (h:cO P T=some (d,z)):∃ k e i,P.underlying T=some (.map k e)∧P.underlying k=some d∧P.info? e=some i∧i.zero=z:=by
 unfold cO at h
 split at h
 ·rename_i k e hu
  split at h
  ·rename_i d' i h1 h2
   cases h
   exact ⟨k,e,i,hu,h1,h2,rfl⟩
  ·cases h
 ·cases h
theorem iN {T:TypeId}{d:TypeDesc}{z:Value}{r:Nat}{k:Key}{es:List (Key × Value)}{ok:Bool}{Q:Value->ae->Prop} (hi:cO P T=some (d,some z)) (hk:k.of d) (ho:∀ p∈es,p.1.of d) (hm:cd H r es)
  (h:Q (if ok then .tuple #[(ca es k).getD z,.bool (ca es k).isSome] else (ca es k).getD z) H):aK P (Instr.lookup T (.map (some r)) k.v ok) Q H:=by
 obtain ⟨kt,et,i,hu,hkt,hie,hz⟩:=dc hi
 obtain ⟨ents,clock,hr,he,hbn⟩:=hm
 unfold Instr.lookup
 refine ak (aJ hu ?_)
 refine ak ?_
 refine (⟨_,hr,rfl,?_⟩:∃ o,H[r]?=some o∧bV o=false∧_)
 refine ak (cB ?_)
 refine ak (eM hkt hk ?_)
 refine ak (fh hkt hk he ho ?_)
 cases h5:ca es k with
 | none =>
  rw [du.2 h5]
  rw [h5] at h
  exact ak (cK hie hz h)
 | some v =>
  cases h4:dZ es k with
  | none=>rw [du.1 h4] at h5;cases h5
  | some j=>rw [h5] at h;exact h
theorem fB {α β:Type} (f:α->β):∀ (l:List α) (j:Nat),(l.eraseIdx j).map f=(l.map f).eraseIdx j
 | [],_=>rfl
 | _ :: _,0=>rfl
 | x :: l,j+1=>by simp [fB f l j]
def jP:List (Key × Value)->Key->Value->List (Key × Value)
 | [],k,v=>[(k,v)]
 | p :: l,k,v=>if k=p.1 then (k,v) :: l else p :: jP l k v
def lH:List (Key × Value)->Key->List (Key × Value)
 | [],_=>[]
 | p :: l,k=>if k=p.1 then l else p :: lH l k
theorem tY (es:List (Key × Value)) (k k':Key) (v:Value):ca (jP es k v) k'=if k'=k then some v else ca es k':=by
 induction es with
 | nil=>simp [jP,ca]
 | cons p l ih =>
  unfold jP
  by_cases h:k=p.1
  ·rw [if_pos h]
   unfold ca
   by_cases h2:k'=k
   ·simp [h2]
   ·simp only [h2,if_false]
    rw [if_neg (fun e=>h2 (e.trans h.symm))]
  ·rw [if_neg h]
   unfold ca
   by_cases h2:k'=p.1
   ·rw [if_pos h2,if_pos h2,if_neg (fun e=>h (e.symm.trans h2))]
   ·rw [if_neg h2,if_neg h2];exact ih
theorem iq {es:List (Key × Value)}{k:Key}{v:Value} (h:dZ es k=none):jP es k v=es++[(k,v)]:=by
 induction es with
 | nil=>rfl
 | cons p l ih =>
  unfold dZ at h
  unfold jP
  by_cases hk:k=p.1
  ·rw [if_pos hk] at h;cases h
  ·rw [if_neg hk] at h ⊢
   rw [ih (by simpa using h)];rfl
theorem nE {es:List (Key × Value)}{k:Key}{v:Value}{j:Nat} (h:dZ es k=some j):jP es k v=es.set j (k,v)∧j<es.length:=by
 induction es generalizing j with
 | nil=>cases h
 | cons p l ih =>
  unfold dZ at h
  unfold jP
  by_cases hk:k=p.1
  ·rw [if_pos hk] at h ⊢
   cases h
   simp
  ·rw [if_neg hk] at h ⊢
   cases h4:dZ l k with
   | none=>rw [h4] at h;cases h
   | some i =>
    rw [h4] at h
    cases h
    have:=ih h4
    exact ⟨by rw [this.1];rfl,by simp;exact this.2⟩
theorem uy {es:List (Key × Value)}{k:Key}{j:Nat} (h:dZ es k=some j):lH es k=es.eraseIdx j:=by
 induction es generalizing j with
 | nil=>cases h
 | cons p l ih =>
  unfold dZ at h
  unfold lH
  by_cases hk:k=p.1
  ·rw [if_pos hk] at h ⊢
   cases h
   rfl
  ·rw [if_neg hk] at h ⊢
   cases h4:dZ l k with
   | none=>rw [h4] at h;cases h
   | some i =>
    rw [h4] at h
    cases h
    rw [ih h4];rfl
theorem tu {es:List (Key × Value)}{k:Key} (h:dZ es k=none):lH es k=es:=by
 induction es with
 | nil=>rfl
 | cons p l ih =>
  unfold dZ at h
  unfold lH
  by_cases hk:k=p.1
  ·rw [if_pos hk] at h;cases h
  ·rw [if_neg hk] at h ⊢
   rw [ih (by simpa using h)]
theorem jE {k:Key}{Q:Value->ae->Prop} (h:Q k.v H):aK P (Instr.keyThatStays k.v k.v) Q H:=by
 unfold Instr.keyThatStays
 have:Instr.sameBits 10000 k.v k.v=true:=by
  cases k with
  | str s=>show (s == s)=true;rw [mT]
  | int n=>simp [Key.v,Instr.sameBits]
 rw [if_pos this]
 exact h
theorem yn {es:List (Key × Value)}{k:Key}{j:Nat} (h:dZ es k=some j):∃ v,es[j]?=some (k,v):=by
 induction es generalizing j with
 | nil=>cases h
 | cons p l ih =>
  unfold dZ at h
  by_cases hk:k=p.1
  ·rw [if_pos hk] at h
   cases h
   exact ⟨p.2,by simp [hk]⟩
  ·rw [if_neg hk] at h
   cases h4:dZ l k with
   | none=>rw [h4] at h;cases h
   | some i =>
    rw [h4] at h
    cases h
    simpa using ih h4
theorem fy {T:TypeId}{d:TypeDesc}{z:Option Value}{r:Nat}{k:Key}{v:Value}{es:List (Key × Value)}{Q:Unit->ae->Prop} (hi:cO P T=some (d,z)) (hk:k.of d) (ho:∀ p∈es,p.1.of d) (hm:cd H r es)
  (h:∀ H',cd H' r (jP es k v)->Fr [r] H H'->Q () H'):aK P (Instr.mapUpdate T (.map (some r)) k.v v) Q H:=by
 obtain ⟨kt,et,i,hu,hkt,hie,hz⟩:=dc hi
 obtain ⟨ents,clock,hr,he,hbn⟩:=hm
 have hrl:r<H.size:=(Array.getElem?_eq_some_iff.1 hr).1
 have hset:∀ o:Obj,Fr [r] H (H.setIfInBounds r o)∧(H.setIfInBounds r o)[r]?=some o:=fun o =>
  ⟨⟨by simp,fun b _ hn=>by rw [Array.getElem?_setIfInBounds,if_neg (by simp only [List.mem_singleton] at hn;exact fun e=>hn e.symm)]⟩,by simp [hrl]⟩
 unfold Instr.mapUpdate
 refine ak (aJ hu ?_)
 refine ak ?_
 refine (⟨_,hr,rfl,?_⟩:∃ o,H[r]?=some o∧bV o=false∧_)
 refine ak (eM hkt hk ?_)
 refine ak (fh hkt hk he ho ?_)
 cases h4:dZ es k with
 | none =>
  refine (⟨⟨_,hr,rfl⟩,?_⟩:(∃ o',H[r]?=some o'∧bV o'=false)∧_)
  refine h _ ⟨_,_,(hset _).2,?_,?_⟩ (hset _).1
  ·rw [iq h4]
   simp [he]
  ·refine ⟨?_,fun e hmem=>?_⟩
   ·rw [Array.toList_push,List.map_append,List.nodup_append]
    refine ⟨hbn.1,by simp,fun a ha b hb hab=>?_⟩
    obtain ⟨e,hmem,rfl⟩:=List.mem_map.1 ha
    have:=hbn.2 e hmem
    simp only [List.map_cons,List.map_nil,List.mem_singleton] at hb
    omega
   ·rw [Array.toList_push] at hmem
    rcases List.mem_append.1 hmem with hmem | hmem
    ·have:=hbn.2 e hmem;omega
    ·simp only [List.mem_singleton] at hmem;subst hmem;exact Nat.lt_succ_self _
 | some j =>
  cases h5:ca es k with
  | none=>rw [du.2 h5] at h4;cases h4
  | some w =>
   have hset4:=nE (v:=v) h4
   have hlen:ents.size=es.length:=by have:=congrArg List.length he;simpa using this
   have hjl:j<ents.size:=by omega
   obtain ⟨u,hu2⟩:=yn h4
   have hkey:ents[j].key=k.v:=by
    have h6:(ents.toList.map fun e=>(e.key,e.val))[j]?=(es.map fun p=>(p.1.v,p.2))[j]?:=by rw [he]
    rw [List.getElem?_map,List.getElem?_map,hu2] at h6
    simp [hjl] at h6
    exact h6.1
   refine ak ?_
   have hg:((ents[j]?).map (·.key)).getD k.v=k.v:=by simp [hjl,hkey]
   rw [hg]
   refine jE ?_
   refine (⟨⟨_,hr,rfl⟩,?_⟩:(∃ o',H[r]?=some o'∧bV o'=false)∧_)
   have hbm:zL (ents.modify j fun e=>{ e with key:=k.v,val:=v }) clock:=by
    have hbl:(ents.modify j fun e=>{ e with key:=k.v,val:=v }).toList.map (·.born)=ents.toList.map (·.born):=by
     apply List.ext_getElem?
     intro q
     rw [List.getElem?_map,List.getElem?_map,Array.getElem?_toList,Array.getElem?_toList,Array.getElem?_modify]
     split
     ·rename_i e;subst e;cases ents[j]? <;> rfl
     ·rfl
    refine ⟨by rw [hbl];exact hbn.1,fun e hmem=>?_⟩
    have:e.born∈ents.toList.map (·.born):=by rw [←hbl];exact List.mem_map.2 ⟨e,hmem,rfl⟩
    obtain ⟨e',h1,h2⟩:=List.mem_map.1 this
    rw [←h2];exact hbn.2 e' h1
   refine h _ ⟨_,clock,(hset _).2,?_,hbm⟩ (hset _).1
   rw [hset4.1]
   apply List.ext_getElem?
   intro q
   rw [List.getElem?_map,List.getElem?_map,Array.getElem?_toList,Array.getElem?_modify,List.getElem?_set]
   have h6:(ents.toList.map fun e=>(e.key,e.val))[q]?=(es.map fun p=>(p.1.v,p.2))[q]?:=by rw [he]
   rw [List.getElem?_map,List.getElem?_map,Array.getElem?_toList] at h6
   by_cases hjq:j=q
   ·subst hjq
    simp [hjl,hset4.2]
   ·rw [if_neg hjq,if_neg hjq];exact h6
theorem rg {T:TypeId}{d:TypeDesc}{z:Option Value}{a1 T0:TypeId}{r:Nat}{k:Key}{es:List (Key × Value)}{Q:Value->ae->Prop} (hi:cO P T=some (d,z)) (hk:k.of d) (ho:∀ p∈es,p.1.of d) (hm:cd H r es)
  (h:∀ H',cd H' r (lH es k)->Fr [r] H H'->Q (.tuple #[]) H'):aK P (Builtin.delete_ #[T,a1] T0 #[.map (some r),k.v]) Q H:=by
 obtain ⟨kt,et,i,hu,hkt,hie,hz⟩:=dc hi
 obtain ⟨ents,clock,hr,he,hbn⟩:=hm
 have hrl:r<H.size:=(Array.getElem?_eq_some_iff.1 hr).1
 have hset:∀ o:Obj,Fr [r] H (H.setIfInBounds r o)∧(H.setIfInBounds r o)[r]?=some o:=fun o =>
  ⟨⟨by simp,fun b _ hn=>by rw [Array.getElem?_setIfInBounds,if_neg (by simp only [List.mem_singleton] at hn;exact fun e=>hn e.symm)]⟩,by simp [hrl]⟩
 unfold Builtin.delete_
 refine ak (aJ hu ?_)
 refine ak ?_
 refine (⟨_,hr,rfl,?_⟩:∃ o,H[r]?=some o∧bV o=false∧_)
 refine ak (eM hkt hk ?_)
 refine ak (fh hkt hk he ho ?_)
 cases h4:dZ es k with
 | none =>
  refine ak ?_
  refine (⟨⟨_,hr,rfl⟩,?_⟩:(∃ o',H[r]?=some o'∧bV o'=false)∧_)
  refine h _ ⟨ents,clock,(hset _).2,?_,hbn⟩ (hset _).1
  rw [tu h4];exact he
 | some j =>
  cases h5:ca es k with
  | none=>rw [du.2 h5] at h4;cases h4
  | some v =>
   refine ak ?_
   refine (⟨⟨_,hr,rfl⟩,?_⟩:(∃ o',H[r]?=some o'∧bV o'=false)∧_)
   have hsub:(ents.eraseIdxIfInBounds j).toList.Sublist ents.toList:=by
    rw [Array.eraseIdxIfInBounds]
    split
    ·rw [Array.toList_eraseIdx];exact List.eraseIdx_sublist _ _
    ·exact List.Sublist.refl _
   refine h _ ⟨_,clock,(hset _).2,?_,hbn.1.sublist (hsub.map _),fun e hmem=>hbn.2 e (hsub.subset hmem)⟩ (hset _).1
   rw [uy h4]
   have hlen:ents.size=es.length:=by have:=congrArg List.length he;simpa using this
   have hjl:=(nE (v:=v) h4).2
   rw [Array.eraseIdxIfInBounds,dif_pos (by omega),Array.toList_eraseIdx,fB,fB,he]
theorem ru {T T0:TypeId}{d:TypeDesc}{z:Option Value}{r:Nat}{es:List (Key × Value)}{Q:Value->ae->Prop} (hi:cO P T=some (d,z)) (hm:cd H r es) (h:Q (.int .i64 (es.length:Int)) H):aK P (Builtin.len_ #[T] T0 #[.map (some r)]) Q H:=by
 obtain ⟨kt,et,i,hu,hkt,hie,hz⟩:=dc hi
 obtain ⟨ents,clock,hr,he,hbn⟩:=hm
 unfold Builtin.len_
 refine ak (aJ hu ?_)
 refine ak ?_
 refine (⟨_,hr,rfl,?_⟩:∃ o,H[r]?=some o∧bV o=false∧_)
 have hlen:ents.size=es.length:=by have:=congrArg List.length he;simpa using this
 show Q (goInt ents.size) H
 rw [hlen]
 exact h
def eB (H:ae) (b r:Nat) (es done:List (Key × Value)):Prop:=∃(ents:Array MapEntry) (clock:Nat) (seen:Array Nat) (ds rest:List MapEntry),H[r]?=some (.map ents clock)∧ents.toList.map (fun e=>(e.key,e.val))=es.map (fun p=>(p.1.v,p.2))∧zL ents clock ∧
 H[b]?=some (.mapIter (some r) clock seen clock)∧seen.toList=ds.map (·.born)∧(ds++rest).Perm ents.toList∧ds.map (fun e=>(e.key,e.val))=done.map (fun p=>(p.1.v,p.2))
theorem Key.v_inj {k k':Key} (h:k.v=k'.v):k=k':=by
 cases k <;> cases k' <;> simp_all [Key.v]
theorem rI {l l':List (Key × Value)} (h:(l.map fun p=>(p.1.v,p.2)).Perm (l'.map fun p=>(p.1.v,p.2))):l.Perm l':=by
 induction l generalizing l' with
 | nil=>have:=h.length_eq;simp at this;have:l'=[]:=List.eq_nil_of_length_eq_zero this.symm;rw [this]
 | cons p l ih =>
  have hmem:(p.1.v,p.2)∈l'.map (fun p=>(p.1.v,p.2)):=h.subset (by simp)
  obtain ⟨q,hq,he⟩:=List.mem_map.1 hmem
  simp only [Prod.mk.injEq] at he
  have hqp:q=p:=Prod.ext (Key.v_inj he.1) he.2
  subst hqp
  obtain ⟨s,t,rfl⟩:=List.append_of_mem hq
  refine (List.Perm.cons q (ih ?_)).trans (List.perm_middle.symm)
  have h2:(q :: l).map (fun p=>(p.1.v,p.2)) |>.Perm ((q :: (s++t)).map fun p=>(p.1.v,p.2)):=h.trans (List.Perm.map _ List.perm_middle)
  simpa using List.Perm.cons_inv h2
theorem eB.len {b r:Nat}{es done:List (Key × Value)} (h:eB H b r es done):done.length<=es.length:=by
 obtain ⟨ents,clock,seen,ds,rest,_,he,_,_,_,hp,hd⟩:=h
 have h1:=hp.length_eq
 have h2:=congrArg List.length he
 have h3:=congrArg List.length hd
 simp only [List.length_map,List.length_append] at h1 h2 h3
 omega
theorem eB.fr {H':ae}{G:az}{b r:Nat}{es done:List (Key × Value)} (h:eB H b r es done) (hf:Fr G H H') (hb:b∉G) (hr:r∉G):eB H' b r es done:=by
 obtain ⟨ents,clock,seen,ds,rest,h1,h2,h3,h4,h5⟩:=h
 exact ⟨ents,clock,seen,ds,rest,(hf.2 r (Array.getElem?_eq_some_iff.1 h1).1 hr).trans h1,h2,h3,(hf.2 b (Array.getElem?_eq_some_iff.1 h4).1 hb).trans h4,h5⟩
theorem eB.map {b r:Nat}{es done:List (Key × Value)} (h:eB H b r es done):cd H r es:=by
 obtain ⟨ents,clock,seen,ds,rest,h1,h2,h3,_⟩:=h
 exact ⟨ents,clock,h1,h2,h3⟩
theorem nU {T:TypeId}{d:TypeDesc}{z:Option Value}{r:Nat}{es:List (Key × Value)}{Q:Value->ae->Prop} (hi:cO P T=some (d,z)) (hm:cd H r es)
  (h:∀ H',eB H' H.size r es []->Fr [] H H'->Q (.pointer (some ⟨H.size,0,none⟩)) H'):aK P (Instr.range T (.map (some r))) Q H:=by
 obtain ⟨kt,et,i,hu,hkt,hie,hz⟩:=dc hi
 obtain ⟨ents,clock,hr,he,hbn⟩:=hm
 have hlt:r<H.size:=(Array.getElem?_eq_some_iff.1 hr).1
 unfold Instr.range
 refine ak ?_
 refine ak (aJ hu ?_)
 refine ak ?_
 refine (⟨_,hr,rfl,?_⟩:∃ o,H[r]?=some o∧bV o=false∧_)
 show Q (.pointer (some ⟨H.size,0,none⟩)) (H.push (.mapIter (some r) clock #[] clock))
 refine h _ ⟨ents,clock,#[],[],ents.toList,?_,he,hbn,by simp,rfl,by simp,rfl⟩ (Fr.push [] H _)
 rw [Array.getElem?_push,if_neg (by omega)];exact hr
theorem pn {T0:TypeId}{b r:Nat}{es done:List (Key × Value)}{Q:Value->ae->Prop} (hm:eB H b r es done) (h0:done.Perm es->Q (.tuple #[.bool false]) H)
  (h1:∀ p H',p∈es->eB H' b r es (done++[p])->Fr [b] H H'->Q (.tuple #[.bool true,p.1.v,p.2]) H'):aK P (Instr.next (.pointer (some ⟨b,0,none⟩)) false T0) Q H:=by
 obtain ⟨ents,clock,seen,ds,rest,hr,he,hbn,hb,hs,hp,hd⟩:=hm
 have hbl:b<H.size:=(Array.getElem?_eq_some_iff.1 hb).1
 have hbr:b≠r:=fun e=>by subst e;rw [hr] at hb;cases hb
 unfold Instr.next
 refine ak ?_
 refine (⟨_,hb,rfl,?_⟩:∃ o,H[b]?=some o∧bV o=false∧_)
 refine ak ?_
 refine (⟨_,hr,rfl,?_⟩:∃ o,H[r]?=some o∧bV o=false∧_)
 refine cB ?_
 have hany:(!seen.isEmpty && !ents.isEmpty && ents.all fun x=>decide (x.born ≥ clock))=false:=by
  by_cases hemp:ents.isEmpty=true
  ·simp [hemp]
  ·have hpos:0<ents.size:=by
    rcases Nat.eq_zero_or_pos ents.size with h | h
    ·exact absurd (by simp [Array.isEmpty,h]) hemp
    ·exact h
   have:ents.all (fun x=>decide (x.born ≥ clock))=false:=by
    rw [Bool.eq_false_iff]
    intro hall
    have h2:=(Array.all_eq_true.1 hall) 0 hpos
    have h3:=hbn.2 ents[0] (by simp)
    have h4:ents[0].born ≥ clock:=by simpa using h2
    omega
   rw [this,Bool.and_false]
 simp only [hany,Bool.false_eq_true,if_false,ge_iff_le]
 obtain ⟨left,hleft⟩:∃ left:Array MapEntry,left=ents.filter fun e=>!seen.contains e.born:=⟨_,rfl⟩
 rw [←hleft]
 have hlm:∀ e,e∈left.toList↔e∈rest:=by
  intro e
  rw [hleft,Array.toList_filter,List.mem_filter]
  have hnd:((ds++rest).map (·.born)).Nodup:=(List.Perm.map _ hp).nodup_iff.2 hbn.1
  rw [List.map_append,List.nodup_append] at hnd
  constructor
  ·rintro ⟨h2,h3⟩
   rcases List.mem_append.1 (hp.symm.subset h2) with h4 | h4
   ·exfalso
    have:e.born∈seen:=by rw [←Array.mem_toList_iff,hs];exact List.mem_map.2 ⟨e,h4,rfl⟩
    simp [this] at h3
   ·exact h4
  ·intro h2
   refine ⟨hp.subset (by simp [h2]),?_⟩
   have:e.born∉seen:=fun hin=>by
    rw [←Array.mem_toList_iff,hs] at hin
    obtain ⟨e',h4,h5⟩:=List.mem_map.1 hin
    exact hnd.2.2 _ (List.mem_map.2 ⟨e',h4,rfl⟩) _ (List.mem_map.2 ⟨e,h2,rfl⟩) h5
   simp [this]
 have hold:left.filter (fun e=>decide (e.born<clock))=left:=by
  rw [Array.filter_eq_self]
  intro e hmem
  have h2:=(hlm e).1 (by simpa using hmem)
  exact decide_eq_true (hbn.2 e (hp.subset (by simp [h2])))
 have hnew:left.filter (fun e=>decide (clock<=e.born))=#[]:=by
  rw [Array.filter_eq_empty_iff]
  intro e hmem
  have h2:=(hlm e).1 (by simpa using hmem)
  have:=hbn.2 e (hp.subset (by simp [h2]))
  simp;omega
 rw [hold,hnew]
 have key:∀ (cands:Array (Option MapEntry)) (i:Nat),(i<cands.size)->(cands=if left.isEmpty then #[none] else left.map some)->aK P (match cands[i]? with
   | some (some e)=>do
    setObj b (.mapIter (some r) clock (seen.push e.born) clock)
    pure (.tuple #[.bool true,e.key,e.val])
   | some none=>pure (.tuple #[.bool false])
   | none => stuck "Next: no such candidate") Q H := by
  intro cands i hi hc
  by_cases hemp:left.isEmpty=true
  ·rw [if_pos hemp] at hc
   subst hc
   simp only [List.size_toArray,List.length_cons,List.length_nil,Nat.zero_add,Nat.lt_one_iff] at hi
   subst hi
   refine h0 ?_
   have hrest:rest=[]:=by
    cases rest with
    | nil=>rfl
    | cons e rest =>
     have:=(hlm e).2 (by simp)
     simp [Array.isEmpty_iff.1 hemp] at this
   subst hrest
   rw [List.append_nil] at hp
   have h2:=List.Perm.map (fun e:MapEntry=>(e.key,e.val)) hp
   rw [hd,he] at h2
   exact rI h2
  ·rw [if_neg hemp] at hc
   subst hc
   have hil:i<left.size:=by simpa using hi
   have hmem:left[i]∈rest:=(hlm _).1 (by simp)
   obtain ⟨s,t,hst⟩:=List.append_of_mem hmem
   have hget:(left.map some)[i]?=some (some left[i]):=by simp [hil]
   rw [hget]
   have hin:left[i]∈ents.toList:=hp.subset (by simp [hmem])
   have hpk:(left[i].key,left[i].val)∈es.map (fun p=>(p.1.v,p.2)):=by rw [←he];exact List.mem_map.2 ⟨_,hin,rfl⟩
   obtain ⟨p,hpm,hpe⟩:=List.mem_map.1 hpk
   simp only [Prod.mk.injEq] at hpe
   refine ak ?_
   refine (⟨⟨_,hb,rfl⟩,?_⟩:(∃ o',H[b]?=some o'∧bV o'=false)∧_)
   show Q (.tuple #[.bool true,left[i].key,left[i].val]) (H.setIfInBounds b (.mapIter (some r) clock (seen.push left[i].born) clock))
   rw [←hpe.1,←hpe.2]
   refine h1 p _ hpm ⟨ents,clock,seen.push left[i].born,ds++[left[i]],s++t,?_,he,hbn,by simp [hbl],?_,?_,?_⟩ ⟨by simp,fun b' _ hn=>?_⟩
   ·rw [Array.getElem?_setIfInBounds_ne hbr];exact hr
   ·rw [Array.toList_push,hs,List.map_append];rfl
   ·refine List.Perm.trans ?_ hp
    rw [hst,List.append_assoc]
    exact List.Perm.append_left ds (by simpa using (List.perm_middle (l₁:=s) (l₂:=t) (a:=left[i])).symm)
   ·rw [List.map_append,List.map_append,hd]
    simp [hpe.1,hpe.2]
   ·rw [Array.getElem?_setIfInBounds_ne (fun e=>hn (by simp [e]))]
 have hcands:(if left.isEmpty=true then #[none] else #[])++Array.map some (left++#[])=if left.isEmpty then #[none] else left.map some:=by
  by_cases hemp:left.isEmpty=true
  ·rw [if_pos hemp,if_pos hemp,Array.isEmpty_iff.1 hemp];simp
  ·rw [if_neg hemp,if_neg hemp];simp
 have hpos:0<(if left.isEmpty=true then #[none] else left.map some).size:=by
  split
  ·simp
  ·rename_i hemp
   rcases Nat.eq_zero_or_pos left.size with h | h
   ·exact absurd (by simp [Array.isEmpty,h]) hemp
   ·simpa using h
 obtain ⟨cands,hc⟩:∃ c:Array (Option MapEntry),c=if left.isEmpty then #[none] else left.map some:=⟨_,rfl⟩
 rw [←hc] at hcands hpos
 simp only [hcands]
 refine ak ?_
 show if (Question.mapNext cands.size).forced then _ else ∀ t,_
 split
 ·exact key _ 0 hpos hc
 ·intro t
  exact key _ _ (Nat.mod_lt _ hpos) hc
theorem ol {b r:Nat}{es done:List (Key × Value)}{p:Key × Value}{Q:Value->ae->Prop} (hm:eB H b r es (done++[p])) (h:Q (.tuple #[p.1.v,p.2]) H):aK P (Instr.entry (.pointer (some ⟨b,0,none⟩))) Q H:=by
 obtain ⟨ents,clock,seen,ds,rest,hr,he,hbn,hb,hs,hp,hd⟩:=hm
 unfold Instr.entry
 refine ak ?_
 refine (⟨_,hb,rfl,?_⟩:∃ o,H[b]?=some o∧bV o=false∧_)
 refine cB ?_
 obtain ⟨ds',e,hde⟩:∃ ds' e,ds=ds'++[e]:=by
  rcases List.eq_nil_or_concat ds with h0 | ⟨m,x,h0⟩
  ·subst h0;simp at hd
  ·exact ⟨m,x,by simpa using h0⟩
 subst hde
 have hback:seen.back?=some e.born:=by
  have:seen=(ds'.map (·.born)++[e.born]).toArray:=by
   apply Array.ext';rw [hs];simp
  rw [this];simp
 simp only [hback]
 refine ak ?_
 refine (⟨_,hr,rfl,?_⟩:∃ o,H[r]?=some o∧bV o=false∧_)
 refine cB ?_
 simp only [bne_self_eq_false,Bool.false_eq_true,if_false]
 have hin:e∈ents.toList:=hp.subset (by simp)
 have hfind:ents.find? (fun x=>x.born == e.born)=some e:=by
  rw [←Array.find?_toList]
  have:∀ (l:List MapEntry),(l.map (·.born)).Nodup->e∈l->l.find? (fun x=>x.born == e.born)=some e:=by
   intro l
   induction l with
   | nil=>intro _ h;cases h
   | cons x l ih =>
    intro hnd hmem
    rw [List.find?_cons]
    by_cases hx:x.born=e.born
    ·rcases List.mem_cons.1 hmem with rfl | hmem
     ·simp
     ·exfalso
      rw [List.map_cons] at hnd
      have:=(List.nodup_cons.1 hnd).1
      exact this (by rw [hx];exact List.mem_map.2 ⟨e,hmem,rfl⟩)
    ·have:(x.born == e.born)=false:=by simpa using hx
     rw [this]
     rcases List.mem_cons.1 hmem with rfl | hmem
     ·exact absurd rfl hx
     ·rw [List.map_cons] at hnd;exact ih (List.nodup_cons.1 hnd).2 hmem
  exact this _ hbn.1 hin
 rw [hfind]
 rw [List.map_append,List.map_append] at hd
 have h2:=(List.append_inj_right' hd rfl)
 simp only [List.map_cons,List.map_nil,List.cons.injEq,Prod.mk.injEq,and_true] at h2
 show Q (.tuple #[e.key,e.val]) H
 rw [h2.1,h2.2]
 exact h
end
end Kw
namespace Kw
open Go
def aT (r:RH) (w:Int):Int:=if aD w=3∧(am r.objs (w / 4)).isSome then w / 4 else 0
inductive Reaches (r:RH) (ws:List Int):Int->Prop
 | root {w:Int}:w∈ws->aT r w≠0->Reaches r ws (aT r w)
 | cls {o:RO}:Reaches r ws o.oop->o∈r.objs->aT r o.cls≠0->Reaches r ws (aT r o.cls)
 | slot {o:RO}{w:Int}:Reaches r ws o.oop->o∈r.objs->o.fmt=0->w∈o.slots->aT r w≠0->Reaches r ws (aT r w)
theorem fY {r:RH}{w:Int} (h:aT r w≠0):am r.objs (aT r w)≠none:=by
 unfold aT at *
 split at h
 ·rename_i hc
  rw [if_pos hc]
  intro hn
  rw [hn] at hc
  simp at hc
 ·exact absurd rfl h
theorem Reaches.there {r:RH}{ws:List Int}{k:Int} (h:Reaches r ws k):am r.objs k≠none:=by
 cases h with
 | root _ h=>exact fY h
 | cls _ _ h=>exact fY h
 | slot _ _ _ _ h=>exact fY h
noncomputable instance (r:RH) (ws:List Int) (k:Int):Decidable (Reaches r ws k):=Classical.propDecidable _
noncomputable def RH.reach (r:RH) (ws:List Int):List Int:=r.all.filter fun k=>decide (Reaches r ws k)
theorem RH.mem_reach {r:RH} (hw:WFH r){ws:List Int}{k:Int}:k∈r.reach ws↔Reaches r ws k:=by
 unfold RH.reach
 rw [List.mem_filter,RH.mem_all hw]
 constructor
 ·exact fun h=>of_decide_eq_true h.2
 ·exact fun h=>⟨h.there,decide_eq_true h⟩
structure Closed3 (r:RH) (ws l:List Int):Prop where
 sound:∀ k∈l,Reaches r ws k
 roots:∀ w∈ws,aT r w≠0->aT r w∈l
 cls:∀ o∈r.objs,o.oop∈l->aT r o.cls≠0->aT r o.cls∈l
 slot:∀ o∈r.objs,o.oop∈l->o.fmt=0->∀ w∈o.slots,aT r w≠0->aT r w∈l
theorem Closed3.iff {r:RH}{ws l:List Int} (h:Closed3 r ws l){k:Int}:k∈l↔Reaches r ws k:=by
 refine ⟨h.sound k,fun hk=>?_⟩
 induction hk with
 | root h1 h2=>exact h.roots _ h1 h2
 | cls _ h2 h3 ih=>exact h.cls _ h2 ih h3
 | slot _ h2 h3 h4 h5 ih=>exact h.slot _ h2 ih h3 _ h4 h5
theorem Closed3.filter {r:RH}{ws l:List Int} (h:Closed3 r ws l):r.all.filter (fun k=>decide (k∈l))=r.reach ws:=by
 unfold RH.reach
 congr 1
 funext k
 rw [Bool.eq_iff_iff,decide_eq_true_iff,decide_eq_true_iff]
 exact h.iff
theorem o5 {l m:List Int} (hn:l.Nodup) (hs:∀ x∈l,x∈m):l.length<=m.length:=by
 induction l generalizing m with
 | nil=>simp
 | cons x l ih =>
  have hc:=List.nodup_cons.1 hn
  have hx:x∈m:=hs x (by simp)
  have:=ih (m:=m.erase x) hc.2 fun y hy=>(List.mem_erase_of_ne (fun e:y=x=>hc.1 (e ▸ hy))).2 (hs y (by simp [hy]))
  rw [List.length_erase_of_mem hx] at this
  have:=List.length_pos_of_mem hx
  simp only [List.length_cons]
  omega
end Kw
namespace Go.Proofs.YtgjfejoohojokaaGreatDoor
open Kw
theorem kh {l:Nat}{args:Array Value}{Q Q':Value->ae->Prop}{H:ae} (h:fA PP l args Q H) (hq:∀ v H',Q v H'->Q' v H'):fA PP l args Q' H:=fun w hw=>by
 obtain ⟨fn,tmps,assign,body,h1,h2⟩:=h w hw
 exact ⟨fn,tmps,assign,body,h1,h2.mono fun e w' ⟨v,he,hv,hs⟩=>⟨v,he,hq _ _ hv,hs⟩⟩
theorem Fr.setObj (H:ae) (l:Nat) (o:Obj):Fr [l] H (H.setIfInBounds l o):=⟨by simp,fun b _ hn=>Array.getElem?_setIfInBounds_ne (fun e=>hn (by simp [e]))⟩
theorem gD.fr {n:Nat}{H0 H H':ae} (h:gD n H H') (hf:Fr [] H0 H) (hn:n=H0.size):Fr [] H0 H' :=
 ⟨by rw [h.1];exact hf.1,fun b hb _=>by
  rcases h.2 b with h1 | ⟨h1,_⟩
  ·rw [h1];exact hf.2 b hb (by simp)
  ·omega⟩
theorem gD.own {n k:Nat}{H H':ae}{a:Option Addr}{l c:Nat}{xs:List Value}{F:az} (h:gD n H H') (ho:bK k H a l c xs F):bK k H' a l c xs F:=by
 refine ho.keep fun b hb=>?_
 rcases ho.2.2 with ⟨_,_,rfl⟩ | ⟨b',cs,_,rfl,⟨t,hB⟩,_⟩
 ·simp at hb
 ·simp only [List.mem_singleton] at hb
  subst hb
  rcases h.2 b with h1 | ⟨_,h1,_⟩
  ·exact h1
  ·rw [hB] at h1;cases h1
section
variable {H:ae}{hb:Nat}{F:az}{r:RH}{Q:QT}
theorem fO (hR:bW H hb F r){k:Int} (h:Q (Fi (r.clsAt k)) H):ac PP Bl #[.pointer (some ⟨hb,0,none⟩),.int .i64 k] Q H:=by
 obtain ⟨_,_,_,_,_,_,_,_,hR⟩:=hR;exact zd hR h
theorem qp (hR:bW H hb F r){k i:Int} (h:Q (Fi (r.at k i)) H):ac PP A2 #[.pointer (some ⟨hb,0,none⟩),.int .i64 k,.int .i64 i] Q H:=by
 obtain ⟨_,_,_,_,_,_,_,_,hR⟩:=hR;exact La hR h
theorem kS (hR:bW H hb F r){k:Int} (h:Q (mY (r.size k)) H):ac PP AY #[.pointer (some ⟨hb,0,none⟩),.int .i64 k] Q H:=by
 obtain ⟨_,_,_,_,_,_,_,_,hR⟩:=hR;exact CE hR h
theorem tt (hR:bW H hb F r) (h:Q (.int .i64 r.mark) H):ac PP Bf #[.pointer (some ⟨hb,0,none⟩)] Q H:=by
 obtain ⟨_,_,_,_,_,_,_,_,hR⟩:=hR;exact vV hR h
theorem oO (hR:bW H hb F r){w:Int} (h1:aT r w≠0->Q (.tuple #[.int .i64 (aT r w),.bool true]) H) (h2:aT r w=0->∀ x:Int,Q (.tuple #[.int .i64 x,.bool false]) H):ac PP CP #[.pointer (some ⟨hb,0,none⟩),.int .i64 w] Q H:=by
 apply zq
 unfold IG iV pV cS
 refine fG hR.kinds ?_
 unfold iE
 unfold aT at h1 h2
 by_cases hk:aD w=3
 ·rw [if_pos hk]
  refine ⟨_,_,rfl,?_⟩
  rw [show ((0:Int) != 0)=false from rfl]
  simp only [cond_false]
  refine fO hR ?_
  have hw:=aS w
  cases ho:am r.objs (w / 4) with
  | none =>
   refine ⟨_,_,rfl,?_⟩
   simp only [RH.clsAt,ho]
   exact h2 (by rw [ho];simp) _
  | some o =>
   refine ⟨_,_,rfl,?_⟩
   simp only [RH.clsAt,ho]
   simp only [hk,ho,Option.isSome_some,and_self,if_true] at h1
   exact h1 (by omega)
 ·rw [if_neg hk]
  refine ⟨_,_,rfl,?_⟩
  rw [show ((10:Int) != 0)=true from rfl]
  simp only [cond_true]
  exact h2 (by rw [if_neg (fun h=>hk h.1)]) _
def bS (r:RH) (ws:List Int):List Int:=(ws.map (aT r)).filter fun x=>decide (x≠0)
def iA (r:RH) (o:RO):List Int:=bS r (o.cls :: if o.fmt=0 then o.slots else [])
theorem cJ (r:RH) (l m:List Int):bS r (l++m)=bS r l++bS r m:=by simp [bS]
theorem dT (r:RH) (w:Int):bS r [w]=if aT r w=0 then [] else [aT r w]:=by
 by_cases h:aT r w=0 <;> simp [bS,h]
theorem iS {r:RH}{ws:List Int}{k:Int}:k∈bS r ws↔∃ w∈ws,aT r w=k∧k≠0:=by
 simp only [bS,List.mem_filter,List.mem_map,decide_eq_true_eq]
 constructor
 ·rintro ⟨⟨w,h1,h2⟩,h3⟩;exact ⟨w,h1,h2,h3⟩
 ·rintro ⟨w,h1,h2,h3⟩;exact ⟨⟨w,h1,h2⟩,h3⟩
theorem zB {l:Nat}{q0 q1:Addr}{k:Int}{o:RO}{J:List Int->ae->Prop} (ho:am r.objs k=some o)
  (hJ:∀ pre H',J pre H'->bW H' hb F r∧aa H' q0=some (.pointer (some ⟨hb,0,none⟩))∧aa H' q1=some (.int .i64 k))
  (hy:∀ pre x H',(∃ suf,iA r o=pre++x :: suf)->J pre H'->fA PP l #[.int .i64 x] (fun v H''=>v=.bool true∧J (pre++[x]) H'') H')
  (h0:J [] H) (h:∀ H',J (iA r o) H'->Q (.tuple #[]) H'):ac PP nM #[.func (.yield l) #[] #[],.pointer (some q0),.pointer (some q1)] Q H:=by
 apply yF
 unfold He iV wW pV cS
 obtain ⟨hR,c0,c1⟩:=hJ _ _ h0
 have hg:=hR.wf.objs.good o (au ho).1
 have hmany:=hg.many
 refine ⟨_,c0,_,c1,fO hR ⟨_,_,rfl,?_⟩⟩
 have hcls:r.clsAt k=(o.cls,0):=by simp [RH.clsAt,ho]
 have hsz:r.size k=((o.slots.length:Int),o.fmt,0):=by simp [RH.size,ho]
 rw [hcls]
 simp only [show ((0:Int) != 0)=false from rfl,cond_false]
 refine ⟨fun w H4=>w=[]∧J (bS r [o.cls]) H4,⟨_,c0,?_⟩,?_⟩
 ·refine oO hR (fun hne=>⟨_,_,rfl,?_⟩) fun he x=>⟨_,_,rfl,?_⟩
  ·simp only [cond_true]
   refine kh (hy [] _ H ?_ h0) ?_
   ·refine ⟨bS r (if o.fmt=0 then o.slots else []),?_⟩
    have e:iA r o=bS r [o.cls]++bS r (if o.fmt=0 then o.slots else []):=by rw [←cJ];rfl
    rw [e,dT,if_neg hne];rfl
   ·rintro v H3 ⟨rfl,h3⟩
    refine ⟨_,rfl,?_⟩
    simp only [Bool.not_true,cond_false]
    refine ⟨trivial,?_⟩
    rw [dT,if_neg hne];exact h3
  ·simp only [cond_false]
   refine ⟨trivial,?_⟩
   rw [dT,if_pos he];exact h0
 ·rintro w H4 ⟨rfl,h4⟩ _
  obtain ⟨hR4,c04,c14⟩:=hJ _ _ h4
  refine ⟨rfl,_,c04,_,c14,kS hR4 ⟨_,_,_,rfl,?_⟩⟩
  rw [hsz]
  simp only [show ((0:Int) != 0)=false from rfl,cond_false]
  have e:iA r o=bS r [o.cls]++bS r (if o.fmt=0 then o.slots else []):=by rw [←cJ];rfl
  by_cases hf:o.fmt=0
  ·have hfb:(o.fmt != 0)=false:=by simp [hf]
   rw [hfb]
   simp only [cond_false]
   rw [if_pos hf] at e
   refine ⟨fun w H6=>∃ i:Nat,w=[.int .i64 i]∧i<=o.slots.length∧J (bS r [o.cls]++bS r (o.slots.take i)) H6,fun w _=>match w with
    | [.int _ i]=>(o.slots.length-i).toNat
    | _=>0,⟨0,rfl,Nat.zero_le _,by simpa [bS] using h4⟩,?_⟩
   rintro w H6 ⟨i,rfl,hi,h6⟩ _
   refine ⟨_,rfl,?_⟩
   rw [af]
   have e1:IntKind.wrap .i64 ((i:Int)+1)=((i+1:Nat):Int):=by rw [ah (by omega) (by omega)];omega
   refine ap (fun hlt=>?_) fun hlt=>?_
   ·have hlt':i<o.slots.length:=by omega
    obtain ⟨hR6,c06,c16⟩:=hJ _ _ h6
    have hat:r.at k (i:Int)=(o.slots[i],0):=by
     simp only [RH.at,ho]
     rw [if_neg (by omega)]
     simp [hlt']
    refine ⟨_,c06,_,c16,qp hR6 ⟨_,_,rfl,?_⟩⟩
    rw [hat]
    simp only [show ((0:Int) != 0)=false from rfl,cond_false]
    have htk:o.slots.take (i+1)=o.slots.take i++[o.slots[i]]:=by rw [List.take_add_one];simp [hlt']
    have hmu:(((o.slots.length:Int)-((i+1:Nat):Int)).toNat)<((o.slots.length:Int)-(i:Int)).toNat:=by omega
    refine ⟨_,c06,oO hR6 (fun hne=>⟨_,_,rfl,?_⟩) fun he x=>⟨_,_,rfl,?_⟩⟩
    ·simp only [cond_true]
     refine kh (hy _ _ H6 ?_ h6) ?_
     ·refine ⟨bS r (o.slots.drop (i+1)),?_⟩
      have hd:o.slots=o.slots.take i++o.slots[i] :: o.slots.drop (i+1):=by simp
      have:bS r o.slots=bS r (o.slots.take i)++aT r o.slots[i] :: bS r (o.slots.drop (i+1)):=by
       conv=>lhs;rw [hd]
       rw [cJ]
       congr 1
       rw [show o.slots[i] :: o.slots.drop (i+1)=[o.slots[i]]++o.slots.drop (i+1) from rfl,cJ,dT,if_neg hne];rfl
      rw [e,this];simp
     ·rintro v H9 ⟨rfl,h9⟩
      refine ⟨_,rfl,?_⟩
      simp only [Bool.not_true,cond_false]
      rw [e1]
      refine ⟨⟨i+1,rfl,hlt',?_⟩,hmu⟩
      rw [htk,cJ,dT r o.slots[i],if_neg hne,←List.append_assoc];exact h9
    ·simp only [cond_false]
     rw [e1]
     refine ⟨⟨i+1,rfl,hlt',?_⟩,hmu⟩
     rw [htk,cJ,dT r o.slots[i],if_pos he,List.append_nil];exact h6
   ·have:i=o.slots.length:=by omega
    rw [this,List.take_length] at h6
    exact h H6 (by rw [e];exact h6)
  ·have hfb:(o.fmt != 0)=true:=by simp [hf]
   rw [hfb]
   simp only [cond_true]
   rw [if_neg hf] at e
   exact h H4 (by rw [e];simpa [bS] using h4)
theorem EH {k:Int} (h:Q (.func (.func nM) #[] #[.pointer (some ⟨H.size,0,none⟩),.pointer (some ⟨H.size+1,0,none⟩)]) ((H.push (.cells #[.pointer (some ⟨hb,0,none⟩)] 66)).push (.cells #[.int .i64 k] 3))):ac PP Ey #[.pointer (some ⟨hb,0,none⟩),.int .i64 k] Q H:=by
 apply AA
 unfold IQ A0 iV pV
 simp only [Array.size_push]
 exact h
end
def dN (S:List Int):List (Key × Value):=S.map fun k=>(Key.int k,Value.int .i64 1)
theorem nf (S:List Int) (n:Int):ca (dN S) (.int n)=if n∈S then some (.int .i64 1) else none:=by
 induction S with
 | nil=>rfl
 | cons x S ih =>
  unfold dN at *
  simp only [List.map_cons,ca]
  by_cases h:n=x
  ·subst h;simp
  ·rw [if_neg (by simpa using h),ih]
   simp [h]
theorem uq {S:List Int}{n:Int} (h:n∉S):jP (dN S) (.int n) (.int .i64 1)=dN (S++[n]):=by
 have:dZ (dN S) (.int n)=none:=by rw [du,nf,if_neg h]
 rw [iq this];simp [dN]
theorem sQ {S:List Int}:∀ p∈dN S,p.1.of (.int .i64):=by
 intro p hp
 simp only [dN,List.mem_map] at hp
 obtain ⟨k,_,rfl⟩:=hp
 trivial
structure Vis (H:ae) (mb tb m:Nat) (S T:List Int) (G:az):Prop where
 b1:aV H mb #[.map (some m)]
 b2:∃ a l c,aV H tb #[.slice a l c]∧bK 1 H a l c (ag T) G
 mp:cd H m (dN S)
 n1:mb≠tb
 n2:mb≠m
 n3:tb≠m
 n4:∀ x∈G,x≠mb∧x≠tb∧x≠m
theorem Vis.fr {H H':ae}{mb tb m:Nat}{S T:List Int}{G F:az} (h:Vis H mb tb m S T G) (hf:Fr F H H') (h1:mb∉F) (h2:tb∉F) (h3:m∉F) (h4:cA G F):Vis H' mb tb m S T G:=by
 obtain ⟨a,l,c,hB,hO⟩:=h.b2
 exact { h with b1:=h.b1.fr hf h1,b2:=⟨a,l,c,hB.fr hf h2,hO.fr hf h4⟩,mp:=h.mp.fr hf h3 }
theorem Vis.lt {H:ae}{mb tb m:Nat}{S T:List Int}{G:az} (h:Vis H mb tb m S T G):∀ x∈mb :: tb :: m :: G,x<H.size:=by
 obtain ⟨a,l,c,hB,hO⟩:=h.b2
 intro x hx
 simp only [List.mem_cons] at hx
 rcases hx with rfl | rfl | rfl | hx
 ·exact h.b1.lt
 ·exact hB.lt
 ·exact h.mp.lt
 ·exact hO.lt x hx
def dl (p:List Int × List Int) (n:Int):List Int × List Int:=if n∈p.1 then p else (p.1++[n],p.2++[n])
section
variable {H:ae}{hb:Nat}{F:az}{r:RH}{Q:QT}
theorem yI {mb tb m:Nat}{S T:List Int}{G:az}{n:Int} (hV:Vis H mb tb m S T G) (hT:T.length<1000000000)
  (h:∀ H' G',Vis H' mb tb m (dl (S,T) n).1 (dl (S,T) n).2 G'->Up (mb :: tb :: m :: G) H (mb :: tb :: m :: G') H'->Q (.tuple #[]) H') :
  ac PP kZ #[.int .i64 n,.pointer (some ⟨mb,0,none⟩),.pointer (some ⟨tb,0,none⟩)] Q H:=by
 have hmi:cO PP 213=some (.int .i64,some (.int .i64 0)):=by kernel_rfl
 have hs1:aI PP 25=some (1,8,some (.int .i64 0)):=by kernel_rfl
 obtain ⟨a,l,c,hB,hO⟩:=hV.b2
 have c1:aa H ⟨mb,0,none⟩=some (.map (some m)):=hV.b1.cell 0
 apply ya
 unfold Gz A0 iV lV
 refine ⟨_,c1,iN (k:=.int n) hmi trivial sQ hV.mp ?_⟩
 rw [nf]
 unfold dl at h
 by_cases hn:n∈S
 ·simp only [hn,if_true,Option.getD_some] at h ⊢
  refine ⟨_,rfl,?_⟩
  rw [show ((1:Int) == 0)=false from rfl]
  simp only [cond_false]
  exact h H G hV (Up.refl _ _)
 ·simp only [hn,if_false,Option.getD_none] at h ⊢
  refine ⟨_,rfl,?_⟩
  rw [show ((0:Int) == 0)=true from rfl]
  simp only [cond_true]
  refine ⟨_,c1,fy (k:=.int n) hmi trivial sQ hV.mp fun H2 hM2 hf2=>?_⟩
  rw [uq hn] at hM2
  have hB2:aV H2 tb #[.slice a l c]:=hB.fr hf2 (by simpa using hV.n3)
  have hb2:aV H2 mb #[.map (some m)]:=hV.b1.fr hf2 (by simpa using hV.n2)
  have hO2:bK 1 H2 a l c (ag T) G:=hO.fr hf2 (fun x hx hm=>(hV.n4 x hx).2.2 (by simpa using hm))
  have hl:l=T.length:=by have:=hO.len;simpa [ag] using this.symm
  refine ⟨_,_,_,hB2.cell 0,?_⟩
  refine bJ hs1 rfl (by kernel_rfl) hO2 rfl (by simp [dC]) (by omega) (by decide) (by decide) fun a' c' G2 H3 g1 g2 g3=>⟨_,_,_,rfl,?_⟩
  have hnG:∀ x∈G,x≠mb∧x≠tb∧x≠m:=hV.n4
  have hlt2:mb<H2.size∧tb<H2.size∧m<H2.size:=⟨hb2.lt,hB2.lt,hM2.lt⟩
  have hG2:∀ x∈G2,x≠mb∧x≠tb∧x≠m:=fun x hx=>by
   rcases g2.2 x hx with h4 | h4
   ·exact hnG x h4
   ·omega
  have hmbG:mb∉G:=fun hx=>(hnG _ hx).1 rfl
  have htbG:tb∉G:=fun hx=>(hnG _ hx).2.1 rfl
  have hmG:m∉G:=fun hx=>(hnG _ hx).2.2 rfl
  have hB3:aV H3 tb #[.slice a l c]:=hB2.fr g2.1 htbG
  have hb3:aV H3 mb #[.map (some m)]:=hb2.fr g2.1 hmbG
  have hM3:=hM2.fr g2.1 hmG
  have hft:Fr [tb] H3 (av H3 ⟨tb,0,none⟩ (.slice a' (l+1) c')):=Fr.set (by simp)
  refine ⟨hB3.wr (by simp),h _ G2 { b1:=hb3.fr hft (by simpa using hV.n1),b2:=⟨a',l+1,c',hB3.set 0 (.slice a' (l+1) c'),?_⟩,mp:=hM3.fr hft (by simpa using (Ne.symm hV.n3)),n1:=hV.n1,n2:=hV.n2,n3:=hV.n3,n4:=hG2 } ⟨?_,?_⟩⟩
  ·rw [bX]
   exact g1.fr hft (fun x hx hm=>(hG2 x hx).2.1 (by simpa using hm))
  ·exact ((hf2.mono (F':=mb :: tb :: m :: G) fun x hx=>by simp only [List.mem_singleton] at hx;simp [hx]).trans (g2.1.mono fun x hx=>by simp [hx])).trans (hft.mono fun x hx=>by simp only [List.mem_singleton] at hx;simp [hx])
  ·intro x hx
   simp only [List.mem_cons] at hx ⊢
   rcases hx with rfl | rfl | rfl | hx
   ·exact .inl (.inl rfl)
   ·exact .inl (.inr (.inl rfl))
   ·exact .inl (.inr (.inr (.inl rfl)))
   ·rcases g2.2 x hx with h4 | h4
    ·exact .inl (.inr (.inr (.inr h4)))
    ·exact .inr (Nat.le_trans hf2.1 h4)
structure Walk (r:RH) (ws:List Int) (S T:List Int):Prop where
 nd:S.Nodup
 ndT:T.Nodup
 sub:∀ k∈T,k∈S
 sound:∀ k∈S,Reaches r ws k
theorem ni (p:List Int × List Int) (n:Int):∃ nw,(dl p n).1=p.1++nw∧(dl p n).2=p.2++nw∧(n∈(dl p n).1)∧(∀ x∈nw,x=n)∧(p.1.Nodup->(dl p n).1.Nodup):=by
 unfold dl
 by_cases h:n∈p.1
 ·exact ⟨[],by simp [h],by simp [h],by simp [h],by simp,fun hn=>by simp [h,hn]⟩
 ·refine ⟨[n],by simp [h],by simp [h],by simp [h],by simp,fun hn=>?_⟩
  simp only [h,if_false]
  rw [List.nodup_append]
  exact ⟨hn,by simp,fun a ha b hb e=>h (by simp only [List.mem_singleton] at hb;rw [←hb,←e];exact ha)⟩
theorem nA (p:List Int × List Int) (xs:List Int):∃ nw,(xs.foldl dl p).1=p.1++nw∧(xs.foldl dl p).2=p.2++nw∧(∀ x∈xs,x∈(xs.foldl dl p).1)∧(∀ x∈nw,x∈xs)∧(p.1.Nodup->(xs.foldl dl p).1.Nodup):=by
 induction xs generalizing p with
 | nil=>exact ⟨[],by simp,by simp,by simp,by simp,fun h=>h⟩
 | cons x xs ih =>
  obtain ⟨n1,a1,a2,a3,a4,a5⟩:=ni p x
  obtain ⟨n2,b1,b2,b3,b4,b5⟩:=ih (dl p x)
  refine ⟨n1++n2,?_,?_,?_,?_,fun h=>b5 (a5 h)⟩
  ·rw [List.foldl_cons,b1,a1,List.append_assoc]
  ·rw [List.foldl_cons,b2,a2,List.append_assoc]
  ·intro y hy
   rw [List.foldl_cons]
   rcases List.mem_cons.1 hy with rfl | hy
   ·rw [b1];exact List.mem_append_left _ a3
   ·exact b3 y hy
  ·intro y hy
   rcases List.mem_append.1 hy with hy | hy
   ·rw [a4 y hy];simp
   ·exact List.mem_cons_of_mem _ (b4 y hy)
theorem Walk.fold {ws S T:List Int} (h:Walk r ws S T){xs:List Int} (hx:∀ x∈xs,Reaches r ws x):Walk r ws (xs.foldl dl (S,T)).1 (xs.foldl dl (S,T)).2:=by
 obtain ⟨nw,b1,b2,b3,b4,b5⟩:=nA (S,T) xs
 have hnd:=b5 h.nd
 simp only at b1 b2
 refine { nd:=hnd,ndT:=?_,sub:=fun k hk=>?_,sound:=fun k hk=>?_ }
 ·rw [b2,List.nodup_append]
  rw [b1,List.nodup_append] at hnd
  exact ⟨h.ndT,hnd.2.1,fun a ha b hb=>hnd.2.2 a (h.sub a ha) b hb⟩
 ·rw [b2] at hk
  rw [b1]
  rcases List.mem_append.1 hk with hk | hk
  ·exact List.mem_append_left _ (h.sub k hk)
  ·exact List.mem_append_right _ hk
 ·rw [b1] at hk
  rcases List.mem_append.1 hk with hk | hk
  ·exact h.sound k hk
  ·exact hx k (b4 k hk)
theorem Walk.le {ws S T:List Int} (h:Walk r ws S T) (hw:WFH r):S.length<=r.all.length∧T.length<=r.all.length:=by
 have h1:S.length<=r.all.length:=o5 h.nd fun k hk=>(RH.mem_all hw).2 (h.sound k hk).there
 exact ⟨h1,Nat.le_trans (o5 h.ndT h.sub) h1⟩
theorem kE {ws:List Int}{o:RO}{k:Int} (ho:am r.objs k=some o) (hk:Reaches r ws k):∀ x∈iA r o,Reaches r ws x:=by
 intro x hx
 obtain ⟨h1,h2⟩:=au ho
 obtain ⟨w,hw,rfl,hne⟩:=iS.1 hx
 rw [←h2] at hk
 rcases List.mem_cons.1 hw with rfl | hw
 ·exact .cls hk h1 hne
 ·by_cases hf:o.fmt=0
  ·rw [if_pos hf] at hw
   exact .slot hk h1 hf hw hne
  ·rw [if_neg hf] at hw;cases hw
def F6 (r:RH) (S T:List Int):Prop:=∀ k∈S,k∉T->∀ o,am r.objs k=some o->∀ x∈iA r o,x∈S
theorem Walk.closed {ws S:List Int} (h:Walk r ws S []) (hw:WFH r) (hd:F6 r S []) (hr:∀ w∈ws,aT r w≠0->aT r w∈S):Closed3 r ws S:=by
 refine { sound:=h.sound,roots:=hr,cls:=fun o ho hk hne=>?_,slot:=fun o ho hk hf w hwm hne=>?_ }
 ·exact hd o.oop hk (by simp) o (ch hw.objs ho) _ (iS.2 ⟨o.cls,by simp,rfl,hne⟩)
 ·exact hd o.oop hk (by simp) o (ch hw.objs ho) _ (iS.2 ⟨w,by simp [hf,hwm],rfl,hne⟩)
end
abbrev dA (m:Nat):Value:=.func (.func kZ) #[] #[.pointer (some ⟨m+1,0,none⟩),.pointer (some ⟨m+2,0,none⟩)]
def St (H H2:ae) (S T:List Int):Prop:=∃ G,Vis H2 (H.size+1) (H.size+2) H.size S T G∧Fr [] H H2∧(∀ x∈G,H.size+4<=x)∧aV H2 (H.size+3) #[dA H.size]
def qR (H:ae) (m:Nat):Nat:=match H[m]? with
 | some (.map es _)=>es.size
 | _=>0
def kX (H:ae) (b:Nat):Nat:=match aa H ⟨b,0,none⟩ with
 | some (.slice _ l _)=>l
 | _=>0
section
variable {H:ae}{hb:Nat}{F:az}{r:RH}{Q:QT}
theorem St.lens {H2:ae}{S T:List Int} (h:St H H2 S T):qR H2 H.size=S.length∧kX H2 (H.size+2)=T.length:=by
 obtain ⟨G,hV,_⟩:=h
 obtain ⟨ents,clock,hm,he,_⟩:=hV.mp
 obtain ⟨a,l,c,hB,hO⟩:=hV.b2
 constructor
 ·unfold qR;rw [hm]
  have:=congrArg List.length he
  simpa [dN] using this
 ·unfold kX
  rw [show aa H2 ⟨H.size+2,0,none⟩=some (.slice a l c) from hB.cell 0]
  have:=hO.len
  simpa [ag] using this.symm
theorem St.other {H2 H3:ae}{S T:List Int}{F:az} (h:St H H2 S T) (hf:Fr F H2 H3) (hF:∀ b∈F,H.size+4<=b∧∀ c e f,H2[b]?≠some (Obj.cells c e f)):St H H3 S T:=by
 obtain ⟨G,hV,hf0,hG,hB⟩:=h
 have hn:∀ b,b<H.size+4->b∉F:=fun b hb hm=>by have:=(hF b hm).1;omega
 refine ⟨G,hV.fr hf (hn _ (by omega)) (hn _ (by omega)) (hn _ (by omega)) (fun x hx hm=>?_),?_,hG,hB.fr hf (hn _ (by omega))⟩
 ·obtain ⟨a,l,c,_,hO⟩:=hV.b2
  rcases hO.2.2 with ⟨_,_,rfl⟩ | ⟨b',cs,_,rfl,⟨t,hB'⟩,_⟩
  ·cases hx
  ·simp only [List.mem_singleton] at hx
   subst hx
   exact (hF x hm).2 _ _ _ hB'
 ·refine ⟨Nat.le_trans hf0.1 hf.1,fun b hb _=>?_⟩
  rw [hf.2 b (Nat.lt_of_lt_of_le hb hf0.1) (hn b (by omega)),hf0.2 b hb (by simp)]
theorem St.visitG {H2:ae}{S T:List Int}{G:az} (hV:Vis H2 (H.size+1) (H.size+2) H.size S T G) (hf0:Fr [] H H2) (hG:∀ x∈G,H.size+4<=x) (hB:aV H2 (H.size+3) #[dA H.size]){n:Int} (hT:T.length<1000000000)
  (hq:∀ H' G',Vis H' (H.size+1) (H.size+2) H.size (dl (S,T) n).1 (dl (S,T) n).2 G'->Fr [] H H'->(∀ x∈G',H.size+4<=x)->aV H' (H.size+3) #[dA H.size]->(∀ x∈G',x∈G∨H2.size<=x) ->
   Fr ((H.size+1) :: (H.size+2) :: H.size :: G) H2 H'->Q (.tuple #[]) H') :
  ac PP kZ #[.int .i64 n,.pointer (some ⟨H.size+1,0,none⟩),.pointer (some ⟨H.size+2,0,none⟩)] Q H2:=by
 refine yI hV hT fun H' G' hV' hu=>hq H' G' hV' ?_ (fun x hx=>?_) ?_ (fun x hx=>?_) hu.1
 ·refine ⟨Nat.le_trans hf0.1 hu.1.1,fun b hb _=>?_⟩
  rw [hu.1.2 b (Nat.lt_of_lt_of_le hb hf0.1) (fun hm=>?_),hf0.2 b hb (by simp)]
  simp only [List.mem_cons] at hm
  rcases hm with rfl | rfl | rfl | hm
  ·omega
  ·omega
  ·omega
  ·have:=hG b hm;omega
 ·rcases hu.2 x (by simp [hx]) with h1 | h1
  ·simp only [List.mem_cons] at h1
   have:=hV'.n4 x hx
   rcases h1 with rfl | rfl | rfl | h1
   ·omega
   ·omega
   ·omega
   ·exact hG x h1
  ·have:=hB.lt;omega
 ·refine hB.fr hu.1 (fun hm=>?_)
  simp only [List.mem_cons] at hm
  rcases hm with h1 | h1 | h1 | h1
  ·omega
  ·omega
  ·omega
  ·have:=hG _ h1;omega
 ·rcases hu.2 x (by simp [hx]) with h1 | h1
  ·simp only [List.mem_cons] at h1
   have:=hV'.n4 x hx
   rcases h1 with rfl | rfl | rfl | h1
   ·omega
   ·omega
   ·omega
   ·exact .inl h1
  ·exact .inr h1
theorem St.visit {H2:ae}{S T:List Int} (h:St H H2 S T){n:Int} (hT:T.length<1000000000) (hq:∀ H',St H H' (dl (S,T) n).1 (dl (S,T) n).2->Q (.tuple #[]) H') :
  ac PP kZ #[.int .i64 n,.pointer (some ⟨H.size+1,0,none⟩),.pointer (some ⟨H.size+2,0,none⟩)] Q H2:=by
 obtain ⟨G,hV,hf0,hG,hB⟩:=h
 exact St.visitG hV hf0 hG hB hT fun H' G' h1 h2 h3 h4 _ _=>hq H' ⟨G',h1,h2,h3,h4⟩
theorem St.fr {H2:ae}{S T:List Int} (h:St H H2 S T):Fr [] H H2:=by obtain ⟨_,_,h,_⟩:=h;exact h
theorem St.cell {H2:ae}{S T:List Int} (h:St H H2 S T):aa H2 ⟨H.size+3,0,none⟩=some (dA H.size):=by obtain ⟨_,_,_,_,h⟩:=h;exact h.cell 0
def dP (l:List (Key × Value)):List Int:=l.map fun p=>match p.1 with
 | .int k=>k
 | .str _=>0
theorem oU (S:List Int):dP (dN S)=S:=by
 unfold dP dN;rw [List.map_map];exact List.map_id' S
theorem RH.all_sorted (r:RH):r.all.Pairwise (· < ·):=by
 unfold RH.all RH.upto
 refine List.Pairwise.filter _ ?_
 rw [List.pairwise_map]
 exact List.pairwise_lt_range.imp fun h=>by omega
theorem nJ {ws S:List Int} (hw:WFH r) (hnd:S.Nodup) (hiff:∀ k,k∈S↔Reaches r ws k){out:List Int} (hp:out.Perm S):(out.mergeSort fun x y=>decide (x<=y))=r.reach ws:=by
 have hs:=List.pairwise_mergeSort (le:=fun x y:Int=>decide (x<=y)) (fun a b c h1 h2=>by simp at *;omega) (fun a b=>by simp;omega) out
 have h1:(r.reach ws).Pairwise (· < ·):=(RH.all_sorted r).filter _
 have h2:(r.reach ws).Nodup:=h1.imp fun h e=>by omega
 have hperm:(out.mergeSort fun x y=>decide (x<=y)).Perm (r.reach ws):=by
  refine ((List.mergeSort_perm out _).trans hp).trans ?_
  rw [List.perm_ext_iff_of_nodup hnd h2]
  intro k
  rw [hiff,RH.mem_reach hw]
 exact List.Perm.eq_of_pairwise (fun a b _ _ h3 h4=>by simp at h3 h4;omega) hs (h1.imp fun h=>by simp;omega) hperm
end
section
variable {H:ae}{hb:Nat}{F:az}{r:RH}{Q:QT}
theorem MG {H6:ae}{S T:List Int}{k:Int}{o:RO}{X:Loop}{Kn Kr:ae->Prop}{Ke:List (Nat × (ae->Prop))} (hR:bW H hb F r) (hst:St H H6 S T){ws:List Int} (hwk:Walk r ws S T) (hoo:am r.objs k=some o) (hkR:Reaches r ws k) (hall:r.all.length<=65537)
  (hX:∀ {n1:Int}{Q':Value->ae->Prop}{H':ae},H'[H6.size+3]?=some (.loop X)->cW (H6.size+3) ⟨H.size+3,0,none⟩ n1 Q' H'->fA PP (H6.size+3) #[.int .i64 n1] Q' H') (hXs:X.state=.ready) (hXp:X.pending=none)
  (hK:∀ H8,St H H8 ((iA r o).foldl dl (S,T)).1 ((iA r o).foldl dl (S,T)).2->Kn H8) :
  ac PP nM ((#[]++#[.func (.yield (H6.size+3)) #[] #[]])++#[.pointer (some ⟨H6.size,0,none⟩),.pointer (some ⟨H6.size+1,0,none⟩)]) (fun _ H7=>lx (H6.size+3) Kn Kr Ke H7)
   ((((H6.push (.cells #[.pointer (some ⟨hb,0,none⟩)] 66)).push (.cells #[.int .i64 k] 3)).push (.deferred (some []))).push (.loop X)):=by
 have hw:=hR.wf
 have h4:H.size+4<=H6.size:=by obtain ⟨_,_,_,_,h⟩:=hst;have:=h.lt;omega
 show ac PP nM #[.func (.yield (H6.size+3)) #[] #[],.pointer (some ⟨H6.size,0,none⟩),.pointer (some ⟨H6.size+1,0,none⟩)] _ _
 have b0:aV ((((H6.push (.cells #[.pointer (some ⟨hb,0,none⟩)] 66)).push (.cells #[.int .i64 k] 3)).push (.deferred (some []))).push (.loop X)) H6.size #[.pointer (some ⟨hb,0,none⟩)]:=(((aV.new H6 _ _).push _).push _).push _
 have b1:aV ((((H6.push (.cells #[.pointer (some ⟨hb,0,none⟩)] 66)).push (.cells #[.int .i64 k] 3)).push (.deferred (some []))).push (.loop X)) (H6.size+1) #[.int .i64 k]:=by
  have:=((aV.new (H6.push (.cells #[.pointer (some ⟨hb,0,none⟩)] 66)) #[.int .i64 k] 3).push (.deferred (some []))).push (.loop X)
  simpa using this
 have hl:((((H6.push (.cells #[.pointer (some ⟨hb,0,none⟩)] 66)).push (.cells #[.int .i64 k] 3)).push (.deferred (some []))).push (.loop X))[H6.size+3]?=some (.loop X):=by
  have:H6.size+3=(((H6.push (.cells #[.pointer (some ⟨hb,0,none⟩)] 66)).push (.cells #[.int .i64 k] 3)).push (.deferred (some []))).size:=by simp
  rw [this];exact Array.getElem?_push_size
 obtain ⟨G0,gV0,gf0,gG,gB0⟩:=hst
 have hfp:Fr [] H6 ((((H6.push (.cells #[.pointer (some ⟨hb,0,none⟩)] 66)).push (.cells #[.int .i64 k] 3)).push (.deferred (some []))).push (.loop X)):=(((Fr.push [] H6 _).more).more).more
 have gV:=gV0.fr hfp (by simp) (by simp) (by simp) (cA.nil_right _)
 have gf:=gf0.trans hfp
 have gB:=gB0.fr hfp (by simp)
 have hG0:∀ x∈G0,x<H6.size∨H6.size+4<=x:=fun x hx=>.inl (gV0.lt x (by simp [hx]))
 refine zB (hb:=hb) (F:=F) (r:=r) (k:=k) hoo (J:=fun pre H'=>(∃ G,Vis H' (H.size+1) (H.size+2) H.size (pre.foldl dl (S,T)).1 (pre.foldl dl (S,T)).2 G∧Fr [] H H'∧(∀ x∈G,H.size+4<=x)∧aV H' (H.size+3) #[dA H.size]∧∀ x∈G,x<H6.size∨H6.size+4<=x)∧aV H' H6.size #[.pointer (some ⟨hb,0,none⟩)]∧aV H' (H6.size+1) #[.int .i64 k]∧H'[H6.size+3]?=some (.loop X))
  (fun pre H' hJ=>⟨hR.fr hJ.1.choose_spec.2.1 (cA.nil_right F) (by simp),hJ.2.1.cell 0,hJ.2.2.1.cell 0⟩) ?_ ⟨⟨G0,gV,gf,gG,gB,hG0⟩,b0,b1,hl⟩ ?_
 ·rintro pre x H' ⟨suf,he⟩ ⟨⟨G,pV,pf,pG,pB,pb⟩,k0,k1,hl'⟩
  refine hX hl' ?_
  unfold cW iV
  have hwk':Walk r ws (pre.foldl dl (S,T)).1 (pre.foldl dl (S,T)).2:=hwk.fold fun y hy=>kE hoo hkR y (by rw [he];simp [hy])
  have hfb:∀ (Y:ae) (o:Obj),Fr [H6.size+3] Y (Y.setIfInBounds (H6.size+3) o):=fun Y o=>Fr.setObj _ _ _
  have keepV:∀ {Y:ae}{o:Obj}{S' T':List Int}{G':az},Vis Y (H.size+1) (H.size+2) H.size S' T' G'->Fr [] H Y->aV Y (H.size+3) #[dA H.size]->(∀ x∈G',x<H6.size∨H6.size+4<=x) ->
    Vis (Y.setIfInBounds (H6.size+3) o) (H.size+1) (H.size+2) H.size S' T' G'∧Fr [] H (Y.setIfInBounds (H6.size+3) o)∧aV (Y.setIfInBounds (H6.size+3) o) (H.size+3) #[dA H.size]:=by
   intro Y o S' T' G' hv hf hB hbn
   refine ⟨hv.fr (hfb Y o) (by simp;omega) (by simp;omega) (by simp;omega) (fun x hx hm=>?_),⟨by simpa using hf.1,fun b hb' _=>?_⟩,hB.fr (hfb Y o) (by simp;omega)⟩
   ·have h1:=List.mem_singleton.1 hm
    rcases hbn x hx with h2 | h2 <;> omega
   ·rw [(hfb Y o).2 b (Nat.lt_of_lt_of_le hb' hf.1) (fun hm=>by have:=List.mem_singleton.1 hm;omega),hf.2 b hb' (by simp)]
  have hllt:=(Array.getElem?_eq_some_iff.1 hl').1
  have hl2:(H'.setIfInBounds (H6.size+3) (Obj.loop { X with state:=.busy }))[H6.size+3]?=some (.loop { X with state:=.busy }):=by simp [hllt]
  have k02:=k0.fr (hfb H' (Obj.loop { X with state:=.busy })) (by simp)
  have k12:=k1.fr (hfb H' (Obj.loop { X with state:=.busy })) (by simp)
  obtain ⟨qV,qf,qB⟩:=keepV (o:=Obj.loop { X with state:=.busy }) pV pf pB pb
  refine ⟨X,hl',hXs,.inl ⟨_,_,_,qB.cell 0,?_⟩⟩
  show ac PP kZ #[.int .i64 x,.pointer (some ⟨H.size+1,0,none⟩),.pointer (some ⟨H.size+2,0,none⟩)] _ _
  have hle:=hwk'.le hw
  refine St.visitG qV qf pG qB (by omega) fun H3 G' v1 v2 v3 v4 v5 v6=>⟨rfl,?_⟩
  have hGn:∀ b,(b=H6.size∨b=H6.size+1∨b=H6.size+3)->b∉(H.size+1) :: (H.size+2) :: H.size :: G:=by
   intro b hb' hm
   simp only [List.mem_cons] at hm
   rcases hm with h1 | h1 | h1 | h1
   ·omega
   ·omega
   ·omega
   ·rcases pb b h1 with h2 | h2 <;> omega
  have l3:H3[H6.size+3]?=some (.loop { X with state:=.busy }):=(v6.2 _ (by simpa using hllt) (hGn _ (.inr (.inr rfl)))).trans hl2
  have hb3:∀ x∈G',x<H6.size∨H6.size+4<=x:=fun x hx=>by
   rcases v5 x hx with h1 | h1
   ·exact pb x h1
   ·have:H6.size+3<(H'.setIfInBounds (H6.size+3) (Obj.loop { X with state:=.busy })).size:=by simpa using hllt
    omega
  have hX2:({ ({ X with state:=.busy }:Loop) with state:=.ready,pending:=none }:Loop)=X:=by
   cases X;simp only at hXs hXp;subst hXs;subst hXp;rfl
  refine ⟨_,l3,rfl,?_⟩
  rw [hX2]
  obtain ⟨u1,u2,u3⟩:=keepV (o:=Obj.loop X) v1 v2 v4 hb3
  have hl3lt:=(Array.getElem?_eq_some_iff.1 l3).1
  refine ⟨⟨G',?_,u2,v3,u3,hb3⟩,(k02.fr v6 (hGn _ (.inl rfl))).fr (hfb H3 _) (by simp),(k12.fr v6 (hGn _ (.inr (.inl rfl)))).fr (hfb H3 _) (by simp),by simp [hl3lt]⟩
  rw [List.foldl_append];exact u1
 ·rintro H' ⟨⟨G,pV,pf,pG,pB,pb⟩,k0,k1,hl'⟩
  refine ⟨X,hl',by rw [hXs];simp,?_⟩
  rw [hXp]
  exact hK _ (St.other ⟨G,pV,pf,pG,pB⟩ (Fr.setObj _ _ _) (by
   intro b hb'
   have hb':=List.mem_singleton.1 hb'
   subst hb'
   exact ⟨by omega,fun c e f hc=>by rw [hl'] at hc;cases hc⟩))
theorem zS (hR:bW H hb F r){a2:Option Addr}{l2 c2:Nat}{ws:List Int} (hk:Rd 1 H a2 l2 (ag ws)) (hlk:l2<=1000000)
  (h:∀ a l c G H',bK 1 H' a l c (ag (r.reach ws)) G->Fr [] H H'->(∀ x∈G,H.size<=x)->Q (.tuple #[.slice a l c,.int .i64 0]) H'):ac PP Ks #[.pointer (some ⟨hb,0,none⟩),.slice a2 l2 c2] Q H:=by
 have hw:=hR.wf
 have hmi:cO PP 213=some (.int .i64,some (.int .i64 0)):=by kernel_rfl
 have hs1:aI PP 25=some (1,8,some (.int .i64 0)):=by kernel_rfl
 have hl2:l2=ws.length:=by have:=hk.1;simpa [ag] using this.symm
 have hall:r.all.length<=65537:=by
  have:=r.upto_len (r.oops+1).toNat
  have h1:=hw.o1
  exact Nat.le_trans this (by omega)
 apply Ff
 unfold LF A0 iV wW pV lV cS;dsimp only [shH]
 simp only [aq,bt,Array.size_push,Option.isNone_some,cond_false,aA,List.setIfInBounds_toArray,List.set_cons_zero,List.set_cons_succ,List.size_toArray,List.length_cons,List.length_nil,List.getElem?_toArray,List.getElem?_cons_succ,List.getElem?_cons_zero,Nat.add_assoc,Nat.reduceAdd]
 have e1:H.size+1=(H.push (.map #[] 0)).size:=by simp
 have e3:H.size+3=(((H.push (.map #[] 0)).push (.cells #[.map (some H.size)] 213)).push (.cells #[.slice none 0 0] 25)).size:=by simp
 have w1:Wr ((H.push (.map #[] 0)).push (.cells #[.map none] 213)) ⟨H.size+1,0,none⟩:=by rw [e1];exact aA.2 (by simp)
 have x1:av ((H.push (.map #[] 0)).push (.cells #[.map none] 213)) ⟨H.size+1,0,none⟩ (.map (some H.size))=(H.push (.map #[] 0)).push (.cells #[.map (some H.size)] 213):=by rw [e1,aq];rfl
 rw [x1]
 refine ⟨w1,?_⟩
 have w2:Wr ((((H.push (.map #[] 0)).push (.cells #[.map (some H.size)] 213)).push (.cells #[.slice none 0 0] 25)).push (.cells #[.nilFunc] 214)) ⟨H.size+3,0,none⟩:=by rw [e3];exact aA.2 (by simp)
 have x2:av ((((H.push (.map #[] 0)).push (.cells #[.map (some H.size)] 213)).push (.cells #[.slice none 0 0] 25)).push (.cells #[.nilFunc] 214)) ⟨H.size+3,0,none⟩ (dA H.size)=(((H.push (.map #[] 0)).push (.cells #[.map (some H.size)] 213)).push (.cells #[.slice none 0 0] 25)).push (.cells #[dA H.size] 214):=by rw [e3,aq];rfl
 refine ⟨w2,?_⟩
 rw [x2]
 have hst0:St H ((((H.push (.map #[] 0)).push (.cells #[.map (some H.size)] 213)).push (.cells #[.slice none 0 0] 25)).push (.cells #[dA H.size] 214)) [] []:=by
  have f0:Fr [] H (H.push (.map #[] 0)):=Fr.push _ _ _
  refine ⟨[],{ b1:=?_,b2:=⟨none,0,0,?_,bK.nil 1 _⟩,mp:=?_,n1:=by omega,n2:=by omega,n3:=by omega,n4:=by simp },f0.more.more.more,by simp,?_⟩
  ·have:=((aV.new (H.push (.map #[] 0)) #[.map (some H.size)] 213).push (.cells #[.slice none 0 0] 25)).push (.cells #[dA H.size] 214)
   simpa using this
  ·have:=(aV.new ((H.push (.map #[] 0)).push (.cells #[.map (some H.size)] 213)) #[.slice none 0 0] 25).push (.cells #[dA H.size] 214)
   simpa using this
  ·exact (cd.new H).fr (G:=[]) ((Fr.push [] _ _).more.more) (by simp)
  ·have:=aV.new (((H.push (.map #[] 0)).push (.cells #[.map (some H.size)] 213)).push (.cells #[.slice none 0 0] 25)) #[dA H.size] 214
   simpa using this
 generalize ((((H.push (.map #[] 0)).push (.cells #[.map (some H.size)] 213)).push (.cells #[.slice none 0 0] 25)).push (.cells #[dA H.size] 214))=H0 at hst0 ⊢
 have hdn:cA F []:=cA.nil_right F
 have hRof:∀ {H2:ae}{S T:List Int},St H H2 S T->bW H2 hb F r:=fun hs=>hR.fr hs.fr hdn (by simp)
 refine ⟨fun w H2=>∃(i:Nat) (S:List Int),w=[.int .i64 i]∧i<=l2∧St H H2 S S∧Walk r ws S S∧∀ w∈ws.take i,aT r w≠0->aT r w∈S,fun w _=>match w with
  | [.int _ i]=>(l2-i).toNat
  | _=>0,⟨0,[],rfl,Nat.zero_le _,hst0,⟨by simp,by simp,by simp,by simp⟩,by simp⟩,?_⟩
 rintro w4 H2 ⟨i,S,rfl,hi,hst,hwk,hrt⟩ g5
 refine ⟨_,rfl,?_⟩
 rw [af]
 refine ap (fun hlt=>?_) fun hlt=>?_
 ·
  have hlt':i<ws.length:=by omega
  obtain ⟨p,rfl,hcell,hlt2⟩:=(hk.fr' hst.fr (by simp)).int (i:=(i:Int)) (by omega) hlt
  rw [Int.toNat_natCast] at hcell hlt2
  have hx:ws.getD i 0=ws[i]:=by simp [hlt2]
  rw [hx] at hcell
  have htk:ws.take (i+1)=ws.take i++[ws[i]]:=by rw [List.take_add_one];simp [hlt2]
  have e:IntKind.wrap .i64 ((i:Int)+1)=((i+1:Nat):Int):=by rw [ah (by omega) (by omega)];omega
  have hmu:((l2:Int)-((i+1:Nat):Int)).toNat<((l2:Int)-(i:Int)).toNat:=by omega
  refine ⟨⟨by omega,hlt⟩,_,rfl,_,by rw [Int.toNat_natCast,Nat.mul_one];exact hcell,?_⟩
  rw [e]
  refine oO (hRof hst) (fun hne=>⟨_,_,rfl,?_⟩) fun he x=>⟨_,_,rfl,?_⟩
  ·simp only [cond_true]
   refine .inl ⟨_,_,_,hst.cell,?_⟩
   have hle:=hwk.le hw
   refine hst.visit (by omega) fun H' hst'=>⟨rfl,⟨i+1,(dl (S,S) (aT r ws[i])).1,rfl,by omega,?_,?_,?_⟩,hmu⟩
   ·have:(dl (S,S) (aT r ws[i])).2=(dl (S,S) (aT r ws[i])).1:=by unfold dl;split <;> rfl
    rw [this] at hst';exact hst'
   ·have:=hwk.fold (xs:=[aT r ws[i]]) (by intro x hx;simp only [List.mem_singleton] at hx;subst hx;exact .root (by simp) hne)
    simp only [List.foldl_cons,List.foldl_nil] at this
    have e2:(dl (S,S) (aT r ws[i])).2=(dl (S,S) (aT r ws[i])).1:=by unfold dl;split <;> rfl
    rw [e2] at this;exact this
   ·intro w hw' hne'
    obtain ⟨nw,a1,_,a3,_⟩:=ni (S,S) (aT r ws[i])
    rw [htk] at hw'
    rcases List.mem_append.1 hw' with hw' | hw'
    ·rw [a1];exact List.mem_append_left _ (hrt w hw' hne')
    ·simp only [List.mem_singleton] at hw';subst hw';exact a3
  ·simp only [cond_false]
   refine ⟨⟨i+1,S,rfl,by omega,hst,hwk,fun w hw' hne'=>?_⟩,hmu⟩
   rw [htk] at hw'
   rcases List.mem_append.1 hw' with hw' | hw'
   ·exact hrt w hw' hne'
   ·simp only [List.mem_singleton] at hw';subst hw';exact absurd he hne'
 ·
  have hil:i=ws.length:=by omega
  rw [hil,List.take_length] at hrt
  refine ⟨fun w H5=>w=[]∧∃ S T,St H H5 S T∧Walk r ws S T∧F6 r S T∧∀ w∈ws,aT r w≠0->aT r w∈S,fun _ H5=>(r.all.length-qR H5 H.size)+kX H5 (H.size+2),⟨rfl,S,S,hst,hwk,fun k h1 h2=>absurd h1 h2,hrt⟩,?_⟩
  clear hst hwk hrt
  rintro w15 H5 ⟨rfl,S,T,hst,hwk,hdo,hrt⟩ g16
  obtain ⟨hml,hsl⟩:=hst.lens
  have hlens:=hwk.le hw
  have hst1:=hst
  obtain ⟨G,hV,hf0,hG,hvb⟩:=hst1
  obtain ⟨a,l,c,hBt,hO⟩:=hV.b2
  have hl:l=T.length:=by have:=hO.len;simpa [ag] using this.symm
  have ct:aa H5 ⟨H.size+2,0,none⟩=some (.slice a l c):=hBt.cell 0
  refine ⟨rfl,_,_,_,ct,?_⟩
  rw [af]
  refine ap (fun hpos=>?_) fun hpos=>?_
  ·
   have hlp:0<T.length:=by omega
   obtain ⟨T0,k,rfl⟩:∃ T0 k,T=T0++[k]:=by
    rcases List.eq_nil_or_concat T with h1 | ⟨m,x,h1⟩
    ·rw [h1] at hlp;simp at hlp
    ·exact ⟨m,x,by simpa using h1⟩
   have hlT:l=T0.length+1:=by simpa using hl
   have e2:IntKind.wrap .i64 ((l:Int)-1)=(T0.length:Int):=by rw [ah (by omega) (by omega)];omega
   have hTb:T0.length+1<=r.all.length:=by have:=hlens.2;simpa using this
   have hlec:=hO.2.1
   refine ⟨_,_,_,ct,_,_,_,ct,?_⟩
   rw [e2]
   obtain ⟨p,rfl,hcell,hlt2⟩:=hO.rd.int (i:=(T0.length:Int)) (by omega) (by omega)
   rw [Int.toNat_natCast] at hcell
   have hx:(T0++[k]).getD T0.length 0=k:=by simp
   rw [hx] at hcell
   refine ⟨⟨by omega,by omega⟩,_,rfl,k,by rw [Int.toNat_natCast,Nat.mul_one];exact hcell,_,_,_,ct,_,_,_,ct,?_⟩
   rw [e2]
   rw [Int.toNat_natCast]
   refine ⟨⟨by omega,by omega⟩,hBt.wr (by simp),?_⟩
   have hst6:St H (av H5 ⟨H.size+2,0,none⟩ (.slice (some p) T0.length c)) S T0:=by
    have hft:Fr [H.size+2] H5 (av H5 ⟨H.size+2,0,none⟩ (.slice (some p) T0.length c)):=Fr.set (by simp)
    have hn4:=hV.n4
    refine ⟨G,{ b1:=hV.b1.fr hft (by simp),b2:=⟨some p,T0.length,c,hBt.set 0 _,?_⟩,mp:=hV.mp.fr hft (by simp),n1:=hV.n1,n2:=hV.n2,n3:=hV.n3,n4:=hV.n4 },?_,hG,hvb.fr hft (by simp)⟩
    ·have h1:=hO.fr hft (fun x hx hm=>(hn4 x hx).2.1 (by simpa using hm))
     refine ⟨by simp [ag],by omega,?_⟩
     rcases h1.2.2 with ⟨h2,_,_⟩ | ⟨b',cs,h2,h3,h4,h5,h6⟩
     ·cases h2
     ·refine .inr ⟨b',cs,h2,h3,h4,h5,?_⟩
      have h7:(cs.toList.take (l*1)).take T0.length=(ag (T0++[k])).take T0.length:=by rw [h6]
      have h8:(ag T0).take T0.length=ag T0:=List.take_of_length_le (by simp [ag])
      have h9:min T0.length (l*1)=T0.length:=by omega
      rw [List.take_take,bX,List.take_append_of_le_length (by simp [ag]),h8,h9] at h7
      rw [←h7,Nat.mul_one]
    ·refine ⟨Nat.le_trans hf0.1 hft.1,fun b hb _=>?_⟩
     rw [hft.2 b (Nat.lt_of_lt_of_le hb hf0.1) (by simp;omega),hf0.2 b hb (by simp)]
   have hdd:∀ H6,H6=av H5 ⟨H.size+2,0,none⟩ (.slice (some p) T0.length c)->H6=av H5 ⟨H.size+2,0,none⟩ (.slice (some p) T0.length c):=fun _ h=>h
   generalize hH6:av H5 ⟨H.size+2,0,none⟩ (.slice (some p) T0.length c)=H6 at hst6 ⊢
   clear hdd
   have hkS:k∈S:=hwk.sub k (by simp)
   have hkR:Reaches r ws k:=hwk.sound k hkS
   obtain ⟨o,hoo⟩:∃ o,am r.objs k=some o:=by
    cases ho:am r.objs k with
    | none=>exact absurd ho hkR.there
    | some o=>exact ⟨o,rfl⟩
   refine EH (H:=H6) (hb:=hb) ⟨_,_,_,rfl,fun fn26=>?_⟩
   have hwk6:Walk r ws S T0:={ hwk with ndT:=hwk.ndT.sublist (by simp),sub:=fun x hx=>hwk.sub x (by simp [hx]) }
   simp only [Array.size_push,Nat.add_assoc,Nat.reduceAdd]
   refine MG (H:=H) (ws:=ws) hR hst6 hwk6 hoo hkR hall (fun hl hq=>fD hl hq) rfl rfl fun H8 hst8=>?_
   have hnx:∀ x∈iA r o,Reaches r ws x:=kE hoo hkR
   obtain ⟨nw,b1,b2,b3,b4,b5⟩:=nA (S,T0) (iA r o)
   simp only at b1 b2
   have hwk8:=hwk6.fold hnx
   obtain ⟨hm8,hs8⟩:=hst8.lens
   have hle8:=hwk8.le hw
   refine ⟨⟨trivial,_,_,hst8,hwk8,fun j hj1 hj2 o' ho' x hx=>?_,fun w hw' hne=>?_⟩,?_⟩
   ·by_cases hjk:j=k
    ·subst hjk
     rw [hoo] at ho';cases ho'
     exact b3 x hx
    ·rw [b2] at hj2
     rw [b1] at hj1 ⊢
     have hjS:j∈S:=by
      rcases List.mem_append.1 hj1 with h1 | h1
      ·exact h1
      ·exact absurd (List.mem_append_right T0 h1) hj2
     refine List.mem_append_left _ (hdo j hjS (fun hm=>?_) o' ho' x hx)
     rcases List.mem_append.1 hm with h1 | h1
     ·exact hj2 (List.mem_append_left _ h1)
     ·simp only [List.mem_singleton] at h1;exact hjk h1
   ·rw [b1];exact List.mem_append_left _ (hrt w hw' hne)
   ·rw [hm8,hs8,hml,hsl]
    have l1:=congrArg List.length b1
    have l2:=congrArg List.length b2
    simp only [List.length_append,List.length_cons,List.length_nil] at l1 l2 ⊢
    omega
  ·
   have hT0:T=[]:=List.eq_nil_of_length_eq_zero (by omega)
   subst hT0
   have hcl:=hwk.closed hw hdo hrt
   have cm:aa H5 ⟨H.size+1,0,none⟩=some (.map (some H.size)):=hV.b1.cell 0
   refine ⟨_,cm,ru hmi hV.mp ⟨_,rfl,?_⟩⟩
   have hSl:(dN S).length=S.length:=by simp [dN]
   have hSle:=hlens.1
   refine cI hs1 rfl (Int.le_refl _) (by omega) (by omega) (by decide) fun e=>⟨_,_,_,rfl,?_⟩
   have hfp:Fr [] H5 (H5.push (.cells (Array.replicate ((dN S).length:Int).toNat (.int .i64 0)) e)):=Fr.push _ _ _
   refine ⟨_,(show _=some (Value.map (some H.size)) from (hV.b1.fr hfp (by simp)).cell 0),?_⟩
   refine nU hmi (hV.mp.fr hfp (by simp)) fun H11 hit hf11=>?_
   have hlt5:H.size+3<H5.size:=hvb.lt
   refine ⟨fun w HH=>∃(a:Option Addr) (l c:Nat) (G':az) (done:List (Key × Value)),w=[.slice a l c]∧eB HH (H5.size+1) H.size (dN S) done∧bK 1 HH a l c (ag (dP done)) G'∧Fr [] H HH∧(∀ x∈G',H5.size<=x∧x≠H5.size+1)∧G'≠[]∧H5.size+2<=HH.size,fun w _=>match w with
    | [.slice _ l _]=>S.length-l
    | _=>0,⟨_,_,_,[H5.size],[],rfl,?_,?_,?_,?_,by simp,?_⟩,?_⟩
   ·simpa using hit
   ·exact (bK.newMem H5 ((dN S).length:Int).toNat e).fr hf11 (by simp)
   ·exact (hf0.trans hfp).trans hf11
   ·simp
   ·have:=hf11.1;simp only [Array.size_push] at this
    have h2:=hit
    obtain ⟨_,_,_,_,_,_,_,_,h3,_⟩:=h2
    have:=(Array.getElem?_eq_some_iff.1 h3).1
    simp only [Array.size_push] at this
    omega
   ·rintro w HH ⟨a1,l1,c1,G1,done,rfl,hit1,ho1,hf1,hG1,hne1,hsz1⟩ g
    refine ⟨_,_,_,rfl,?_⟩
    have hl1:l1=done.length:=by have:=ho1.len;simpa [ag,dP] using this.symm
    have hle1:=hit1.len
    rw [hSl] at hle1
    simp only [Array.size_push]
    refine pn hit1 (fun hperm=>.inl ⟨rfl,?_⟩) fun p H12 hp hit2 hf2=>.inr ⟨_,_,rfl,?_⟩
    ·
     have hpk:(dP done).Perm S:=by
      have:=List.Perm.map (fun p:Key × Value=>(dP [p]).headD 0) hperm
      have e:∀ l:List (Key × Value),l.map (fun p=>(dP [p]).headD 0)=dP l:=fun l=>by unfold dP;apply List.map_congr_left;intro p _;simp
      rw [e,e,oU] at this;exact this
     rcases ho1.2.2 with ⟨_,_,h0⟩ | ⟨b,cs,h1,h2,_⟩
     ·exact absurd h0 hne1
     ·subst h1;subst h2
      refine lr Tryz.sortI ⟨_,Tryz.func167,rfl⟩ ho1 (by omega) fun H13 ho13 hf13=>⟨rfl,fun H14 hsh=>?_⟩
      rw [nJ hw hwk.nd (fun k=>hcl.iff) hpk] at ho13
      have hb:=hG1 b (by simp)
      have hf14:Fr [] H H13:=⟨Nat.le_trans hf1.1 hf13.1,fun x hx _=>by
       rw [hf13.2 x (Nat.lt_of_lt_of_le hx hf1.1) (fun hm=>by have:=List.mem_singleton.1 hm;have:=hf0.1;omega),hf1.2 x hx (by simp)]⟩
      exact h _ _ _ [b] H14 (gD.own hsh ho13) (gD.fr hsh hf14 rfl) (fun x hx=>by have:=List.mem_singleton.1 hx;have:=hf0.1;omega)
    ·obtain ⟨n,hn⟩:∃ n,p.1=.int n:=by
      simp only [dN,List.mem_map] at hp
      obtain ⟨k,_,rfl⟩:=hp
      exact ⟨k,rfl⟩
     refine ol hit2 ⟨n,p.2,by rw [hn];rfl,?_⟩
     have hbG:(H5.size+1)∉G1:=fun hm=>(hG1 _ hm).2 rfl
     have ho2:bK 1 H12 a1 l1 c1 (ag (dP done)) G1:=ho1.fr hf2 (fun x hx hm=>(hG1 x hx).2 (by simpa using hm))
     have hf12:Fr [] H H12:=⟨Nat.le_trans hf1.1 hf2.1,fun x hx _=>by
      rw [hf2.2 x (Nat.lt_of_lt_of_le hx hf1.1) (fun hm=>by have:=List.mem_singleton.1 hm;have:=hf0.1;omega),hf1.2 x hx (by simp)]⟩
     have hle2:=hit2.len
     rw [hSl,List.length_append] at hle2
     simp only [List.length_cons,List.length_nil] at hle2
     refine bJ hs1 rfl (by kernel_rfl) ho2 rfl (by simp [dC]) (by omega) (by decide) (by decide) fun a' c' G2 H3 g1 g2 g3=>⟨_,_,_,rfl,⟨a',l1+1,c',G2,done++[p],rfl,?_,?_,?_,?_,?_,?_⟩,?_⟩
     ·exact hit2.fr g2.1 hbG (fun hm=>by have:=(hG1 _ hm).1;have:=hf0.1;omega)
     ·have:dP (done++[p])=dP done++[n]:=by simp [dP,hn]
      rw [this,bX];exact g1
     ·refine ⟨Nat.le_trans hf12.1 g2.1.1,fun x hx _=>?_⟩
      rw [g2.1.2 x (Nat.lt_of_lt_of_le hx hf12.1) (fun hm=>by have:=(hG1 _ hm).1;have:=hf0.1;omega),hf12.2 x hx (by simp)]
     ·intro x hx
      rcases g2.2 x hx with h4 | h4
      ·exact hG1 x h4
      ·have:=hf2.1;omega
     ·intro h0
      subst h0
      rcases g1.2.2 with ⟨_,h1,_⟩ | ⟨_,_,_,h1,_⟩
      ·have:=g1.2.1;omega
      ·cases h1
     ·have:=hf2.1;have:=g2.1.1;omega
     ·omega
end
end Go.Proofs.YtgjfejoohojokaaGreatDoor
namespace Kw
open Go
structure SP where
 h:RH
 king:Int
 stack:List Int
 op:Bool
 born:Int
 turn:Int
 mark:Int
structure WFS (s:SP):Prop where
 h:WFH s.h
 king0:0<=s.king
 king1:s.king<=65536
 many:s.stack.length<=65536
 words:∀ w∈s.stack,cR w
def SP.roots (s:SP):List Int:=(4*s.king) :: s.stack
noncomputable def SP.reach (s:SP):List Int:=s.h.reach s.roots
noncomputable def SP.collect (s:SP):(Int × Int × Int) × SP:=if s.op then ((0,0,25),s) else ((s.h.keep s.reach).1,{ s with h:=(s.h.keep s.reach).2 })
noncomputable def SP.alloc (s:SP) (cls n fmt:Int):(Int × Int) × SP :=
 if (s.h.alloc cls n fmt).1.2≠23∨s.op=true then ((4*(s.h.alloc cls n fmt).1.1,(s.h.alloc cls n fmt).1.2),{ s with h:=(s.h.alloc cls n fmt).2 })
 else ((4*((s.h.keep s.reach).2.alloc cls n fmt).1.1,((s.h.keep s.reach).2.alloc cls n fmt).1.2),{ s with h:=((s.h.keep s.reach).2.alloc cls n fmt).2 })
def SP.keepW (s:SP) (ws:List Int):Int × SP:=if ∃ w∈ws,¬ cR w then (10,s) else if 65536<s.stack.length+ws.length then (22,s) else (0,{ s with stack:=s.stack++ws })
def SP.drop (s:SP) (n:Int):Int × SP:=if n<0∨(s.stack.length:Int)<n then (28,s) else (0,{ s with stack:=s.stack.take (s.stack.length-n.toNat) })
def SP.crown (s:SP) (k:Int):Int × SP:=if (s.h.clsAt k).2≠0 then ((s.h.clsAt k).2,s) else (0,{ s with king:=k })
def SP.setRoot (s:SP) (i w:Int):Int × SP:=((s.h.put s.king i w).1,{ s with h:=(s.h.put s.king i w).2 })
theorem qG {h:RH}{cls n fmt:Int} (he:(h.alloc cls n fmt).1.2=23):(h.alloc cls n fmt).2=h:=by
 unfold RH.alloc at *
 split
 ·rfl
 split
 ·rfl
 split
 ·rfl
 rename_i h1 h2 h3
 rw [if_neg h1,if_neg h2,if_neg h3] at he
 split
 ·rename_i h4;rw [if_pos h4] at he;simp at he
 ·rename_i h4;rw [if_neg h4] at he;simp at he
end Kw
namespace Go.Proofs.YtgjfejoohojokaaGreatDoor
open Kw
section
variable {H:ae}{Q:QT}
theorem oP {a:Option Addr}{l c:Nat}{ws:List Int}{f:Nat}{p:Int->Bool} (hk:Rd 1 H a l (ag ws)) (hlk:l<=1000000000)
  (hf:∀ x Q',Q' (.bool (p x)) H->ac PP f ((#[]++#[.int .i64 x])++#[]) Q' H) (h1:(∃ w∈ws,p w=true)->∀ n:Int,0<=n->Q (.int .i64 n) H) (h2:(∀ w∈ws,p w=false)->Q (.int .i64 (-1)) H):ac PP Ex #[.slice a l c,.func (.func f) #[] #[]] Q H:=by
 have hl:l=ws.length:=by have:=hk.1;simpa [ag] using this.symm
 apply yr
 unfold Fw iV wW
 refine ⟨fun w H'=>H'=H∧∃ i:Nat,w=[.int .i64 i]∧i<=l∧∀ w∈ws.take i,p w=false,fun w _=>match w with
  | [.int _ i]=>(l-i).toNat
  | _=>0,⟨rfl,0,rfl,Nat.zero_le _,by simp⟩,?_⟩
 rintro w H1 ⟨rfl,i,rfl,hi,hall⟩ _
 refine ⟨_,rfl,?_⟩
 rw [af]
 refine ap (fun hlt=>?_) fun hlt=>?_
 ·obtain ⟨q,rfl,hcell,hlt2⟩:=hk.int (i:=(i:Int)) (by omega) hlt
  rw [Int.toNat_natCast] at hcell hlt2
  have hx:ws.getD i 0=ws[i]:=by simp [hlt2]
  rw [hx] at hcell
  have htk:ws.take (i+1)=ws.take i++[ws[i]]:=by rw [List.take_add_one];simp [hlt2]
  have e:IntKind.wrap .i64 ((i:Int)+1)=((i+1:Nat):Int):=by rw [ah (by omega) (by omega)];omega
  refine ⟨⟨by omega,hlt⟩,_,rfl,_,by rw [Int.toNat_natCast,Nat.mul_one];exact hcell,hf _ _ ⟨_,rfl,?_⟩⟩
  cases hp:p ws[i] with
  | true=>exact h1 ⟨_,List.getElem_mem hlt2,hp⟩ _ (by omega)
  | false =>
   simp only [cond_false]
   rw [e]
   refine ⟨⟨trivial,i+1,rfl,by omega,fun w hw=>?_⟩,by simp;omega⟩
   rw [htk] at hw
   rcases List.mem_append.1 hw with hw | hw
   ·exact hall w hw
   ·simp only [List.mem_singleton] at hw;rw [hw];exact hp
 ·have:i=ws.length:=by omega
  rw [this,List.take_length] at hall
  exact h2 hall
theorem yi {w:Int} (hk:cq H) (h:Q (.bool (!decide (cR w))) H):ac PP rC #[.int .i64 w] Q H:=by
 apply Af
 unfold Ik iV
 refine fS hk ⟨_,rfl,?_⟩
 have:(aD w == 0)=!decide (cR w):=by rw [aX];unfold cR;by_cases h:aD w=0 <;> simp [h]
 rw [this];exact h
theorem mz {a:Option Addr}{l c:Nat}{ws:List Int} (hK:cq H) (hk:Rd 1 H a l (ag ws)) (hlk:l<=1000000000) (h:Q (.bool (decide (∃ w∈ws,¬ cR w))) H):ac PP DY #[.slice a l c,.func (.func rC) #[] #[]] Q H:=by
 apply xK
 unfold Ge iV lV
 refine oP (p:=fun w=>!decide (cR w)) hk hlk (fun x Q' hq=>?_) (fun he n hn=>⟨_,rfl,?_⟩) fun hall=>⟨_,rfl,?_⟩
 ·show ac PP rC #[.int .i64 x] Q' H
  exact yi hK hq
 ·have:(∃ w∈ws,¬ cR w):=by obtain ⟨w,h1,h2⟩:=he;exact ⟨w,h1,by simpa using h2⟩
  rw [decide_eq_true this] at h
  rw [decide_eq_true (show n ≥ 0 from hn)];exact h
 ·have:¬ (∃ w∈ws,¬ cR w):=fun ⟨w,h1,h2⟩=>by have:=hall w h1;simp at this;exact h2 this
  rw [decide_eq_false this] at h
  exact h
theorem vB {a:Option Addr}{l c:Nat}{ws:List Int} (hk:Rd 1 H a l (ag ws)) (hlk:l<=1000000000) (h:∀ a' c' F H',bK 1 H' a' l c' (ag ws) F->Fr [] H H'->(∀ x∈F,H.size<=x)->Q (.slice a' l c') H'):ac PP DC #[.slice a l c] Q H:=by
 have hs1:aI PP 30=some (1,8,some (.int .i64 0)):=by kernel_rfl
 apply zX
 unfold HI A0 lV
 cases a with
 | none =>
  have h0:=hk.2.1 rfl
  subst h0
  have:ws=[]:=List.eq_nil_of_length_eq_zero (by have:=hk.1;simpa [ag] using this)
  subst this
  exact h none 0 [] H (bK.nil 1 H) (Fr.refl _ _) (by simp)
 | some p =>
  simp only [Option.isNone_some,cond_false]
  have hown:bK 1 (H.push (.cells #[] 26)) (some ⟨H.size,0,none⟩) 0 0 (ag []) [H.size]:=⟨by simp [ag],Nat.le_refl _,.inr ⟨H.size,_,rfl,rfl,aV.new _ _ _,by simp,by simp [ag]⟩⟩
  refine dn hs1 rfl (by kernel_rfl) hown (hk.fr' (Fr.push [] _ _) (by simp)) fM (by omega) (by decide) (by decide) fun a' c' F' H' g1 g2 g3=>⟨_,_,_,rfl,?_⟩
  have hfr:=Up.fresh (H:=H) (Fr.push [] H _) g2 (by simp)
  have:=h a' c' F' H' (by simpa [ag] using g1) hfr.1 hfr.2
  simpa using this
end
def eS (H:ae) (b:Nat) (F:az) (s:SP):Prop:=∃ hb a l c F1 F2 po b5 b6 b7,F=b :: (F1++F2)∧b∉F1∧b∉F2∧cA F1 F2∧b≠ax∧ax∉F2 ∧
 aV H b #[.pointer (some ⟨hb,0,none⟩),.int .i64 s.king,.slice a l c,.bool s.op,.pointer po,.int .i64 b5,.int .i64 b6,.int .i64 b7]∧bW H hb F1 s.h∧bK 1 H a l c (ag s.stack) F2∧WFS s ∧
 (s.op=true->po=some ⟨hb,0,none⟩∧b5=s.born∧b6=s.turn∧b7=s.mark)
theorem eS.wf {H:ae}{b:Nat}{F:az}{s:SP} (h:eS H b F s):WFS s:=by
 obtain ⟨_,_,_,_,_,_,_,_,_,_,_,_,_,_,_,_,_,_,_,h,_⟩:=h;exact h
theorem eS.lt {H:ae}{b:Nat}{F:az}{s:SP} (h:eS H b F s):∀ x∈F,x<H.size:=by
 obtain ⟨hb,a,l,c,F1,F2,po,b5,b6,b7,rfl,h1,h2,h3,k1,k2,hB,hR,hO,_⟩:=h
 intro x hx
 rcases List.mem_cons.1 hx with rfl | hx
 ·exact hB.lt
 ·rcases List.mem_append.1 hx with hx | hx
  ·exact hR.lt x hx
  ·exact hO.lt x hx
theorem eS.kinds {H:ae}{b:Nat}{F:az}{s:SP} (h:eS H b F s):cq H:=by
 obtain ⟨_,_,_,_,_,_,_,_,_,_,_,_,_,_,_,_,_,hR,_⟩:=h;exact hR.kinds
theorem eS.gk {H:ae}{b:Nat}{F:az}{s:SP} (h:eS H b F s):ax∉F:=by
 obtain ⟨hb,a,l,c,F1,F2,po,b5,b6,b7,rfl,h1,h2,h3,k1,k2,hB,hR,hO,_⟩:=h
 simp only [List.mem_cons,List.mem_append,not_or]
 exact ⟨fun e=>k1 e.symm,hR.gk,k2⟩
theorem eS.bmem {H:ae}{b:Nat}{F:az}{s:SP} (h:eS H b F s):b∈F:=by obtain ⟨_,_,_,_,_,_,_,_,_,_,rfl,_⟩:=h;simp
theorem eS.fr {H H':ae}{b:Nat}{F G:az}{s:SP} (h:eS H b F s) (hf:Fr G H H') (hd:cA F G) (hg:ax∉G):eS H' b F s:=by
 obtain ⟨hb,a,l,c,F1,F2,po,b5,b6,b7,rfl,h1,h2,h3,k1,k2,hB,hR,hO,hw,ho⟩:=h
 exact ⟨hb,a,l,c,F1,F2,po,b5,b6,b7,rfl,h1,h2,h3,k1,k2,hB.fr hf (hd b (by simp)),hR.fr hf (hd.mono (fun x hx=>by simp [hx]) fun _ h=>h) hg,hO.fr hf (hd.mono (fun x hx=>by simp [hx]) fun _ h=>h),hw,ho⟩
theorem cq.lt {H:ae} (h:cq H):ax<H.size:=by
 have h0:=h.1
 unfold aa at h0
 rcases Nat.lt_or_ge ax H.size with h1 | h1
 ·exact h1
 ·simp only [Array.getElem?_eq_none h1] at h0;cases h0
section
variable {H:ae}{b:Nat}{F F':az}{s:SP}{Q:QT}
theorem eJ (hS:eS H b F s) (h:Q (.bool false) H):ac PP Ih #[.pointer (some ⟨b,0,none⟩)] Q H:=by
 obtain ⟨hb,a,l,c,F1,F2,po,b5,b6,b7,rfl,h1,h2,h3,k1,k2,hB,hR,hO,hw,ho⟩:=hS
 have hc0:aa H ⟨b,0,none⟩=some (.pointer (some ⟨hb,0,none⟩)):=hB.cell 0
 apply D8
 unfold LT pV
 simp only [Option.isNone_some,cond_false]
 exact ⟨_,rfl,_,hc0,h⟩
theorem zz {words oops:Int} (hk:cq H) (hbad:¬ (0<=words∧words<=1048576∧0<=oops∧oops<=65536)->Q (.tuple #[.pointer none,.int .i64 1]) H)
  (h:(0<=words∧words<=1048576∧0<=oops∧oops<=65536)->∀ b F H',eS H' b F ⟨⟨words,oops,0,0,0,[]⟩,0,[],false,0,0,0⟩->Fr [] H H'->(∀ x∈F,H.size<=x)->Q (.tuple #[.pointer (some ⟨b,0,none⟩),.int .i64 0]) H'):ac PP FO #[.int .i64 words,.int .i64 oops] Q H:=by
 have hgl:=hk.lt
 apply B8
 unfold Mi A0 iV pV lV
 refine uv hk (fun hb=>⟨_,_,rfl,hbad hb⟩) fun hg hb F H1 hR hf hF=>⟨_,_,rfl,?_⟩
 simp only [show ((0:Int) != 0)=false from rfl,cond_false]
 have hlt:=hR.lt
 have hle:=hf.1
 refine h hg H1.size (H1.size :: (F++[])) _ ⟨hb,none,0,0,F,[],none,0,0,0,rfl,fun hx=>?_,by simp,cA.nil_right _,by omega,by simp,aV.new _ _ _,hR.fr (Fr.push [] _ _) (cA.nil_right _) (by simp),bK.nil 1 _,?_,by simp⟩ hf.more ?_
 ·have:=hlt _ hx;omega
 ·exact ⟨hR.wf,by simp,by simp,by simp,by simp⟩
 ·intro x hx
  simp only [List.append_nil,List.mem_cons] at hx
  rcases hx with rfl | hx
  ·exact hle
  ·exact hF x hx
theorem eS.upd (hS:eS H b F s):∃ hb F1,bW H hb F1 s.h∧aa H ⟨b,0,none⟩=some (.pointer (some ⟨hb,0,none⟩))∧aa H ⟨b,3,none⟩=some (.bool s.op)∧aa H ⟨b,1,none⟩=some (.int .i64 s.king)∧(∀ x∈F1,x∈F)∧b∉F1 ∧
  ∀ H' r',bW H' hb F1 r'->Fr F1 H H'->eS H' b F { s with h:=r' }:=by
 obtain ⟨hb,a,l,c,F1,F2,po,b5,b6,b7,rfl,h1,h2,h3,k1,k2,hB,hR,hO,hw,ho⟩:=hS
 refine ⟨hb,F1,hR,hB.cell 0,hB.cell 3,hB.cell 1,fun x hx=>by simp [hx],h1,fun H' r' hR' hf=>?_⟩
 exact ⟨hb,a,l,c,F1,F2,po,b5,b6,b7,rfl,h1,h2,h3,k1,k2,hB.fr hf h1,hR',hO.fr hf h3.symm,{ hw with h:=hR'.wf },ho⟩
theorem cE (hS:eS H b F s) (h:∀ hb F1,bW H hb F1 s.h->(∀ x∈F1,x∈F)->(∀ H' r',bW H' hb F1 r'->Fr F1 H H'->eS H' b F { s with h:=r' })->Q (.pointer (some ⟨hb,0,none⟩)) H):ac PP su #[.pointer (some ⟨b,0,none⟩)] Q H:=by
 obtain ⟨hb,F1,hR,c0,c3,c1,hsub,hnb,hup⟩:=hS.upd
 apply vP
 unfold K9 pV
 refine eJ hS ⟨_,rfl,?_⟩
 simp only [cond_false]
 exact ⟨_,rfl,_,c0,h hb F1 hR hsub hup⟩
theorem uw (hS:eS H b F s){k:Int} (h:∀ H',eS H' b F (s.crown k).2->Fr F H H'->Q (.int .i64 (s.crown k).1) H'):ac PP Hy #[.pointer (some ⟨b,0,none⟩),.int .i64 k] Q H:=by
 have hS0:=hS
 apply E8
 unfold L3 iV pV cS
 refine eJ hS ⟨_,rfl,?_⟩
 simp only [cond_false]
 obtain ⟨hb,a,l,c,F1,F2,po,b5,b6,b7,rfl,h1,h2,h3,k1,k2,hB,hR,hO,hw,ho⟩:=hS
 have hc0:aa H ⟨b,0,none⟩=some (.pointer (some ⟨hb,0,none⟩)):=hB.cell 0
 refine ⟨_,rfl,_,hc0,fO hR ⟨_,_,rfl,?_⟩⟩
 unfold SP.crown at h
 rw [aY,af]
 refine ap (fun he=>?_) fun he=>?_
 ·rw [if_pos he] at h
  exact h H hS0 (Fr.refl _ _)
 ·rw [if_neg he] at h
  refine ⟨_,rfl,hB.wr (by simp),h _ ⟨hb,a,l,c,F1,F2,po,b5,b6,b7,rfl,h1,h2,h3,k1,k2,hB.set 1 (.int .i64 k),hR.fr (Fr.set (F:=[b]) (by simp)) (fun x hx hn=>h1 (by simp only [List.mem_singleton] at hn;rw [←hn];exact hx)) (by simpa using Ne.symm k1),hO.fr (Fr.set (F:=[b]) (by simp)) (fun x hx hn=>h2 (by simp only [List.mem_singleton] at hn;rw [←hn];exact hx)),?_,ho⟩ (Fr.set (by simp))⟩
  have:∃ o,am s.h.objs k=some o:=by
   unfold RH.clsAt at he
   cases ho:am s.h.objs k with
   | none=>rw [ho] at he;simp at he
   | some o=>exact ⟨o,rfl⟩
  obtain ⟨o,hoo⟩:=this
  have hg:=hw.h.objs.good o (au hoo).1
  have g1:=hg.oop1
  have g2:=hg.oop2
  have g3:=hw.h.o1
  rw [(au hoo).2] at g1 g2
  exact { hw with king0:=by simp;omega,king1:=by simp;omega }
theorem oY (hS:eS H b F s){i w:Int} (hf:∀ o,am s.h.objs s.king=some o->o.fmt=0) (h:∀ H',eS H' b F (s.setRoot i w).2->Fr F H H'->Q (.int .i64 (s.setRoot i w).1) H'):ac PP Eb #[.pointer (some ⟨b,0,none⟩),.int .i64 i,.int .i64 w] Q H:=by
 obtain ⟨hb,F1,hR,c0,c3,c1,hsub,hnb,hup⟩:=hS.upd
 apply xU
 unfold KK iV pV cS
 refine eJ hS ⟨_,rfl,?_⟩
 simp only [cond_false]
 refine ⟨_,rfl,_,c0,_,rfl,_,by rw [al];exact c1,?_⟩
 refine lR hR hf fun H' hR' hf'=>⟨_,rfl,trivial,?_⟩
 exact h H' (hup H' _ hR' hf') (hf'.mono hsub)
theorem tL (hS:eS H b F s) (h:∀ a l c H' ws,Rd 1 H' a l (ag ws)->l<=65537->s.h.reach ws=s.reach->Fr [] H H'->Q (.slice a l c) H'):ac PP KP #[.pointer (some ⟨b,0,none⟩)] Q H:=by
 obtain ⟨hb,a,l,c,F1,F2,po,b5,b6,b7,rfl,h1,h2,h3,k1,k2,hB,hR,hO,hw,ho⟩:=hS
 have hc1:aa H ⟨b,1,none⟩=some (.int .i64 s.king):=hB.cell 1
 have hc2:aa H ⟨b,2,none⟩=some (.slice a l c):=hB.cell 2
 have hk0:=hw.king0
 have hk1:=hw.king1
 have hm:=hw.many
 have hl:l=s.stack.length:=by have:=hO.len;simpa [ag] using this.symm
 have hs1:aI PP 30=some (1,8,some (.int .i64 0)):=by kernel_rfl
 apply BE
 unfold LK A0 iV lV cS
 refine ⟨_,rfl,_,by rw [al];exact hc1,?_⟩
 by_cases hz:s.king=0
 ·refine DB (by omega) ⟨_,_,rfl,?_⟩
  simp only [show ((1:Int) != 0)=true from rfl,cond_true]
  refine ⟨_,rfl,_,_,_,by rw [al];exact hc2,h _ _ _ H _ hO.rd (by omega) ?_ (Fr.refl _ _)⟩
  unfold SP.reach SP.roots RH.reach
  rw [hz]
  congr 1
  funext k
  have hn0:aT s.h (4*0)=0:=by
   unfold aT
   rw [if_neg]
   rintro ⟨h1,_⟩
   exact absurd h1 (by decide)
  have:Reaches s.h s.stack k↔Reaches s.h (4*0 :: s.stack) k:=by
   constructor
   ·intro hr
    induction hr with
    | root hw' hne=>exact .root (by simp [hw']) hne
    | cls _ h2 h3 ih=>exact .cls ih h2 h3
    | slot _ h2 h3 h4 h5 ih=>exact .slot ih h2 h3 h4 h5
   ·intro hr
    induction hr with
    | @root w hw' hne =>
     rcases List.mem_cons.1 hw' with rfl | hw'
     ·exact absurd hn0 hne
     ·exact .root hw' hne
    | cls _ h2 h3 ih=>exact .cls ih h2 h3
    | slot _ h2 h3 h4 h5 ih=>exact .slot ih h2 h3 h4 h5
  rw [Bool.eq_iff_iff,decide_eq_true_iff,decide_eq_true_iff]
  exact this
 ·refine ky (by omega) ⟨_,_,rfl,?_⟩
  simp only [show ((0:Int) != 0)=false from rfl,cond_false]
  refine ⟨_,rfl,_,_,_,by rw [al];exact (fz hB.lt).trans hc2,?_⟩
  have hown:bK 1 (H.push (.cells #[.int .i64 (4*s.king)] 26)) (some ⟨H.size,0,none⟩) 1 1 (ag [4*s.king]) [H.size]:=⟨by simp [ag],Nat.le_refl _,.inr ⟨H.size,_,rfl,rfl,aV.new _ _ _,by simp,by simp [ag]⟩⟩
  refine dn hs1 rfl (by kernel_rfl) hown (hO.fr (Fr.push [] _ _) (by simp)).rd fM (by omega) (by decide) (by decide) fun a' c' F' H' g1 g2 g3=>⟨_,_,_,rfl,?_⟩
  have hfr:=Up.fresh (H:=H) (Fr.push [] H _) g2 (by simp)
  refine h _ _ _ H' s.roots ?_ (by omega) rfl hfr.1
  have e2:ag s.roots=ag [4*s.king]++ag s.stack:=by simp [ag,SP.roots]
  rw [e2]
  exact g1.rd
end
section
variable {H:ae}{b:Nat}{F F':az}{s:SP}{Q:QT}
theorem Gs {hb:Nat}{F1:az}{r:RH} (hR:bW H hb F1 r){a2:Option Addr}{l2 c2:Nat}{ws:List Int} (hk:Rd 1 H a2 l2 (ag ws)) (hlk:l2<=1000000)
  (h:∀ H',bW H' hb F1 (r.keep (r.reach ws)).2->Fr F1 H H'->Q (mY (r.keep (r.reach ws)).1) H'):ac PP Iu #[.pointer (some ⟨hb,0,none⟩),.slice a2 l2 c2] Q H:=by
 apply Ej
 unfold L8 iV pV lV cS
 refine zS hR hk hlk fun a l c G H1 ho hf hG=>⟨_,_,_,_,rfl,?_⟩
 simp only [show ((0:Int) != 0)=false from rfl,cond_false]
 have hR1:=hR.fr hf (cA.nil_right _) (by simp)
 have hlt:=hR.lt
 have hll:l<=1099511627776:=by
  have h1:=ho.len
  have h2:(r.reach ws).length<=r.all.length:=List.length_filter_le _ _
  have h3:=r.upto_len (r.oops+1).toNat
  have h4:=hR.wf.o1
  have h5:r.all.length<=(r.oops+1).toNat:=h3
  simp only [ag,List.length_map] at h1
  omega
 refine vA (tC hb r) hR1 ho.rd (fun p hp hin=>?_) hll fun H2 hR2 hf2=>⟨_,_,_,rfl,h H2 hR2 ((hf.of_nil).trans hf2)⟩
 have hpG:p.block∈G:=by
  rcases ho.2.2 with ⟨h1,_⟩ | ⟨b',_,h1,rfl,_⟩
  ·rw [h1] at hp;cases hp
  ·rw [h1] at hp;cases hp;simp
 have h1:=hG _ hpG
 have h2:=hlt _ hin
 omega
theorem eS.nilfr {H':ae} (hS:eS H b F s) (hf:Fr [] H H'):eS H' b F s:=hS.fr hf (cA.nil_right _) (by simp)
theorem pA (hS:eS H b F s) (h:∀ H',eS H' b F s.collect.2->Fr F H H'->aa H' ⟨b,0,none⟩=aa H ⟨b,0,none⟩->Q (mY s.collect.1) H'):ac PP Gg #[.pointer (some ⟨b,0,none⟩)] Q H:=by
 obtain ⟨hb,F1,hR,c0,c3,c1,hsub,hnb,hup⟩:=hS.upd
 apply Cv
 unfold KU iV pV lV cS
 unfold SP.collect at h
 refine eJ hS ⟨_,rfl,?_⟩
 simp only [cond_false]
 refine ⟨_,rfl,_,by rw [al];exact c3,?_⟩
 cases hop:s.op with
 | true =>
  rw [hop] at h
  simp only [cond_true]
  exact h H hS (Fr.refl _ _) rfl
 | false =>
  rw [if_neg (by rw [hop];simp)] at h
  simp only [cond_false]
  refine ⟨_,rfl,_,c0,tL hS fun a l c H1 ws hk hl he hf=>?_⟩
  have hS1:=hS.nilfr hf
  obtain ⟨hb',F1',hR1,c01,c31,c11,hsub1,hnb1,hup1⟩:=hS1.upd
  have hlt:=hS.lt
  have hbl:b<H.size:=hlt b hS.bmem
  have hsame:aa H1 ⟨b,0,none⟩=aa H ⟨b,0,none⟩:=by unfold aa;rw [hf.2 b hbl (by simp)]
  have hbe:hb'=hb:=by rw [hsame,c0] at c01;simpa using c01.symm
  subst hbe
  refine ⟨_,_,_,rfl,⟨⟨by rw [hsame];exact c0,trivial⟩,trivial⟩,?_⟩
  refine Gs hR1 hk (by omega) fun H2 hR2 hf2=>⟨_,_,_,rfl,trivial,?_⟩
  rw [he] at hR2 ⊢
  refine h H2 (hup1 H2 _ hR2 hf2) ((hf.of_nil).trans (hf2.mono hsub1)) ?_
  rw [←hsame];unfold aa;rw [hf2.2 b (Nat.lt_of_lt_of_le hbl hf.1) hnb1]
theorem fI (hS:eS H b F s){cls n f:Int} (h:∀ H',eS H' b F (s.alloc cls n f).2->Fr F H H'->Q (.tuple #[.int .i64 (if (s.alloc cls n f).1.2=0 then (s.alloc cls n f).1.1 else 0),.int .i64 (s.alloc cls n f).1.2]) H') :
  ac PP EF #[.pointer (some ⟨b,0,none⟩),.int .i64 cls,.int .i64 n,.int .i64 f] Q H:=by
 have hS0:eS (H.push (.cells #[.pointer (some ⟨b,0,none⟩)] 34)) b F s:=hS.nilfr (Fr.push [] _ _)
 have hB0:aV (H.push (.cells #[.pointer (some ⟨b,0,none⟩)] 34)) H.size #[.pointer (some ⟨b,0,none⟩)]:=aV.new _ _ _
 have hlt:=hS.lt
 have hbx:H.size∉F:=fun hx=>by have:=hlt _ hx;omega
 apply yy
 unfold FF A0 iV pV cS
 refine ⟨_,hB0.cell 0,eJ hS0 ⟨_,rfl,?_⟩⟩
 simp only [cond_false]
 have hf0:Fr F H (H.push (.cells #[.pointer (some ⟨b,0,none⟩)] 34)):=Fr.push _ _ _
 generalize (H.push (.cells #[.pointer (some ⟨b,0,none⟩)] 34))=H0 at hS0 hB0 hf0 ⊢
 obtain ⟨hb,F1,hR,c0,c3,c1,hsub,hnb,hup⟩:=hS0.upd
 refine ⟨_,hB0.cell 0,_,rfl,_,c0,?_⟩
 have fin:∀ (p:Int × Int) (s':SP) (H2:ae),eS H2 b F s'->Fr F H H2->s.alloc cls n f=((4*p.1,p.2),s')->(p.2=0->1<=p.1∧p.1<=65536) ->
   ∃ n12 n13:Int,Fi p=.tuple #[.int .i64 n12,.int .i64 n13]∧cond (n13 != 0) (Q (.tuple #[.int .i64 0,.int .i64 n13]) H2) (ac PP wa #[.int .i64 n12] (fun v14 H3=>∃ n15:Int,∃ n16:Int,v14=.tuple #[.int .i64 n15,.int .i64 n16]∧Q (.tuple #[.int .i64 n15,.int .i64 n16]) H3) H2):=by
  intro p s' H2 hS2 hf2 he hb
  rw [he] at h
  refine ⟨_,_,rfl,?_⟩
  rw [aY,af]
  refine ap (fun hne=>?_) fun hne=>?_
  ·have:=h H2 hS2 hf2
   simp only [hne,if_false] at this
   exact this
  ·have hz:p.2=0:=Classical.byContradiction hne
   have hbb:=hb hz
   refine ky hbb ⟨_,_,rfl,?_⟩
   have:=h H2 hS2 hf2
   simp only [hz,if_true] at this
   exact this
 have bnd:∀ (r:RH),WFH r->(r.alloc cls n f).1.2=0->1<=(r.alloc cls n f).1.1∧(r.alloc cls n f).1.1<=65536:=by
  intro r hw hz
  have ho1:=hw.o1
  unfold RH.alloc at hz ⊢
  split at hz
  ·simp at hz
  rename_i g1
  split at hz
  ·simp at hz
  rename_i g2
  split at hz
  ·simp at hz
  rename_i g3
  split at hz
  ·simp at hz
  rename_i g4
  rw [if_neg g1,if_neg g2,if_neg g3,if_neg g4]
  have:=dE hw.objs hw.o1 (by omega)
  exact ⟨this.1,by have:=this.2.1;simp only;omega⟩
 apply zN
 unfold Hq iV
 show ac PP uR #[.pointer (some ⟨hb,0,none⟩),.int .i64 cls,.int .i64 n,.int .i64 f] _ H0
 refine nL hR fun H1 hR1 hf1=>⟨_,_,rfl,?_⟩
 have hS1:=hup H1 _ hR1 hf1
 have hfr1:Fr F H H1:=hf0.trans (hf1.mono hsub)
 have hB1:=hB0.fr (hf1.mono hsub) hbx
 have hwf:=hS.wf.h
 rw [aX,af]
 refine ap (fun he=>?_) fun he=>?_
 ·have hfull:=qG he
  have hS1':eS H1 b F s:=by
   have e:({ s with h:=(s.h.alloc cls n f).2 }:SP)=s:=by rw [hfull]
   rw [e] at hS1;exact hS1
  show ac PP E0 #[.pointer (some ⟨H.size,0,none⟩)] _ H1
  apply xq
  unfold Km iV pV cS
  refine ⟨_,hB1.cell 0,pA hS1' fun H2 hS2 hf2 hsm=>⟨_,_,_,rfl,_,rfl,?_⟩⟩
  have hB2:=hB1.fr hf2 hbx
  cases hop:s.op with
  | true =>
   have ec:s.collect=((0,0,25),s):=by unfold SP.collect;rw [hop];rfl
   rw [ec] at hS2 ⊢
   simp only [show ((25:Int) == 0)=false from rfl,cond_false]
   have ea:s.alloc cls n f=((4*(s.h.alloc cls n f).1.1,(s.h.alloc cls n f).1.2),s):=by
    unfold SP.alloc
    rw [if_pos (.inr hop),hfull]
   exact fin (s.h.alloc cls n f).1 s H2 hS2 (hfr1.trans hf2) ea (bnd _ hwf)
  | false =>
   have ec:s.collect=((s.h.keep s.reach).1,{ s with h:=(s.h.keep s.reach).2 }):=by unfold SP.collect;rw [hop];rfl
   have ek:(s.h.keep s.reach).1.2.2=0:=by
    unfold RH.keep
    rw [if_neg]
    rintro ⟨k,hk,hn⟩
    exact ((RH.mem_reach hwf).1 hk).there hn
   rw [ec] at hS2 ⊢
   simp only [ek,show ((0:Int) == 0)=true from rfl,cond_true]
   obtain ⟨hb',F1',hR3,c03,_,_,hsub3,_,hup3⟩:=hS2.upd
   have hbe:hb'=hb:=by
    have h1:aa H2 ⟨b,0,none⟩=some (.pointer (some ⟨hb,0,none⟩)):=by
     rw [hsm,←c0];unfold aa;rw [hf1.2 b (by have:=hS0.lt b hS0.bmem;exact this) hnb]
    rw [c03] at h1;simpa using h1
   subst hbe
   show ac PP uR #[.pointer (some ⟨hb',0,none⟩),.int .i64 cls,.int .i64 n,.int .i64 f] _ H2
   refine nL hR3 fun H4 hR4 hf4=>⟨_,_,rfl,?_⟩
   have hS4:=hup3 H4 _ hR4 hf4
   have ea:s.alloc cls n f=((4*((s.h.keep s.reach).2.alloc cls n f).1.1,((s.h.keep s.reach).2.alloc cls n f).1.2),{ s with h:=((s.h.keep s.reach).2.alloc cls n f).2 }):=by
    unfold SP.alloc
    rw [if_neg (by simp [he,hop])]
   exact fin ((s.h.keep s.reach).2.alloc cls n f).1 _ H4 hS4 ((hfr1.trans hf2).trans (hf4.mono hsub3)) ea (bnd _ (dF hwf _))
 ·have ea:s.alloc cls n f=((4*(s.h.alloc cls n f).1.1,(s.h.alloc cls n f).1.2),{ s with h:=(s.h.alloc cls n f).2 }):=by
   unfold SP.alloc
   rw [if_pos (.inl he)]
  exact fin (s.h.alloc cls n f).1 _ H1 hS1 hfr1 ea (bnd _ hwf)
theorem lE (hS:eS H b F s){a2:Option Addr}{l2 c2:Nat}{ws:List Int} (hk:Rd 1 H a2 l2 (ag ws)) (hlk:l2<=1000000000) (h:∀ H' F',eS H' b F' (s.keepW ws).2->Up F H F' H'->Q (.int .i64 (s.keepW ws).1) H'):ac PP Hl #[.pointer (some ⟨b,0,none⟩),.slice a2 l2 c2] Q H:=by
 have hS0:=hS
 have hlt0:=hS.lt
 have hkd:=hS.kinds
 have hgl:=hkd.lt
 apply Dy
 unfold LQ iV wW pV lV cS
 unfold SP.keepW at h
 refine eJ hS ⟨_,rfl,?_⟩
 simp only [cond_false]
 refine mz hkd hk hlk ⟨_,rfl,?_⟩
 rw [af]
 refine ap (fun hbad=>?_) fun hbad=>?_
 ·rw [if_pos hbad] at h;exact h H F hS0 (Up.refl _ _)
 rw [if_neg hbad] at h
 obtain ⟨hb,a,l,c,F1,F2,po,b5,b6,b7,rfl,h1,h2,h3,k1,k2,hB,hR,hO,hw,ho⟩:=hS
 have hc2:aa H ⟨b,2,none⟩=some (.slice a l c):=hB.cell 2
 have hl:l=s.stack.length:=by have:=hO.len;simpa [ag] using this.symm
 have hl2:l2=ws.length:=by have:=hk.1;simpa [ag] using this.symm
 have hm:=hw.many
 have hs1:aI PP 30=some (1,8,some (.int .i64 0)):=by kernel_rfl
 refine ⟨_,rfl,_,_,_,by rw [al];exact hc2,?_⟩
 rw [ah (by omega) (by omega),af]
 refine ap (fun hbig=>?_) fun hbig=>?_
 ·rw [if_pos (by omega)] at h;exact h H _ hS0 (Up.refl _ _)
 rw [if_neg (by omega)] at h
 refine ⟨_,rfl,_,_,_,by rw [al];exact hc2,?_⟩
 refine dn hs1 rfl (by kernel_rfl) hO hk fM (by omega) (by decide) (by decide) fun a' c' F3 H1 g1 g2 g3=>⟨_,_,_,rfl,_,rfl,?_⟩
 have hbF3:b∉F3:=fun hx=>by
  rcases g2.2 b hx with h4 | h4
  ·exact h2 h4
  ·have:=hlt0 b (by simp);omega
 have hgF3:ax∉F3:=fun hx=>by
  rcases g2.2 _ hx with h4 | h4
  ·exact k2 h4
  ·omega
 have hB1:=hB.fr g2.1 h2
 have hfb:Fr [b] H1 (av H1 ⟨b,2,none⟩ (.slice a' (l+l2) c')):=Fr.set (by simp)
 rw [al]
 refine ⟨hB1.wr (by simp),h _ (b :: (F1++F3)) ⟨hb,a',l+l2,c',F1,F3,po,b5,b6,b7,rfl,h1,hbF3,fun x hx hx3=>?_,k1,hgF3,hB1.set 2 (.slice a' (l+l2) c'),?_,?_,?_,ho⟩ ⟨?_,fun x hx=>?_⟩⟩
 ·rcases g2.2 x hx3 with h4 | h4
  ·exact h3 x hx h4
  ·have:=hlt0 x (by simp [hx]);omega
 ·exact (hR.fr g2.1 h3 k2).fr hfb (fun x hx hn=>h1 (by simp only [List.mem_singleton] at hn;rw [←hn];exact hx)) (by simpa using Ne.symm k1)
 ·simp only
  rw [bX]
  exact g1.fr hfb (fun x hx hn=>hbF3 (by simp only [List.mem_singleton] at hn;rw [←hn];exact hx))
 ·refine { hw with many:=?_,words:=fun w hw'=>?_ }
  ·simp only [List.length_append];omega
  ·rcases List.mem_append.1 hw' with h4 | h4
   ·exact hw.words w h4
   ·exact Classical.byContradiction fun hn=>hbad ⟨w,h4,hn⟩
 ·exact (g2.1.mono (F':=b :: (F1++F2)) fun x hx=>by simp [hx]).trans (hfb.mono fun x hx=>by simp only [List.mem_singleton] at hx;simp [hx])
 ·rcases List.mem_cons.1 hx with rfl | hx
  ·exact .inl (by simp)
  ·rcases List.mem_append.1 hx with hx | hx
   ·exact .inl (by simp [hx])
   ·exact (g2.2 x hx).imp (fun h4=>by simp [h4]) id
theorem qd (hS:eS H b F s) (h:∀ a c H',Rd 1 H' a s.stack.length (ag s.stack)->Fr [] H H'->Q (.slice a s.stack.length c) H'):ac PP IY #[.pointer (some ⟨b,0,none⟩)] Q H:=by
 apply EQ
 unfold Mg pV lV cS
 refine eJ hS ⟨_,rfl,?_⟩
 simp only [cond_false]
 obtain ⟨hb,a,l,c,F1,F2,po,b5,b6,b7,rfl,h1,h2,h3,k1,k2,hB,hR,hO,hw,ho⟩:=hS
 have hc2:aa H ⟨b,2,none⟩=some (.slice a l c):=hB.cell 2
 have hl:l=s.stack.length:=by have:=hO.len;simpa [ag] using this.symm
 have hm:=hw.many
 refine ⟨_,rfl,_,_,_,by rw [al];exact hc2,?_⟩
 refine vB hO.rd (by omega) fun a' c' G H1 ho1 hf1 hG=>⟨_,_,_,rfl,?_⟩
 apply yQ
 unfold Ht lV
 have hlc:=ho1.2.1
 refine ⟨⟨⟨by omega,by omega⟩,by omega,by omega⟩,_,_,_,rfl,?_⟩
 rw [Int.toNat_natCast,hl]
 rw [hl] at ho1
 exact h _ _ H1 ho1.rd hf1
theorem me (hS:eS H b F s){n:Int} (hn:Hx n) (h:∀ H',eS H' b F (s.drop n).2->Fr F H H'->Q (.int .i64 (s.drop n).1) H'):ac PP Kv #[.pointer (some ⟨b,0,none⟩),.int .i64 n] Q H:=by
 have hS0:=hS
 apply Fn
 unfold k8 iV wW pV lV
 unfold SP.drop at h
 refine eJ hS ⟨_,rfl,?_⟩
 simp only [cond_false,af]
 refine ap (fun hneg=>?_) fun hneg=>?_
 ·rw [if_pos (.inl hneg)] at h;exact h H hS0 (Fr.refl _ _)
 obtain ⟨hb,a,l,c,F1,F2,po,b5,b6,b7,rfl,h1,h2,h3,k1,k2,hB,hR,hO,hw,ho⟩:=hS
 have hc2:aa H ⟨b,2,none⟩=some (.slice a l c):=hB.cell 2
 have hl:l=s.stack.length:=by have:=hO.len;simpa [ag] using this.symm
 have hm:=hw.many
 refine ⟨_,rfl,_,_,_,by rw [al];exact hc2,ap (fun hbig=>?_) fun hbig=>?_⟩
 ·rw [if_pos (.inr (by omega))] at h;exact h H hS0 (Fr.refl _ _)
 rw [if_neg (by omega)] at h
 have e:IntKind.wrap .i64 ((l:Int)-n)=(l:Int)-n:=ah (by omega) (by omega)
 have hlc:=hO.2.1
 refine ⟨_,rfl,_,_,_,by rw [al];exact hc2,_,rfl,_,_,_,by rw [al];exact hc2,?_⟩
 rw [e]
 have hfb:Fr [b] H (av H ⟨b,2,none⟩ (.slice a ((l:Int)-n).toNat c)):=Fr.set (by simp)
 refine ⟨⟨by omega,by omega⟩,_,rfl,by rw [al];exact hB.wr (by simp),trivial,?_⟩
 rw [al]
 refine h _ ⟨hb,a,((l:Int)-n).toNat,c,F1,F2,po,b5,b6,b7,rfl,h1,h2,h3,k1,k2,hB.set 2 _,?_,?_,?_,ho⟩ (hfb.mono fun x hx=>by simp only [List.mem_singleton] at hx;simp [hx])
 ·exact hR.fr hfb (fun x hx hn=>h1 (by simp only [List.mem_singleton] at hn;rw [←hn];exact hx)) (by simpa using Ne.symm k1)
 ·have h4:=hO.fr hfb (fun x hx hn=>h2 (by simp only [List.mem_singleton] at hn;rw [←hn];exact hx))
  have h5:s.stack.length-n.toNat=((l:Int)-n).toNat:=by omega
  simp only
  rw [h5]
  refine ⟨by simp [ag];omega,by omega,?_⟩
  rcases h4.2.2 with ⟨h6,h7,h8⟩ | ⟨b',cs,h6,h7,h8,h9,h10⟩
  ·exact .inl ⟨h6,h7,h8⟩
  ·refine .inr ⟨b',cs,h6,h7,h8,h9,?_⟩
   have h11:(cs.toList.take (l*1)).take (((l:Int)-n).toNat*1)=(ag s.stack).take (((l:Int)-n).toNat*1):=by rw [h10]
   rw [List.take_take] at h11
   have h12:min (((l:Int)-n).toNat*1) (l*1)=((l:Int)-n).toNat*1:=by omega
   rw [h12] at h11
   rw [h11]
   simp [ag,List.map_take]
 ·refine { hw with many:=?_,words:=fun w hw'=>hw.words w (List.mem_of_mem_take hw') }
  simp only [List.length_take];omega
end
end Go.Proofs.YtgjfejoohojokaaGreatDoor
namespace Kw
open Go
def bg (l:List ByteArray):List Value:=l.map .string
theorem tV {l:List ByteArray}:∀ v∈bg l,dC v=true:=by
 intro v hv
 simp only [bg,List.mem_map] at hv
 obtain ⟨i,_,rfl⟩:=hv
 rfl
theorem eK (l m:List ByteArray):bg (l++m)=bg l++bg m:=by simp [bg]
theorem Rd.str {H:ae}{a:Option Addr}{l:Nat}{ys:List ByteArray} (h:Rd 1 H a l (bg ys)){i:Int} (h0:0<=i) (h1:i<l):∃ p,∃ hlt:i.toNat<ys.length,a=some p∧aa H (p.add i.toNat)=some (.string ys[i.toNat]):=by
 have hl:=h.1
 simp only [bg,List.length_map] at hl
 cases a with
 | none=>have:=h.2.1 rfl;omega
 | some p =>
  have hi:i.toNat<ys.length:=by omega
  refine ⟨p,hi,rfl,?_⟩
  rw [h.2.2 p rfl i.toNat (by omega)]
  simp [bg,hi]
structure TB where
 most:Int
 texts:List ByteArray
def bx (s:ByteArray):Prop:=1<=s.size∧s.size<=96
instance (s:ByteArray):Decidable (bx s):=inferInstanceAs (Decidable (_∧_))
structure WFT (t:TB):Prop where
 m0:0<=t.most
 m1:t.most<=4096
 len:(t.texts.length:Int)<=t.most
 nodup:t.texts.Nodup
 good:∀ s∈t.texts,bx s
def bL:List ByteArray->ByteArray->Option Nat
 | [],_=>none
 | x :: l,s=>if x=s then some 0 else (bL l s).map (·+1)
theorem iR {l:List ByteArray}{s:ByteArray}:bL l s=none↔s∉l:=by
 induction l with
 | nil=>simp [bL]
 | cons x l ih =>
  unfold bL
  by_cases h:x=s
  ·simp [h]
  ·rw [if_neg h]
   simp only [Option.map_eq_none_iff,ih,List.mem_cons,not_or]
   exact ⟨fun h1=>⟨fun e=>h e.symm,h1⟩,fun h1=>h1.2⟩
theorem oh {l:List ByteArray}{s x:ByteArray}:bL (l++[s]) x=match bL l x with
  | some n=>some n
  | none=>if s=x then some l.length else none:=by
 induction l with
 | nil=>simp [bL]
 | cons y l ih =>
  simp only [List.cons_append,bL]
  by_cases h:y=x
  ·simp [h]
  ·rw [if_neg h,if_neg h,ih]
   cases bL l x with
   | some n=>rfl
   | none =>
    simp only [Option.map_none]
    by_cases h2:s=x <;> simp [h2]
def TB.add (t:TB) (s:ByteArray):(Int × Int) × TB :=
 if ¬ bx s then ((0,61),t) else match bL t.texts s with
 | some n=>(((n:Int),0),t)
 | none=>if t.most<=(t.texts.length:Int) then ((0,60),t) else (((t.texts.length:Int),0),{ t with texts:=t.texts++[s] })
theorem fo {t:TB} (h:WFT t) (s:ByteArray):WFT (t.add s).2:=by
 unfold TB.add
 split
 ·exact h
 ·rename_i hg
  have hg:bx s:=Classical.byContradiction hg
  cases hn:bL t.texts s with
  | some n=>exact h
  | none =>
   simp only
   split
   ·exact h
   ·refine { h with len:=by simp;omega,nodup:=?_,good:=fun x hx=>?_ }
    ·rw [List.nodup_append]
     exact ⟨h.nodup,by simp,fun a ha b hb e=>iR.1 hn (by simp only [List.mem_singleton] at hb;rw [←hb,←e];exact ha)⟩
    ·rcases List.mem_append.1 hx with hx | hx
     ·exact h.good x hx
     ·simp only [List.mem_singleton] at hx;rw [hx];exact hg
end Kw
namespace Kw
open Go
def eq (r:RH) (o:Int) (ws:List Int):Prop:=∃ x,am r.objs o=some x∧x.fmt=0∧x.slots=ws
theorem eq.uniq {r:RH}{o:Int}{ws ws':List Int} (h:eq r o ws) (h':eq r o ws'):ws=ws':=by
 obtain ⟨x,h1,_,h3⟩:=h
 obtain ⟨y,h4,_,h6⟩:=h'
 rw [h1] at h4;cases h4
 rw [←h3,←h6]
theorem eq.size {r:RH}{o:Int}{ws:List Int} (h:eq r o ws):r.size o=((ws.length:Int),0,0):=by
 obtain ⟨x,h1,h2,h3⟩:=h
 simp [RH.size,h1,h2,h3]
theorem eq.at {r:RH}{o:Int}{ws:List Int} (h:eq r o ws){i:Int} (h0:0<=i) (h1:i<ws.length):r.at o i=(ws[i.toNat]'(by omega),0):=by
 obtain ⟨x,h2,_,h3⟩:=h
 subst h3
 simp only [RH.at,h2]
 rw [if_neg (by omega)]
 have:i.toNat<x.slots.length:=by omega
 simp [this]
theorem eq.bnd {r:RH} (hw:WFH r){o:Int}{ws:List Int} (h:eq r o ws):1<=o∧o<=65536∧ws.length<=8192∧∀ w∈ws,cR w:=by
 obtain ⟨x,h1,h2,h3⟩:=h
 have hg:=hw.objs.good x (au h1).1
 have ho:=(au h1).2
 have h4:=hg.oop1
 have h5:=hg.oop2
 have h6:=hw.o1
 subst h3
 refine ⟨by omega,by omega,hg.many,fun w hw'=>?_⟩
 have:=hg.may w hw'
 unfold eO at this
 rw [if_neg (by omega)] at this
 exact this
theorem eq.there {r:RH}{o:Int}{ws:List Int} (h:eq r o ws):am r.objs o≠none:=by
 obtain ⟨x,h1,_⟩:=h;rw [h1];simp
theorem nC {r:RH}{o:Int} (h0:1<=o) (h1:o<=65536) (h:am r.objs o≠none):aT r (4*o)=o:=by
 unfold aT
 have hk:aD (4*o)=3:=by
  have:=aS (4*o)
  omega
 have e:4*o / 4=o:=by omega
 have hs:(am r.objs o).isSome:=by cases ho:am r.objs o with
  | none=>exact absurd ho h
  | some _=>rfl
 rw [e,if_pos ⟨hk,hs⟩]
def bd (r r':RH) (P:Int->Prop):Prop:=∀ k,P k->∀ x,am r.objs k=some x->∃ y,am r'.objs k=some y∧y.cls=x.cls∧y.fmt=x.fmt∧y.slots=x.slots
theorem bd.refl (r:RH) (P:Int->Prop):bd r r P:=fun k _ x hx=>⟨x,hx,rfl,rfl,rfl⟩
theorem bd.trans {r r' r'':RH}{P:Int->Prop} (h:bd r r' P) (h':bd r' r'' P):bd r r'' P:=fun k hk x hx=>by
 obtain ⟨y,h1,h2,h3,h4⟩:=h k hk x hx
 obtain ⟨z,g1,g2,g3,g4⟩:=h' k hk y h1
 exact ⟨z,g1,g2.trans h2,g3.trans h3,g4.trans h4⟩
theorem bd.mono {r r':RH}{P P':Int->Prop} (h:bd r r' P) (hp:∀ k,P' k->P k):bd r r' P':=fun k hk=>h k (hp k hk)
theorem eq.keep {r r':RH}{P:Int->Prop}{o:Int}{ws:List Int} (h:eq r o ws) (hk:bd r r' P) (hp:P o):eq r' o ws:=by
 obtain ⟨x,h1,h2,h3⟩:=h
 obtain ⟨y,g1,_,g3,g4⟩:=hk o hp x h1
 exact ⟨y,g1,g3.trans h2,g4.trans h3⟩
theorem gO {r:RH} (hw:WFH r) (cls n f:Int):bd r (r.alloc cls n f).2 fun _=>True:=by
 intro k _ x hx
 unfold RH.alloc
 split
 ·exact ⟨x,hx,rfl,rfl,rfl⟩
 split
 ·exact ⟨x,hx,rfl,rfl,rfl⟩
 split
 ·exact ⟨x,hx,rfl,rfl,rfl⟩
 split
 ·exact ⟨x,hx,rfl,rfl,rfl⟩
 ·refine ⟨x,?_,rfl,rfl,rfl⟩
  rw [dd,hx]
theorem gX {r:RH} (hw:WFH r){cls n f:Int} (h:(r.alloc cls n f).1.2=0):am r.objs (r.alloc cls n f).1.1=none∧1<=(r.alloc cls n f).1.1∧(r.alloc cls n f).1.1<=65536∧0<=n∧n<=8192 ∧
  (f=0->eq (r.alloc cls n f).2 (r.alloc cls n f).1.1 (List.replicate n.toNat 4)):=by
 have ho1:=hw.o1
 unfold RH.alloc at h ⊢
 split at h
 ·simp at h
 rename_i g1
 split at h
 ·simp at h
 rename_i g2
 split at h
 ·simp at h
 rename_i g3
 split at h
 ·simp at h
 rename_i g4
 have hl:=dE hw.objs hw.o1 (by omega)
 rw [if_neg g1,if_neg g2,if_neg g3,if_neg g4]
 refine ⟨hl.2.2.1,hl.1,by have:=hl.2.1;simp only;omega,by omega,by omega,fun hf=>?_⟩
 subst hf
 refine ⟨cl r cls n 0,?_,rfl,by simp [cl]⟩
 simp only
 rw [dd,hl.2.2.1]
 simp [cl]
theorem nj {r:RH} (k i w:Int):bd r (r.put k i w).2 fun j=>j≠k:=by
 intro j hj x hx
 unfold RH.put
 split
 ·exact ⟨x,hx,rfl,rfl,rfl⟩
 split
 ·exact ⟨x,hx,rfl,rfl,rfl⟩
 split
 ·exact ⟨x,hx,rfl,rfl,rfl⟩
 ·refine ⟨x,?_,rfl,rfl,rfl⟩
  show am (fg r.objs k (cM i w)) j=some x
  rw [bZ (f:=cM i w) (fun o=>rfl),hx]
  have:=(au hx).2
  simp only [Option.map_some]
  rw [if_neg (by omega)]
theorem td {r:RH}{k:Int}{ws:List Int} (h:eq r k ws){i w:Int} (h0:0<=i) (h1:i<ws.length) (hw:cR w):eq (r.put k i w).2 k (ws.set i.toNat w)∧(r.put k i w).1=0:=by
 obtain ⟨x,h2,h3,h4⟩:=h
 subst h4
 have hm:eO x.fmt w:=by unfold eO;rw [if_neg (by omega)];exact hw
 simp only [RH.put,h2]
 rw [if_neg (by omega),if_neg (by simpa using hm)]
 refine ⟨⟨cM i w x,?_,h3,rfl⟩,rfl⟩
 show am (fg r.objs k (cM i w)) k=some (cM i w x)
 rw [bZ (f:=cM i w) (fun o=>rfl),h2]
 have:=(au h2).2
 simp [this]
theorem qD {at_:Int}{l:List RO}{k:Int}:∀ x,am l k=some x->∃ y,am (bo at_ l) k=some y∧y.cls=x.cls∧y.fmt=x.fmt∧y.slots=x.slots:=by
 induction l generalizing at_ with
 | nil=>intro x hx;cases hx
 | cons o l ih =>
  intro x hx
  unfold am at *
  simp only [bo,List.find?_cons] at hx ⊢
  by_cases h:o.oop=k
  ·simp only [h,decide_true] at hx ⊢
   cases hx
   exact ⟨_,rfl,rfl,rfl,rfl⟩
  ·simp only [h,decide_false] at hx ⊢
   exact ih x hx
theorem gq {r:RH} (l:List Int):bd r (r.keep l).2 fun k=>k∈l:=by
 intro k hk x hx
 unfold RH.keep
 split
 ·exact ⟨x,hx,rfl,rfl,rfl⟩
 ·simp only [RH.keepO]
  refine qD x ?_
  unfold am at hx ⊢
  rw [List.find?_filter]
  have ho:=(au (l:=r.objs) (k:=k) (o:=x) hx).2
  rw [←hx]
  congr 1
  funext a
  by_cases h:a.oop=k
  ·simp [h,hk]
  ·simp [h]
theorem gE {r:RH} (k:Int):bd r (r.marks k).2 fun _=>True:=by
 intro j _ x hx
 unfold RH.marks
 split <;> exact ⟨x,hx,rfl,rfl,rfl⟩
theorem Reaches.mono {r r':RH}{ws ws':List Int} (hw:WFH r) (h:bd r r' (Reaches r ws)) (hs:∀ w∈ws,w∈ws'){k:Int} (hk:Reaches r ws k):Reaches r' ws' k:=by
 have hn:∀ {w:Int},aT r w≠0->Reaches r ws (aT r w)->aT r' w=aT r w:=by
  intro w hne hr
  have ht:=hr.there
  cases ho:am r.objs (aT r w) with
  | none=>exact absurd ho ht
  | some x =>
   obtain ⟨y,g1,_⟩:=h _ hr x ho
   unfold aT at *
   split at hne
   ·rename_i hc
    rw [if_pos hc] at g1
    rw [if_pos hc,if_pos ⟨hc.1,by rw [g1];rfl⟩]
   ·exact absurd rfl hne
 induction hk with
 | @root w h1 h2 =>
  have hr:Reaches r ws (aT r w):=.root h1 h2
  have e:=hn h2 hr
  rw [←e];exact .root (hs w h1) (by rw [e];exact h2)
 | @cls o h1 h2 h3 ih =>
  have hr:Reaches r ws (aT r o.cls):=.cls h1 h2 h3
  have e:=hn h3 hr
  obtain ⟨y,g1,g2,g3,g4⟩:=h _ h1 o (ch hw.objs h2)
  have gy:=au g1
  rw [←e,←g2]
  rw [←gy.2] at ih
  exact .cls ih gy.1 (by rw [g2,e];exact h3)
 | @slot o w h1 h2 h3 h4 h5 ih =>
  have hr:Reaches r ws (aT r w):=.slot h1 h2 h3 h4 h5
  have e:=hn h5 hr
  obtain ⟨y,g1,g2,g3,g4⟩:=h _ h1 o (ch hw.objs h2)
  have gy:=au g1
  rw [←e]
  rw [←gy.2] at ih
  exact .slot ih gy.1 (g3.trans h3) (by rw [g4];exact h4) (by rw [e];exact h5)
theorem Reaches.arr {r:RH}{ws l:List Int}{o k:Int} (h:Reaches r ws o) (ha:eq r o l) (h0:1<=k) (h1:k<=65536) (hk:am r.objs k≠none) (hm:4*k∈l):Reaches r ws k:=by
 obtain ⟨x,g1,g2,g3⟩:=ha
 have gx:=au g1
 have e:=nC h0 h1 hk
 rw [←gx.2] at h
 have:=Reaches.slot (w:=4*k) h gx.1 g2 (by rw [g3];exact hm) (by rw [e];omega)
 rw [e] at this;exact this
theorem Reaches.of_root {r:RH}{ws:List Int}{k:Int} (h0:1<=k) (h1:k<=65536) (hk:am r.objs k≠none) (hm:4*k∈ws):Reaches r ws k:=by
 have e:=nC h0 h1 hk
 have:=Reaches.root (r:=r) (ws:=ws) (w:=4*k) hm (by rw [e];omega)
 rw [e] at this;exact this
theorem mF {s:SP} (hw:WFH s.h):bd s.h s.collect.2.h (Reaches s.h s.roots):=by
 unfold SP.collect
 split
 ·exact bd.refl _ _
 ·exact (gq _).mono fun k hk=>(RH.mem_reach hw).2 hk
theorem rt {s:SP} (hw:WFS s):WFS s.collect.2:=by
 unfold SP.collect
 split
 ·exact hw
 ·exact { hw with h:=dF hw.h _ }
theorem oF (s:SP):s.collect.2.king=s.king∧s.collect.2.stack=s.stack∧s.collect.2.op=s.op:=by
 unfold SP.collect;split <;> exact ⟨rfl,rfl,rfl⟩
theorem ki (s:SP) (cls n f:Int):(s.alloc cls n f).2.king=s.king∧(s.alloc cls n f).2.stack=s.stack∧(s.alloc cls n f).2.op=s.op:=by
 unfold SP.alloc;split <;> exact ⟨rfl,rfl,rfl⟩
theorem nB {s:SP} (hw:WFS s) (cls n f:Int):WFS (s.alloc cls n f).2:=by
 unfold SP.alloc
 split
 ·exact { hw with h:=gW hw.h _ _ _ }
 ·exact { hw with h:=gW (dF hw.h _) _ _ _ }
theorem iZ {s:SP} (hw:WFS s) (cls n f:Int):bd s.h (s.alloc cls n f).2.h (Reaches s.h s.roots):=by
 unfold SP.alloc
 split
 ·exact (gO hw.h _ _ _).mono fun _ _=>trivial
 ·exact ((gq _).mono fun k hk=>(RH.mem_reach hw.h).2 hk).trans ((gO (dF hw.h _) _ _ _).mono fun _ _=>trivial)
theorem mO {s:SP} (hw:WFS s){cls n:Int} (h:(s.alloc cls n 0).1.2=0):∃ o,(s.alloc cls n 0).1.1=4*o∧1<=o∧o<=65536∧0<=n∧n<=8192∧eq (s.alloc cls n 0).2.h o (List.replicate n.toNat 4)∧¬ Reaches s.h s.roots o:=by
 unfold SP.alloc at h ⊢
 split at h
 ·rename_i hc
  rw [if_pos hc]
  obtain ⟨h1,h2,h3,h4,h5,h6⟩:=gX hw.h h
  exact ⟨_,rfl,h2,h3,h4,h5,h6 rfl,fun hr=>hr.there h1⟩
 ·rename_i hc
  rw [if_neg hc]
  obtain ⟨h1,h2,h3,h4,h5,h6⟩:=gX (dF hw.h _) h
  refine ⟨_,rfl,h2,h3,h4,h5,h6 rfl,fun hr=>?_⟩
  have ht:=hr.there
  cases ho:am s.h.objs ((s.h.keep s.reach).2.alloc cls n 0).1.1 with
  | none=>exact ht ho
  | some x =>
   obtain ⟨y,g1,_⟩:=gq s.reach _ ((RH.mem_reach hw.h).2 hr) x ho
   rw [h1] at g1;cases g1
end Kw
namespace Kw
open Go
structure CV where
 oop:Int
 name:Nat
 up:Int
 own:List Nat
 ownA:Int
 selA:Int
 metA:Int
 sels:List Int
 mets:List Int
 lay:Int
structure KV where
 cls:List CV
 clsA:Int
 glob:List (Nat × Int)
 globA:Int
 rest:List Int
def d9 (n:Nat):Int:=4*(n:Int)+2
def CV.slots (c:CV) (i:Nat):List Int:=[d9 c.name,4*c.up,4*c.ownA,4*c.selA,4*c.metA,2*c.lay+1,2*((i:Int)+1)+1]
def eF:List (Nat × Int)->List Int
 | []=>[]
 | (n,v) :: l=>d9 n :: v :: eF l
theorem mR (l:List (Nat × Int)):(eF l).length=2*l.length:=by
 induction l with
 | nil=>rfl
 | cons p l ih=>obtain ⟨n,v⟩:=p;simp only [eF,List.length_cons,ih];omega
theorem tG {l:List (Nat × Int)}{i:Nat} (h:i<l.length):(eF l)[2*i]?=some (d9 l[i].1)∧(eF l)[2*i+1]?=some l[i].2:=by
 induction l generalizing i with
 | nil=>simp at h
 | cons p l ih =>
  obtain ⟨n,v⟩:=p
  cases i with
  | zero=>simp [eF]
  | succ i =>
   have:=ih (i:=i) (by simpa using h)
   have e:2*(i+1)=2*i+2:=by omega
   rw [e]
   simpa [eF] using this
abbrev mC:=Int × List Int
def crole (c:CV) (i:Nat):List mC:=[(c.oop,c.slots i),(c.ownA,c.own.map d9),(c.selA,c.sels),(c.metA,c.mets)]
def dj:List CV->Nat->List mC
 | [],_=>[]
 | c :: l,i=>crole c i++dj l (i+1)
theorem iD (l m:List CV) (i:Nat):dj (l++m) i=dj l i++dj m (i+l.length):=by
 induction l generalizing i with
 | nil=>simp [dj]
 | cons c l ih =>
  simp only [List.cons_append,dj,ih,List.append_assoc,List.length_cons]
  have:i+1+l.length=i+(l.length+1):=by omega
  rw [this]
theorem fR {l:List CV}{i j:Nat} (h:j<l.length){p:mC} (hp:p∈crole l[j] (i+j)):p∈dj l i:=by
 induction l generalizing i j with
 | nil=>simp at h
 | cons c l ih =>
  simp only [dj,List.mem_append]
  cases j with
  | zero=>exact .inl (by simpa using hp)
  | succ j =>
   refine .inr (ih (j:=j) (by simpa using h) ?_)
   have e:i+1+j=i+(j+1):=by omega
   rw [e];simpa using hp
theorem uz {l:List CV}{i:Nat}{p:mC} (h:p∈dj l i):∃ j,∃ hj:j<l.length,p∈crole l[j] (i+j):=by
 induction l generalizing i with
 | nil=>cases h
 | cons c l ih =>
  simp only [dj,List.mem_append] at h
  rcases h with h | h
  ·exact ⟨0,by simp,by simpa using h⟩
  ·obtain ⟨j,hj,h1⟩:=ih h
   refine ⟨j+1,by simpa using hj,?_⟩
   have e:i+1+j=i+(j+1):=by omega
   rw [e] at h1;simpa using h1
def KV.rootW (v:KV):List Int:=4*v.clsA :: 4*v.globA :: v.rest
def KV.clsW (v:KV):List Int:=v.cls.map fun c=>4*c.oop
def KV.roles (v:KV):List mC:=(19,v.rootW) :: (v.clsA,v.clsW) :: (v.globA,eF v.glob) :: (1,[]) :: (18,[]) :: dj v.cls 0
def cL (r:RH) (v:KV):Prop:=∀ p∈v.roles,eq r p.1 p.2
def GU (v:KV):Prop:=v.roles.Pairwise fun p q=>p.1=q.1->p.2=[]
structure KShape (v:KV):Prop where
 rest:v.rest.length=6
 many0:14<=v.cls.length
 many1:v.cls.length<=256
 globs:v.glob.length<=256
 up0:∀ h:0<v.cls.length,(v.cls[0]).up=1∧(v.cls[0]).ownA=18
 ups:∀ i (h:i<v.cls.length),0<i->∃ j,∃ hj:j<v.cls.length,j<i∧(v.cls[j]).oop=(v.cls[i]).up
 kern:∀ i (h:i<v.cls.length),i<14->(v.cls[i]).oop=4+i
 lay:∀ c∈v.cls,0<=c.lay∧c.lay<=1073741823
structure KNames (v:KV) (t:TB):Prop where
 wf:WFT t
 name:∀ c∈v.cls,c.name<t.texts.length
 own:∀ c∈v.cls,∀ n∈c.own,n<t.texts.length
 glob:∀ p∈v.glob,p.1<t.texts.length
 nodup:(v.cls.map (·.name)).Nodup
section
variable {r:RH}{v:KV}
theorem cL.root (h:cL r v):eq r 19 v.rootW:=h (19,v.rootW) (by simp [KV.roles])
theorem cL.all (h:cL r v):eq r v.clsA v.clsW:=h (v.clsA,v.clsW) (by simp [KV.roles])
theorem cL.globs (h:cL r v):eq r v.globA (eF v.glob):=h (v.globA,eF v.glob) (by simp [KV.roles])
theorem cL.nil (h:cL r v):eq r 1 []:=h (1,[]) (by simp [KV.roles])
theorem cL.empty (h:cL r v):eq r 18 []:=h (18,[]) (by simp [KV.roles])
theorem cL.crole (h:cL r v){i:Nat} (hi:i<v.cls.length){p:mC} (hp:p∈crole v.cls[i] i):eq r p.1 p.2:=h p (by
 simp only [KV.roles,List.mem_cons]
 exact .inr (.inr (.inr (.inr (.inr (fR hi (by simpa using hp)))))))
theorem cL.cls (h:cL r v){i:Nat} (hi:i<v.cls.length):eq r (v.cls[i]).oop ((v.cls[i]).slots i):=h.crole hi (p:=((v.cls[i]).oop,(v.cls[i]).slots i)) (by simp [Kw.crole])
theorem cL.own (h:cL r v){i:Nat} (hi:i<v.cls.length):eq r (v.cls[i]).ownA ((v.cls[i]).own.map d9):=h.crole hi (p:=(_,_)) (by simp [Kw.crole])
theorem cL.sel (h:cL r v){i:Nat} (hi:i<v.cls.length):eq r (v.cls[i]).selA (v.cls[i]).sels:=h.crole hi (p:=(_,_)) (by simp [Kw.crole])
theorem cL.of (h1:eq r 19 v.rootW) (h2:eq r v.clsA v.clsW) (h3:eq r v.globA (eF v.glob)) (h4:eq r 1 []) (h5:eq r 18 []) (h6:∀ p∈dj v.cls 0,eq r p.1 p.2):cL r v:=by
 intro p hp
 simp only [KV.roles,List.mem_cons] at hp
 rcases hp with rfl | rfl | rfl | rfl | rfl | hp
 ·exact h1
 ·exact h2
 ·exact h3
 ·exact h4
 ·exact h5
 ·exact h6 p hp
theorem cL.keep {r':RH}{P:Int->Prop} (h:cL r v) (hk:bd r r' P) (hp:∀ p∈v.roles,P p.1):cL r' v:=fun p hm=>(h p hm).keep hk (hp p hm)
theorem cL.inj (h:cL r v){i j:Nat} (hi:i<v.cls.length) (hj:j<v.cls.length) (he:(v.cls[i]).oop=(v.cls[j]).oop):i=j:=by
 have h1:=h.cls hi
 have h2:=h.cls hj
 rw [he] at h1
 have:=h1.uniq h2
 simp only [CV.slots,List.cons.injEq] at this
 omega
theorem cL.ne1 (h:cL r v){i:Nat} (hi:i<v.cls.length):(v.cls[i]).oop≠1:=fun e=>by
 have h1:=h.cls hi
 rw [e] at h1
 have:=h1.uniq h.nil
 simp [CV.slots] at this
theorem cL.idx (h:cL r v){c:CV} (hc:c∈v.cls):∃ i,∃ hi:i<v.cls.length,v.cls[i]=c:=List.getElem_of_mem hc
theorem cL.reach (hw:WFH r) (h:cL r v) (hs:KShape v){ws:List Int} (hk:(76:Int)∈ws):∀ p∈v.roles,Reaches r ws p.1:=by
 have to:∀ {o k:Int}{l m:List Int},Reaches r ws o->eq r o l->eq r k m->4*k∈l->Reaches r ws k:=fun h1 h2 h3 h4=>by
  have hb:=h3.bnd hw
  exact h1.arr h2 hb.1 hb.2.1 h3.there h4
 have h19:Reaches r ws 19:=Reaches.of_root (by decide) (by decide) h.root.there hk
 have hA:Reaches r ws v.clsA:=to h19 h.root h.all (by simp [KV.rootW])
 have hG:Reaches r ws v.globA:=to h19 h.root h.globs (by simp [KV.rootW])
 have hC:∀ {i:Nat} (hi:i<v.cls.length),Reaches r ws (v.cls[i]).oop:=fun {i} hi=>to hA h.all (h.cls hi) (List.mem_map.2 ⟨_,List.getElem_mem hi,rfl⟩)
 have h0:0<v.cls.length:=by have:=hs.many0;omega
 have hu:=hs.up0 h0
 intro p hp
 simp only [KV.roles,List.mem_cons] at hp
 rcases hp with rfl | rfl | rfl | rfl | rfl | hp
 ·exact h19
 ·exact hA
 ·exact hG
 ·exact to (hC h0) (h.cls h0) h.nil (by simp [CV.slots,hu.1])
 ·exact to (hC h0) (h.cls h0) h.empty (by simp [CV.slots,hu.2])
 ·obtain ⟨j,hj,hm⟩:=uz hp
  have ha:=h.crole hj (p:=p) (by simpa using hm)
  simp only [Kw.crole,List.mem_cons,List.not_mem_nil,or_false] at hm
  rcases hm with rfl | rfl | rfl | rfl
  ·exact hC hj
  ·exact to (hC hj) (h.cls hj) ha (by simp [CV.slots])
  ·exact to (hC hj) (h.cls hj) ha (by simp [CV.slots])
  ·exact to (hC hj) (h.cls hj) ha (by simp [CV.slots])
end
def eD (r:RH):Prop:=∀ o∈r.objs,aD o.cls=3
theorem pT {r:RH} (h:eD r){cls:Int} (hc:aD cls=3) (n f:Int):eD (r.alloc cls n f).2:=by
 unfold RH.alloc
 split
 ·exact h
 split
 ·exact h
 split
 ·exact h
 split
 ·exact h
 ·intro o ho
  simp only [List.mem_append,List.mem_singleton] at ho
  rcases ho with ho | rfl
  ·exact h o ho
  ·exact hc
theorem rO {r:RH} (h:eD r) (k i w:Int):eD (r.put k i w).2:=by
 unfold RH.put
 split
 ·exact h
 split
 ·exact h
 split
 ·exact h
 ·intro o ho
  simp only [fg,List.mem_map] at ho
  obtain ⟨x,hx,rfl⟩:=ho
  split
  ·exact h x hx
  ·exact h x hx
theorem wx {r:RH} (h:eD r) (k:Int):eD (r.marks k).2:=by
 unfold RH.marks;split <;> exact h
theorem th {r:RH} (h:eD r) (l:List Int):eD (r.keep l).2:=by
 unfold RH.keep
 split
 ·exact h
 ·intro o ho
  obtain ⟨x,hx,e,_⟩:=jN ho
  have:=h x (List.mem_filter.1 hx).1
  rw [e];exact this
theorem nz {s:SP} (h:eD s.h){cls:Int} (hc:aD cls=3) (n f:Int):eD (s.alloc cls n f).2.h:=by
 unfold SP.alloc
 split
 ·exact pT h hc _ _
 ·exact pT (th h _) hc _ _
theorem qJ {s:SP} (h:eD s.h):eD s.collect.2.h:=by
 unfold SP.collect;split
 ·exact h
 ·exact th h _
structure KS (s:SP) (v:KV):Prop where
 wf:WFS s
 gc:eD s.h
 op:s.op=false
 king:s.king=19
 view:cL s.h v
 sep:GU v
 shape:KShape v
theorem KS.roots {s:SP}{v:KV} (h:KS s v):s.roots=76 :: s.stack:=by unfold SP.roots;rw [h.king];rfl
theorem KS.reach {s:SP}{v:KV} (h:KS s v):∀ p∈v.roles,Reaches s.h s.roots p.1:=h.view.reach h.wf.h h.shape (by rw [h.roots];simp)
def RH.lay (r:RH) (o i:Int):List Int->RH
 | []=>r
 | w :: l=>RH.lay (r.put o i w).2 o (i+1) l
noncomputable def SP.make (s:SP) (cls:Int) (ws:List Int):(Int × Int) × SP :=
 if (s.alloc (4*cls) ws.length 0).1.2≠0 then ((0,(s.alloc (4*cls) ws.length 0).1.2),(s.alloc (4*cls) ws.length 0).2)
 else (((s.alloc (4*cls) ws.length 0).1.1,(SP.keepW { (s.alloc (4*cls) ws.length 0).2 with h:=(s.alloc (4*cls) ws.length 0).2.h.lay ((s.alloc (4*cls) ws.length 0).1.1 / 4) 0 ws } [(s.alloc (4*cls) ws.length 0).1.1]).1),
  (SP.keepW { (s.alloc (4*cls) ws.length 0).2 with h:=(s.alloc (4*cls) ws.length 0).2.h.lay ((s.alloc (4*cls) ws.length 0).1.1 / 4) 0 ws } [(s.alloc (4*cls) ws.length 0).1.1]).2)
noncomputable def SP.array (s:SP) (ws:List Int):(Int × Int) × SP:=if ws=[] then ((72,0),s) else s.make 11 ws
theorem rv {r:RH} (h:WFH r) (o i:Int) (l:List Int):WFH (r.lay o i l):=by
 induction l generalizing r i with
 | nil=>exact h
 | cons w l ih=>exact ih (jW h _ _ _) _
theorem EK {r:RH} (h:eD r) (o i:Int) (l:List Int):eD (r.lay o i l):=by
 induction l generalizing r i with
 | nil=>exact h
 | cons w l ih=>exact ih (rO h _ _ _) _
theorem tr (r:RH) (o i:Int) (l:List Int):bd r (r.lay o i l) fun j=>j≠o:=by
 induction l generalizing r i with
 | nil=>exact bd.refl _ _
 | cons w l ih=>exact (nj o i w).trans (ih _ _)
theorem AL {r:RH}{o:Int}{pre l:List Int}{n:Nat} (h:eq r o (pre++List.replicate n 4)) (hl:l.length=n) (hw:∀ w∈l,cR w):eq (r.lay o pre.length l) o (pre++l):=by
 induction l generalizing r pre n with
 | nil=>subst hl;simpa [RH.lay] using h
 | cons w l ih =>
  subst hl
  simp only [RH.lay]
  have h1:=(td h (i:=(pre.length:Int)) (w:=w) (by omega) (by simp;omega) (hw w (by simp))).1
  have e:(pre++List.replicate (w :: l).length 4).set (pre.length:Int).toNat w=(pre++[w])++List.replicate l.length 4:=by
   rw [Int.toNat_natCast,List.set_append_right _ _ (Nat.le_refl _)]
   simp [List.replicate_succ]
  rw [e] at h1
  have:=ih h1 rfl fun x hx=>hw x (by simp [hx])
  simpa using this
theorem ia {s:SP}{w:Int} (hw:cR w) (hs:s.stack.length<65536):s.keepW [w]=(0,{ s with stack:=s.stack++[w] }):=by
 unfold SP.keepW
 rw [if_neg (by simpa using hw),if_neg (by simp;omega)]
theorem bB {o:Int} (h0:1<=o) (h1:o<=65536):cR (4*o):=by
 unfold cR;have:=aS (4*o);omega
theorem ie {s:SP}{v:KV} (hk:KS s v) (hst:s.stack.length<65536){cls:Int} (hcls:1<=cls∧cls<=65536){ws:List Int} (hws:∀ w∈ws,cR w) :
  KS (s.make cls ws).2 v∧bd s.h (s.make cls ws).2.h (Reaches s.h s.roots) ∧
  ((s.make cls ws).1.2≠0->(s.make cls ws).2.stack=s.stack∧(s.make cls ws).1.1=0) ∧
  ((s.make cls ws).1.2=0->∃ o,(s.make cls ws).1.1=4*o∧(s.make cls ws).2.stack=s.stack++[4*o]∧1<=o∧o<=65536∧eq (s.make cls ws).2.h o ws∧¬ Reaches s.h s.roots o):=by
 have hal:=ki s (4*cls) ws.length 0
 have hawf:=nB hk.wf (4*cls) ws.length 0
 have hake:=iZ hk.wf (4*cls) ws.length 0
 have hagc:=nz hk.gc (cls:=4*cls) (by have:=aS (4*cls);omega) ws.length 0
 unfold SP.make
 by_cases he:(s.alloc (4*cls) ws.length 0).1.2=0
 ·obtain ⟨o,e1,o1,o2,n0,n1,harr,hnr⟩:=mO hk.wf he
  rw [if_neg (by simpa using he)]
  rw [e1]
  have e2:4*o / 4=o:=by omega
  rw [e2]
  generalize (s.alloc (4*cls) ws.length 0).2=s1 at *
  have hko:bd s.h (s1.h.lay o 0 ws) (Reaches s.h s.roots):=hake.trans ((tr _ _ _ _).mono fun k hk he=>hnr (he ▸ hk))
  have hl:eq (s1.h.lay o 0 ws) o ws:=by
   have:=AL (pre:=[]) (n:=ws.length) (l:=ws) (by simpa using harr) rfl hws
   simpa using this
  rw [ia (bB o1 o2) (by simp only [hal.2.1];exact hst)]
  refine ⟨⟨?_,EK hagc _ _ _,hal.2.2.trans hk.op,hal.1.trans hk.king,hk.view.keep hko hk.reach,hk.sep,hk.shape⟩,hko,fun h=>absurd rfl h,fun _=>⟨o,rfl,by simp [hal.2.1],o1,o2,hl,hnr⟩⟩
  refine { hawf with h:=rv hawf.h _ _ _,many:=?_,words:=fun w hw=>?_ }
  ·simp only [List.length_append,List.length_cons,List.length_nil,hal.2.1];omega
  ·rcases List.mem_append.1 hw with hw | hw
   ·exact hawf.words w hw
   ·simp only [List.mem_singleton] at hw;rw [hw];exact bB o1 o2
 ·rw [if_pos (by simpa using he)]
  exact ⟨⟨hawf,hagc,hal.2.2.trans hk.op,hal.1.trans hk.king,hk.view.keep hake hk.reach,hk.sep,hk.shape⟩,hake,fun _=>⟨hal.2.1,rfl⟩,fun h=>absurd h he⟩
end Kw
namespace Kw
open Go
theorem lh {t:TB} (s:ByteArray) (h:(t.add s).1.2=0):∃ n:Nat,(t.add s).1.1=n∧(t.add s).2.texts[n]?=some s∧∃ l,(t.add s).2.texts=t.texts++l:=by
 unfold TB.add at h ⊢
 split at h
 ·cases h
 rename_i hg
 rw [if_neg hg]
 cases hn:bL t.texts s with
 | some n =>
  simp only
  refine ⟨n,rfl,?_,[],by simp⟩
  have:∀ (l:List ByteArray) n,bL l s=some n->l[n]?=some s:=by
   intro l
   induction l with
   | nil=>intro n h;cases h
   | cons x l ih =>
    intro n h
    unfold bL at h
    by_cases hx:x=s
    ·rw [if_pos hx] at h;cases h;simp [hx]
    ·rw [if_neg hx] at h
     cases hm:bL l s with
     | none=>rw [hm] at h;cases h
     | some m=>rw [hm] at h;cases h;simpa using ih m hm
  exact this _ _ hn
 | none =>
  rw [hn] at h
  simp only at h ⊢
  split at h
  ·cases h
  rename_i hm
  rw [if_neg hm]
  exact ⟨t.texts.length,rfl,by simp,[s],rfl⟩
theorem nZ (t:TB) (s:ByteArray):(t.add s).2.most=t.most∧∃ l,(t.add s).2.texts=t.texts++l:=by
 unfold TB.add
 split
 ·exact ⟨rfl,[],by simp⟩
 cases hn:bL t.texts s with
 | some n=>exact ⟨rfl,[],by simp⟩
 | none =>
  simp only
  split
  ·exact ⟨rfl,[],by simp⟩
  ·exact ⟨rfl,[s],rfl⟩
def TB.addAll (t:TB) (acc:List Int):List ByteArray->(List Int × Int) × TB
 | []=>((acc,0),t)
 | s :: l=>if (t.add s).1.2≠0 then (([],(t.add s).1.2),(t.add s).2) else TB.addAll (t.add s).2 (acc++[4*(t.add s).1.1+2]) l
theorem rp {t:TB} (h:WFT t) (acc:List Int) (l:List ByteArray):WFT (t.addAll acc l).2:=by
 induction l generalizing t acc with
 | nil=>exact h
 | cons s l ih =>
  unfold TB.addAll
  split
  ·exact fo h s
  ·exact ih (fo h s) _
theorem ge (t:TB) (acc:List Int) (l:List ByteArray):(t.addAll acc l).2.most=t.most∧∃ m,(t.addAll acc l).2.texts=t.texts++m:=by
 induction l generalizing t acc with
 | nil=>exact ⟨rfl,[],by simp [TB.addAll]⟩
 | cons s l ih =>
  have h1:=nZ t s
  unfold TB.addAll
  split
  ·exact h1
  ·have h2:=ih (t.add s).2 (acc++[4*(t.add s).1.1+2])
   obtain ⟨m,e⟩:=h1.2
   obtain ⟨m',e'⟩:=h2.2
   exact ⟨h2.1.trans h1.1,m++m',by rw [e',e];simp⟩
theorem jV {t:TB} (acc:List Int) (l:List ByteArray) (h:(t.addAll acc l).1.2=0):∃ ns:List Nat,(t.addAll acc l).1.1=acc++ns.map d9∧ns.map (fun n=>(t.addAll acc l).2.texts[n]?)=l.map some:=by
 induction l generalizing t acc with
 | nil=>exact ⟨[],by simp [TB.addAll],rfl⟩
 | cons s l ih =>
  unfold TB.addAll at h ⊢
  split at h
  ·rename_i hn;exact absurd h hn
  ·rename_i hn
   rw [if_neg hn]
   have hz:(t.add s).1.2=0:=Classical.byContradiction hn
   obtain ⟨n,e1,e2,_⟩:=lh s hz
   obtain ⟨ns,e3,e4⟩:=ih _ h
   obtain ⟨_,m,e5⟩:=ge (t.add s).2 (acc++[4*(t.add s).1.1+2]) l
   refine ⟨n :: ns,?_,?_⟩
   ·rw [e3,e1];simp [d9]
   ·simp only [List.map_cons,e4]
    congr 1
    rw [e5]
    have hlt:n<(t.add s).2.texts.length:=by
     rcases Nat.lt_or_ge n (t.add s).2.texts.length with h | h
     ·exact h
     ·rw [List.getElem?_eq_none h] at e2;cases e2
    rw [List.getElem?_append_left hlt,e2]
def TB.back (t:TB) (n:Int):Int × TB:=if n<0∨(t.texts.length:Int)<n then (1,t) else (0,{ t with texts:=t.texts.take n.toNat })
theorem wL {t t':TB} (h1:t'.most=t.most) (h2:∃ l,t'.texts=t.texts++l):(t'.back t.texts.length).2=t:=by
 obtain ⟨l,e⟩:=h2
 unfold TB.back
 rw [if_neg (by rw [e];simp;omega)]
 cases t with
 | mk most texts =>
  cases t' with
  | mk m ts =>
   simp only at e h1
   subst h1 e
   simp
def tx (t:TB) (n:Nat):ByteArray:=t.texts.getD n ⟨#[]⟩
theorem E7 {t t':TB} (h:∃ l,t'.texts=t.texts++l){n:Nat} (hn:n<t.texts.length):tx t' n=tx t n:=by
 obtain ⟨l,e⟩:=h
 unfold tx
 rw [e,List.getD_eq_getElem?_getD,List.getD_eq_getElem?_getD,List.getElem?_append_left hn]
theorem eH {t:TB}{n:Nat}{s:ByteArray} (h:t.texts[n]?=some s):tx t n=s∧n<t.texts.length:=by
 refine ⟨by unfold tx;rw [List.getD_eq_getElem?_getD,h];rfl,?_⟩
 rcases Nat.lt_or_ge n t.texts.length with h1 | h1
 ·exact h1
 ·rw [List.getElem?_eq_none h1] at h;cases h
theorem kO {t:TB} (hw:WFT t){n:Nat} (hn:n<t.texts.length):cR (d9 n):=by
 have h1:=hw.m1
 have h2:=hw.len
 unfold cR d9
 have:=aS (4*(n:Int)+2)
 omega
theorem KNames.grow {v:KV}{t t':TB} (h:KNames v t) (hw:WFT t') (hp:∃ l,t'.texts=t.texts++l):KNames v t':=by
 have:t.texts.length<=t'.texts.length:=by obtain ⟨l,e⟩:=hp;rw [e];simp
 exact ⟨hw,fun c hc=>Nat.lt_of_lt_of_le (h.name c hc) this,fun c hc n hn=>Nat.lt_of_lt_of_le (h.own c hc n hn) this,fun p hp=>Nat.lt_of_lt_of_le (h.glob p hp) this,h.nodup⟩
theorem eU {s:SP}{v:KV} (hk:KS s v) (hst:s.stack.length<65536){ws:List Int} (hws:∀ w∈ws,cR w) :
  KS (s.array ws).2 v∧bd s.h (s.array ws).2.h (Reaches s.h s.roots)∧(∃ l,(s.array ws).2.stack=s.stack++l∧l.length<=1) ∧
  ((s.array ws).1.2=0->∃ o,(s.array ws).1.1=4*o∧1<=o∧o<=65536∧eq (s.array ws).2.h o ws∧Reaches (s.array ws).2.h (s.array ws).2.roots o∧(ws=[]∨¬ Reaches s.h s.roots o)):=by
 unfold SP.array
 by_cases he:ws=[]
 ·rw [if_pos he]
  subst he
  refine ⟨hk,bd.refl _ _,⟨[],by simp,by simp⟩,fun _=>⟨18,rfl,by decide,by decide,hk.view.empty,?_,.inl rfl⟩⟩
  exact hk.reach (18,[]) (by simp [KV.roles])
 ·rw [if_neg he]
  obtain ⟨h1,h2,h3,h4⟩:=ie hk hst (cls:=11) (by decide) hws
  refine ⟨h1,h2,?_,fun hz=>?_⟩
  ·by_cases hz:(s.make 11 ws).1.2=0
   ·obtain ⟨o,_,e,_⟩:=h4 hz
    exact ⟨[4*o],e,by simp⟩
   ·exact ⟨[],by rw [(h3 hz).1];simp,by simp⟩
  ·obtain ⟨o,e1,e2,o1,o2,ha,hn⟩:=h4 hz
   refine ⟨o,e1,o1,o2,ha,?_,.inr hn⟩
   exact Reaches.of_root o1 o2 ha.there (by rw [h1.roots,e2];simp)
noncomputable def cF (s:SP) (t:TB) (cw:List Int) (c:Int):(Int × Int) × SP × TB :=
 if (s.array (cw++[c])).1.2≠0 then ((0,(s.array (cw++[c])).1.2),(s.array (cw++[c])).2,t)
 else ((c / 4,0),((s.array (cw++[c])).2.setRoot 0 (s.array (cw++[c])).1.1).2,t)
def bv (n:Int) (up l:Int) (k:Nat):List Int:=[n,4*up,l,72,72,1,2*((k:Int)+1)+1]
noncomputable def ee (s:SP) (t:TB) (cw:List Int) (n up l:Int):(Int × Int) × SP × TB :=
 if (s.make 12 (bv n up l cw.length)).1.2≠0 then ((0,(s.make 12 (bv n up l cw.length)).1.2),(s.make 12 (bv n up l cw.length)).2,t)
 else cF (s.make 12 (bv n up l cw.length)).2 t cw (s.make 12 (bv n up l cw.length)).1.1
noncomputable def fE (s:SP) (t:TB) (cw:List Int) (n up:Int) (names:List Int):(Int × Int) × SP × TB :=
 if (s.array names).1.2≠0 then ((0,(s.array names).1.2),(s.array names).2,t)
 else ee (s.array names).2 t cw n up (s.array names).1.1
noncomputable def dO (s:SP) (t:TB) (cw:List Int) (name:ByteArray) (up:Int) (own:List ByteArray):(Int × Int) × SP × TB :=
 if (t.add name).1.2≠0 then ((0,(t.add name).1.2),s,(t.add name).2)
 else if ((t.add name).2.addAll [] own).1.2≠0 then ((0,((t.add name).2.addAll [] own).1.2),s,((t.add name).2.addAll [] own).2)
 else fE s ((t.add name).2.addAll [] own).2 cw (4*(t.add name).1.1+2) up ((t.add name).2.addAll [] own).1.1
def nX (s:SP) (t:TB) (mark cnt kept e:Int):SP × TB :=
 if e=0 then ((s.drop ((s.stack.length:Int)-kept)).2,t)
 else ({ (s.drop ((s.stack.length:Int)-kept)).2 with h:=if e=24 then s.h else (s.h.marks mark).2 },(t.back cnt).2)
noncomputable def bn (s:SP) (t:TB) (cw:List Int) (name:ByteArray) (up:Int) (own:List ByteArray):(Int × Int) × SP × TB :=
 ((if (dO s t cw name up own).1.2=0 then (dO s t cw name up own).1.1 else 0,(dO s t cw name up own).1.2),nX (dO s t cw name up own).2.1 (dO s t cw name up own).2.2 s.h.mark t.texts.length s.stack.length (dO s t cw name up own).1.2)
theorem wk {v:KV}{r:RH} (hv:cL r v) (hs:GU v):∀ p∈(v.clsA,v.clsW) :: (v.globA,eF v.glob) :: (1,[]) :: (18,[]) :: dj v.cls 0,p.1≠19:=by
 intro p hp he
 have h:=(List.pairwise_cons.1 hs).1 p hp he.symm
 simp [KV.rootW] at h
theorem mJ {s:SP}{v:KV} (hk:KS s v){i w:Int} (h0:0<=i) (h1:i<8) (hw:cR w) :
  eq (s.setRoot i w).2.h 19 (v.rootW.set i.toNat w)∧bd s.h (s.setRoot i w).2.h (fun k=>k≠19)∧WFS (s.setRoot i w).2∧(s.setRoot i w).2.king=19∧(s.setRoot i w).2.op=false∧(s.setRoot i w).2.stack=s.stack∧eD (s.setRoot i w).2.h:=by
 unfold SP.setRoot
 have hl:v.rootW.length=8:=by simp [KV.rootW,hk.shape.rest]
 refine ⟨?_,by have:=nj (r:=s.h) s.king i w;rw [hk.king] at this ⊢;exact this,{ hk.wf with h:=jW hk.wf.h _ _ _ },hk.king,hk.op,rfl,rO hk.gc _ _ _⟩
 have:=(td hk.view.root h0 (by rw [hl];exact h1) hw).1
 simp only [hk.king];exact this
end Kw
namespace Go.Proofs.YtgjfejoohojokaaGreatDoor
open Kw
theorem dp {p:Prop} [Decidable p] {X Y:Prop} (h1:p->X) (h2:¬ p->Y):if p then X else Y:=by
 split
 ·exact h1 ‹_›
 ·exact h2 ‹_›
section
variable {H:ae}{b:Nat}{F F':az}{t:TB}{Q:QT}
def pF (t:TB) (n:Int):Value:=if h:0<=n∧n<t.texts.length then .tuple #[.string (t.texts[n.toNat]'(by omega)),.int .i64 0] else .tuple #[.string (⟨#[]⟩:ByteArray),.int .i64 61]
end
end Go.Proofs.YtgjfejoohojokaaGreatDoor
