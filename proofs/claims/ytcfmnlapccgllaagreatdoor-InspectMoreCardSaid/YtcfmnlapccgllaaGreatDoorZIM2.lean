/- Lemmas for RIM: functions of the program as predicate transformers, and their contracts. -/
import Derived.Test.YtcfmnlapccgllaaGreatDoorZIM1
import Derived.Shelf.SlSortCmp.Whole1
import Derived.Ground.SlsfProg
import Derived.Test.YtcfmnlapccgllaaGreatDoorProg
import Derived.Shelf.Sort.Plain
import Derived.Ground.NamesProg
set_option linter.all false
set_option maxRecDepth 100000
set_option maxHeartbeats 4000000
namespace Kw
open Go
structure CV where
 oop:Int
 name:Nat
 up:Int
 own:List Nat
 ownA:Int
 selA:Int
 metA:Int
 sels:List Int
 mets:List Int
 lay:Int
structure KV where
 cls:List CV
 clsA:Int
 glob:List (Nat × Int)
 globA:Int
 rest:List Int
def cC (n:Nat):Int:=4*(n:Int)+2
def CV.slots (c:CV) (i:Nat):List Int:=[cC c.name,4*c.up,4*c.ownA,4*c.selA,4*c.metA,2*c.lay+1,2*((i:Int)+1)+1]
def bC:List (Nat × Int)->List Int
 | []=>[]
 | (n,v) :: l=>cC n :: v :: bC l
theorem eX (l:List (Nat × Int)):(bC l).length=2*l.length:=by
 induction l with
 | nil=>rfl
 | cons p l ih=>obtain ⟨n,v⟩:=p;simp only [bC,RF,ih];omega
theorem oZ (l m:List (Nat × Int)):bC (l++m)=bC l++bC m:=by
 induction l with
 | nil=>rfl
 | cons p l ih=>obtain ⟨n,v⟩:=p;simp only [Sw,bC,ih]
theorem na {l:List (Nat × Int)}{i:Nat} (h:i<l.length):(bC l)[2*i]?=some (cC l[i].1)∧(bC l)[2*i+1]?=some l[i].2:=by
 induction l generalizing i with
 | nil=>simp at h
 | cons p l ih =>
  obtain ⟨n,v⟩:=p;cases i with
  | zero=>simp [bC]
  | succ i =>
   have:=ih (i:=i) (by simpa using h);have e:2*(i+1)=2*i+2:=by omega
   rw [e];simpa [bC] using this
theorem m8 {l:List (Nat × Int)}{i:Nat} (h:i<l.length) (w:Int):(bC l).set (2*i+1) w=bC (l.set i (l[i].1,w)):=by
 induction l generalizing i with
 | nil=>simp at h
 | cons p l ih =>
  obtain ⟨n,v⟩:=p;cases i with
  | zero=>simp [bC]
  | succ i =>
   have:=ih (i:=i) (by simpa using h);have e:2*(i+1)+1=(2*i+1)+2:=by omega
   rw [e];simp only [bC,R7,Tn,this]
abbrev mP:=Int × List Int
def crole (c:CV) (i:Nat):List mP:=[(c.oop,c.slots i),(c.ownA,c.own.map cC),(c.selA,c.sels),(c.metA,c.mets)]
def dC:List CV->Nat->List mP
 | [],_=>[]
 | c :: l,i=>crole c i++dC l (i+1)
theorem i6 (l m:List CV) (i:Nat):dC (l++m) i=dC l i++dC m (i+l.length):=by
 induction l generalizing i with
 | nil=>simp [dC]
 | cons c l ih =>
  simp only [Sw,dC,ih,R9,RF]
  have:i+1+l.length=i+(l.length+1):=by omega
  rw [this]
theorem rj {l:List CV}{i j:Nat} (h:j<l.length){p:mP} (hp:p∈crole l[j] (i+j)):p∈dC l i:=by
 induction l generalizing i j with
 | nil=>simp at h
 | cons c l ih =>
  simp only [dC,Rl];cases j with
  | zero=>exact .inl (by simpa using hp)
  | succ j =>
   refine .inr (ih (j:=j) (by simpa using h) ?_);have e:i+1+j=i+(j+1):=by omega
   rw [e];simpa using hp
theorem tH {l:List CV}{i:Nat}{p:mP} (h:p∈dC l i):∃ j,∃ hj:j<l.length,p∈crole l[j] (i+j):=by
 induction l generalizing i with
 | nil=>cases h
 | cons c l ih =>
  simp only [dC,Rl] at h;rcases h with h | h
  ·exact ⟨0,by simp,by simpa using h⟩
  ·obtain ⟨j,hj,h1⟩:=ih h;refine ⟨j+1,by simpa using hj,?_⟩;have e:i+1+j=i+(j+1):=by omega
   rw [e] at h1;simpa using h1
def KV.rootW (v:KV):List Int:=4*v.clsA :: 4*v.globA :: v.rest
def KV.clsW (v:KV):List Int:=v.cls.map fun c=>4*c.oop
def KV.roles (v:KV):List mP:=(19,v.rootW) :: (v.clsA,v.clsW) :: (v.globA,bC v.glob) :: (1,[]) :: (18,[]) :: dC v.cls 0
def dM (r:RH) (v:KV):Prop:=∀ p∈v.roles,eV r p.1 p.2
def vr (v:KV):Prop:=v.roles.Pairwise fun p q=>p.1=q.1->p.2=[]
structure KShape (v:KV):Prop where
 rest:v.rest.length=6
 many0:14<=v.cls.length
 many1:v.cls.length<=256
 globs:v.glob.length<=256
 up0:∀ h:0<v.cls.length,(v.cls[0]).up=1∧(v.cls[0]).ownA=18
 ups:∀ i (h:i<v.cls.length),0<i->∃ j,∃ hj:j<v.cls.length,j<i∧(v.cls[j]).oop=(v.cls[i]).up
 kern:∀ i (h:i<v.cls.length),i<14->(v.cls[i]).oop=4+i
 lay:∀ c∈v.cls,0<=c.lay∧c.lay<=1073741823
structure KNames (v:KV) (t:TB):Prop where
 wf:WFT t
 name:∀ c∈v.cls,c.name<t.texts.length
 own:∀ c∈v.cls,∀ n∈c.own,n<t.texts.length
 glob:∀ p∈v.glob,p.1<t.texts.length
 nodup:(v.cls.map (·.name)).Nodup
section
variable {r:RH}{v:KV}
theorem dM.root (h:dM r v):eV r 19 v.rootW:=h (19,v.rootW) (by simp [KV.roles])
theorem dM.all (h:dM r v):eV r v.clsA v.clsW:=h (v.clsA,v.clsW) (by simp [KV.roles])
theorem dM.globs (h:dM r v):eV r v.globA (bC v.glob):=h (v.globA,bC v.glob) (by simp [KV.roles])
theorem dM.nil (h:dM r v):eV r 1 []:=h (1,[]) (by simp [KV.roles])
theorem dM.empty (h:dM r v):eV r 18 []:=h (18,[]) (by simp [KV.roles])
theorem dM.crole (h:dM r v){i:Nat} (hi:i<v.cls.length){p:mP} (hp:p∈crole v.cls[i] i):eV r p.1 p.2:=h p (by
 simp only [KV.roles,Rk];exact .inr (.inr (.inr (.inr (.inr (rj hi (by simpa using hp)))))))
theorem dM.cls (h:dM r v){i:Nat} (hi:i<v.cls.length):eV r (v.cls[i]).oop ((v.cls[i]).slots i):=h.crole hi (p:=((v.cls[i]).oop,(v.cls[i]).slots i)) (by simp [Kw.crole])
theorem dM.own (h:dM r v){i:Nat} (hi:i<v.cls.length):eV r (v.cls[i]).ownA ((v.cls[i]).own.map cC):=h.crole hi (p:=(_,_)) (by simp [Kw.crole])
theorem dM.of (h1:eV r 19 v.rootW) (h2:eV r v.clsA v.clsW) (h3:eV r v.globA (bC v.glob)) (h4:eV r 1 []) (h5:eV r 18 []) (h6:∀ p∈dC v.cls 0,eV r p.1 p.2):dM r v:=by
 intro p hp;simp only [KV.roles,Rk] at hp;rcases hp with rfl | rfl | rfl | rfl | rfl | hp
 ·exact h1
 ·exact h2
 ·exact h3
 ·exact h4
 ·exact h5
 ·exact h6 p hp
theorem dM.keep {r':RH}{P:Int->Prop} (h:dM r v) (hk:bG r r' P) (hp:∀ p∈v.roles,P p.1):dM r' v:=fun p hm=>(h p hm).keep hk (hp p hm)
theorem dM.inj (h:dM r v){i j:Nat} (hi:i<v.cls.length) (hj:j<v.cls.length) (he:(v.cls[i]).oop=(v.cls[j]).oop):i=j:=by
 have h1:=h.cls hi;have h2:=h.cls hj;rw [he] at h1
 have:=h1.uniq h2;simp only [CV.slots,List.cons.injEq] at this;omega
theorem dM.idx (h:dM r v){c:CV} (hc:c∈v.cls):∃ i,∃ hi:i<v.cls.length,v.cls[i]=c:=Sp hc
theorem dM.reach (hw:WFH r) (h:dM r v) (hs:KShape v){ws:List Int} (hk:(76:Int)∈ws):∀ p∈v.roles,Reaches r ws p.1:=by
 have tw1:∀ {o k:Int}{l m:List Int},Reaches r ws o->eV r o l->eV r k m->4*k∈l->Reaches r ws k:=fun h1 h2 h3 h4=>by
  have hb:=h3.bnd hw;exact h1.arr h2 hb.1 hb.2.1 h3.there h4
 have Jf:Reaches r ws 19:=Reaches.of_root (by decide) (by decide) h.root.there hk;have hA:Reaches r ws v.clsA:=tw1 Jf h.root h.all (by simp [KV.rootW]);have hG:Reaches r ws v.globA:=tw1 Jf h.root h.globs (by simp [KV.rootW]);have hC:∀ {i:Nat} (hi:i<v.cls.length),Reaches r ws (v.cls[i]).oop:=fun {i} hi=>tw1 hA h.all (h.cls hi) (RN.2 ⟨_,RG hi,rfl⟩);have h0:0<v.cls.length:=by have:=hs.many0;omega
 have hu:=hs.up0 h0;intro p hp;simp only [KV.roles,Rk] at hp;rcases hp with rfl | rfl | rfl | rfl | rfl | hp
 ·exact Jf
 ·exact hA
 ·exact hG
 ·exact tw1 (hC h0) (h.cls h0) h.nil (by simp [CV.slots,hu.1])
 ·exact tw1 (hC h0) (h.cls h0) h.empty (by simp [CV.slots,hu.2])
 ·obtain ⟨j,hj,hm⟩:=tH hp;have ha:=h.crole hj (p:=p) (by simpa using hm);simp only [Kw.crole,Rk,Sa,Sx] at hm;rcases hm with rfl | rfl | rfl | rfl
  ·exact hC hj
  ·exact tw1 (hC hj) (h.cls hj) ha (by simp [CV.slots])
  ·exact tw1 (hC hj) (h.cls hj) ha (by simp [CV.slots])
  ·exact tw1 (hC hj) (h.cls hj) ha (by simp [CV.slots])
end
def fD (r:RH):Prop:=∀ o∈r.objs,bT o.cls=3
theorem pH {r:RH} (h:fD r){cls:Int} (hc:bT cls=3) (n f:Int):fD (r.alloc cls n f).2:=by
 unfold RH.alloc;split
 ·exact h
 split
 ·exact h
 split
 ·exact h
 split
 ·exact h
 ·intro o ho;simp only [Rl,Rg] at ho;rcases ho with ho | rfl
  ·exact h o ho
  ·exact hc
theorem lR {r:RH} (h:fD r) (k i w:Int):fD (r.put k i w).2:=by
 unfold RH.put;split
 ·exact h
 split
 ·exact h
 split
 ·exact h
 ·intro o ho;simp only [fS,RN] at ho;obtain ⟨x,hx,rfl⟩:=ho;split
  ·exact h x hx
  ·exact h x hx
theorem uV {r:RH} (h:fD r) (k:Int):fD (r.marks k).2:=by
 unfold RH.marks;split <;> exact h
theorem r8 {r:RH} (h:fD r) (l:List Int):fD (r.keep l).2:=by
 unfold RH.keep;split
 ·exact h
 ·intro o ho;obtain ⟨x,hx,e,_⟩:=kk ho
  have:=h x (Sb.1 hx).1;rw [e];exact this
theorem nO {s:SP} (h:fD s.h){cls:Int} (hc:bT cls=3) (n f:Int):fD (s.alloc cls n f).2.h:=by
 unfold SP.alloc;split
 ·exact pH h hc _ _
 ·exact pH (r8 h _) hc _ _
theorem mh {s:SP} (h:fD s.h):fD s.collect.2.h:=by
 unfold SP.collect;split
 ·exact h
 ·exact r8 h _
structure KS (s:SP) (v:KV):Prop where
 wf:WFS s
 gc:fD s.h
 op:s.op=false
 king:s.king=19
 view:dM s.h v
 sep:vr v
 shape:KShape v
theorem KS.roots {s:SP}{v:KV} (h:KS s v):s.roots=76 :: s.stack:=by unfold SP.roots;rw [h.king];rfl
theorem KS.reach {s:SP}{v:KV} (h:KS s v):∀ p∈v.roles,Reaches s.h s.roots p.1:=h.view.reach h.wf.h h.shape (by rw [h.roots];simp)
def RH.lay (r:RH) (o i:Int):List Int->RH
 | []=>r
 | w :: l=>RH.lay (r.put o i w).2 o (i+1) l
noncomputable def SP.make (s:SP) (cls:Int) (ws:List Int):(Int × Int) × SP :=
 if (s.alloc (4*cls) ws.length 0).1.2≠0 then ((0,(s.alloc (4*cls) ws.length 0).1.2),(s.alloc (4*cls) ws.length 0).2)
 else (((s.alloc (4*cls) ws.length 0).1.1,(SP.keepW { (s.alloc (4*cls) ws.length 0).2 with h:=(s.alloc (4*cls) ws.length 0).2.h.lay ((s.alloc (4*cls) ws.length 0).1.1 / 4) 0 ws } [(s.alloc (4*cls) ws.length 0).1.1]).1),
  (SP.keepW { (s.alloc (4*cls) ws.length 0).2 with h:=(s.alloc (4*cls) ws.length 0).2.h.lay ((s.alloc (4*cls) ws.length 0).1.1 / 4) 0 ws } [(s.alloc (4*cls) ws.length 0).1.1]).2)
noncomputable def SP.array (s:SP) (ws:List Int):(Int × Int) × SP:=if ws=[] then ((72,0),s) else s.make 11 ws
theorem ri {r:RH} (h:WFH r) (o i:Int) (l:List Int):WFH (r.lay o i l):=by
 induction l generalizing r i with
 | nil=>exact h
 | cons w l ih=>exact ih (gI h _ _ _) _
theorem AB {r:RH} (h:fD r) (o i:Int) (l:List Int):fD (r.lay o i l):=by
 induction l generalizing r i with
 | nil=>exact h
 | cons w l ih=>exact ih (lR h _ _ _) _
theorem tu (r:RH) (o i:Int) (l:List Int):bG r (r.lay o i l) fun j=>j≠o:=by
 induction l generalizing r i with
 | nil=>exact bG.refl _ _
 | cons w l ih=>exact (iJ o i w).trans (ih _ _)
theorem yd {r:RH}{o:Int}{pre l:List Int}{n:Nat} (h:eV r o (pre++List.replicate n 4)) (hl:l.length=n) (hw:∀ w∈l,d8 w):eV (r.lay o pre.length l) o (pre++l):=by
 induction l generalizing r pre n with
 | nil=>subst hl;simpa [RH.lay] using h
 | cons w l ih =>
  subst hl;simp only [RH.lay];have h1:=(lh h (i:=(pre.length:Int)) (w:=w) (by omega) (by simp;omega) (hw w (by simp))).1;have e:(pre++List.replicate (w :: l).length 4).set (pre.length:Int).toNat w=(pre++[w])++List.replicate l.length 4:=by
   rw [Ro,Tc _ _ (Rw _)];simp [Tg]
  rw [e] at h1
  have:=ih h1 rfl fun x hx=>hw x (by simp [hx]);simpa using this
theorem nP {s:SP}{w:Int} (hw:d8 w) (hs:s.stack.length<65536):s.keepW [w]=(0,{ s with stack:=s.stack++[w] }):=by
 unfold SP.keepW;rw [Re (by simpa using hw),Re (by simp;omega)]
theorem dW {o:Int} (h0:1<=o) (h1:o<=65536):d8 (4*o):=by
 unfold d8;have:=bN (4*o);omega
theorem sr {s:SP}{v:KV} (hk:KS s v) (lc:s.stack.length<65536){cls:Int} (Em:1<=cls∧cls<=65536){ws:List Int} (sz:∀ w∈ws,d8 w) :
  KS (s.make cls ws).2 v∧bG s.h (s.make cls ws).2.h (Reaches s.h s.roots) ∧
  ((s.make cls ws).1.2≠0->(s.make cls ws).2.stack=s.stack∧(s.make cls ws).1.1=0) ∧
  ((s.make cls ws).1.2=0->∃ o,(s.make cls ws).1.1=4*o∧(s.make cls ws).2.stack=s.stack++[4*o]∧1<=o∧o<=65536∧eV (s.make cls ws).2.h o ws∧¬ Reaches s.h s.roots o):=by
 have En:=kA s (4*cls) ws.length 0;have GG:=nk hk.wf (4*cls) ws.length 0;have HW:=jA hk.wf (4*cls) ws.length 0;have Jg:=nO hk.gc (cls:=4*cls) (by have:=bN (4*cls);omega) ws.length 0;unfold SP.make;by_cases he:(s.alloc (4*cls) ws.length 0).1.2=0
 ·obtain ⟨o,e1,o1,o2,n0,n1,HX,Of⟩:=ki hk.wf he;rw [Re (by simpa using he)];rw [e1];have e2:4*o / 4=o:=by omega
  rw [e2];generalize (s.alloc (4*cls) ws.length 0).2=s1 at *;have Dk:bG s.h (s1.h.lay o 0 ws) (Reaches s.h s.roots):=HW.trans ((tu _ _ _ _).mono fun k hk he=>Of (he ▸ hk));have hl:eV (s1.h.lay o 0 ws) o ws:=by
   have:=yd (pre:=[]) (n:=ws.length) (l:=ws) (by simpa using HX) rfl sz;simpa using this
  rw [nP (dW o1 o2) (by simp only [En.2.1];exact lc)];refine ⟨⟨?_,AB Jg _ _ _,En.2.2.trans hk.op,En.1.trans hk.king,hk.view.keep Dk hk.reach,hk.sep,hk.shape⟩,Dk,fun h=>absurd rfl h,fun _=>⟨o,rfl,by simp [En.2.1],o1,o2,hl,Of⟩⟩;refine { GG with h:=ri GG.h _ _ _,many:=?_,words:=fun w hw=>?_ }
  ·simp only [Rz,RF,RV,En.2.1];omega
  ·rcases Rl.1 hw with hw | hw
   ·exact GG.words w hw
   ·simp only [Rg] at hw;rw [hw];exact dW o1 o2
 ·rw [Rj (by simpa using he)];exact ⟨⟨GG,Jg,En.2.2.trans hk.op,En.1.trans hk.king,hk.view.keep HW hk.reach,hk.sep,hk.shape⟩,HW,fun _=>⟨En.2.1,rfl⟩,fun h=>absurd h he⟩
theorem jp {t:TB} (s:ByteArray) (h:(t.add s).1.2=0):∃ n:Nat,(t.add s).1.1=n∧(t.add s).2.texts[n]?=some s∧∃ l,(t.add s).2.texts=t.texts++l:=by
 unfold TB.add at h ⊢;split at h
 ·cases h
 rename_i hg;rw [Re hg];cases hn:cL t.texts s with
 | some n =>
  simp only;refine ⟨n,rfl,?_,[],by simp⟩
  have:∀ (l:List ByteArray) n,cL l s=some n->l[n]?=some s:=by
   intro l
   induction l with
   | nil=>intro n h;cases h
   | cons x l ih =>
    intro n h;unfold cL at h;by_cases hx:x=s
    ·rw [Rj hx] at h;cases h;simp [hx]
    ·rw [Re hx] at h;cases hm:cL l s with
     | none=>rw [hm] at h;cases h
     | some m=>rw [hm] at h;cases h;simpa using ih m hm
  exact this _ _ hn
 | none =>
  rw [hn] at h;simp only at h ⊢;split at h
  ·cases h
  rename_i hm;rw [Re hm];exact ⟨t.texts.length,rfl,by simp,[s],rfl⟩
theorem oV (t:TB) (s:ByteArray):(t.add s).2.most=t.most∧∃ l,(t.add s).2.texts=t.texts++l:=by
 unfold TB.add;split
 ·exact ⟨rfl,[],by simp⟩
 cases hn:cL t.texts s with
 | some n=>exact ⟨rfl,[],by simp⟩
 | none =>
  simp only;split
  ·exact ⟨rfl,[],by simp⟩
  ·exact ⟨rfl,[s],rfl⟩
def TB.addAll (t:TB) (acc:List Int):List ByteArray->(List Int × Int) × TB
 | []=>((acc,0),t)
 | s :: l=>if (t.add s).1.2≠0 then (([],(t.add s).1.2),(t.add s).2) else TB.addAll (t.add s).2 (acc++[4*(t.add s).1.1+2]) l
theorem ra {t:TB} (h:WFT t) (acc:List Int) (l:List ByteArray):WFT (t.addAll acc l).2:=by
 induction l generalizing t acc with
 | nil=>exact h
 | cons s l ih =>
  unfold TB.addAll;split
  ·exact iN h s
  ·exact ih (iN h s) _
theorem lI (t:TB) (acc:List Int) (l:List ByteArray):(t.addAll acc l).2.most=t.most∧∃ m,(t.addAll acc l).2.texts=t.texts++m:=by
 induction l generalizing t acc with
 | nil=>exact ⟨rfl,[],by simp [TB.addAll]⟩
 | cons s l ih =>
  have h1:=oV t s;unfold TB.addAll;split
  ·exact h1
  ·have h2:=ih (t.add s).2 (acc++[4*(t.add s).1.1+2]);obtain ⟨m,e⟩:=h1.2;obtain ⟨m',e'⟩:=h2.2;exact ⟨h2.1.trans h1.1,m++m',by rw [e',e];simp⟩
theorem tg {t:TB} (acc:List Int) (l:List ByteArray) (h:(t.addAll acc l).1.2=0):∃ ns:List Nat,(t.addAll acc l).1.1=acc++ns.map cC∧ns.map (fun n=>(t.addAll acc l).2.texts[n]?)=l.map some:=by
 induction l generalizing t acc with
 | nil=>exact ⟨[],by simp [TB.addAll],rfl⟩
 | cons s l ih =>
  unfold TB.addAll at h ⊢;split at h
  ·rename_i hn;exact absurd h hn
  ·rename_i hn;rw [Re hn];have hz:(t.add s).1.2=0:=RE hn;obtain ⟨n,e1,e2,_⟩:=jp s hz;obtain ⟨ns,e3,e4⟩:=ih _ h;obtain ⟨_,m,e5⟩:=lI (t.add s).2 (acc++[4*(t.add s).1.1+2]) l;refine ⟨n :: ns,?_,?_⟩
   ·rw [e3,e1];simp [cC]
   ·simp only [R6,e4]
    congr 1
    rw [e5];have an:n<(t.add s).2.texts.length:=by
     rcases Sf n (t.add s).2.texts.length with h | h
     ·exact h
     ·rw [Tb h] at e2;cases e2
    rw [Si an,e2]
def TB.back (t:TB) (n:Int):Int × TB:=if n<0∨(t.texts.length:Int)<n then (1,t) else (0,{ t with texts:=t.texts.take n.toNat })
theorem qg {t t':TB} (h1:t'.most=t.most) (h2:∃ l,t'.texts=t.texts++l):(t'.back t.texts.length).2=t:=by
 obtain ⟨l,e⟩:=h2;unfold TB.back;rw [Re (by rw [e];simp;omega)];cases t with
 | mk most texts =>
  cases t' with
  | mk m ts =>
   simp only at e h1;subst h1 e;simp
def tx (t:TB) (n:Nat):ByteArray:=t.texts.getD n ⟨#[]⟩
theorem Az {t t':TB} (h:∃ l,t'.texts=t.texts++l){n:Nat} (hn:n<t.texts.length):tx t' n=tx t n:=by
 obtain ⟨l,e⟩:=h;unfold tx;rw [e,RQ,RQ,Si hn]
theorem eq {t:TB}{n:Nat}{s:ByteArray} (h:t.texts[n]?=some s):tx t n=s∧n<t.texts.length:=by
 refine ⟨by unfold tx;rw [RQ,h];rfl,?_⟩;rcases Sf n t.texts.length with h1 | h1
 ·exact h1
 ·rw [Tb h1] at h;cases h
theorem rN {t:TB} (hw:WFT t){n:Nat} (hn:n<t.texts.length):cJ (tx t n):=by
 unfold tx;rw [RQ,RB hn];exact hw.good _ (RG hn)
theorem js {t:TB} (hw:WFT t){n:Nat} (hn:n<t.texts.length):d8 (cC n):=by
 have h1:=hw.m1;have h2:=hw.len;unfold d8 cC
 have:=bN (4*(n:Int)+2);omega
theorem KNames.grow {v:KV}{t t':TB} (h:KNames v t) (hw:WFT t') (hp:∃ l,t'.texts=t.texts++l):KNames v t':=by
 have:t.texts.length<=t'.texts.length:=by obtain ⟨l,e⟩:=hp;rw [e];simp
 exact ⟨hw,fun c hc=>RC (h.name c hc) this,fun c hc n hn=>RC (h.own c hc n hn) this,fun p hp=>RC (h.glob p hp) this,h.nodup⟩
theorem iu {s:SP}{v:KV} (hk:KS s v) (lc:s.stack.length<65536){ws:List Int} (sz:∀ w∈ws,d8 w) :
  KS (s.array ws).2 v∧bG s.h (s.array ws).2.h (Reaches s.h s.roots)∧(∃ l,(s.array ws).2.stack=s.stack++l∧l.length<=1) ∧
  ((s.array ws).1.2=0->∃ o,(s.array ws).1.1=4*o∧1<=o∧o<=65536∧eV (s.array ws).2.h o ws∧Reaches (s.array ws).2.h (s.array ws).2.roots o∧(ws=[]∨¬ Reaches s.h s.roots o)):=by
 unfold SP.array;by_cases he:ws=[]
 ·rw [Rj he];subst he;refine ⟨hk,bG.refl _ _,⟨[],by simp,by simp⟩,fun _=>⟨18,rfl,by decide,by decide,hk.view.empty,?_,.inl rfl⟩⟩;exact hk.reach (18,[]) (by simp [KV.roles])
 ·rw [Re he];obtain ⟨h1,h2,h3,h4⟩:=sr hk lc (cls:=11) (by decide) sz;refine ⟨h1,h2,?_,fun hz=>?_⟩
  ·by_cases hz:(s.make 11 ws).1.2=0
   ·obtain ⟨o,_,e,_⟩:=h4 hz;exact ⟨[4*o],e,by simp⟩
   ·exact ⟨[],by rw [(h3 hz).1];simp,by simp⟩
  ·obtain ⟨o,e1,e2,o1,o2,ha,hn⟩:=h4 hz;refine ⟨o,e1,o1,o2,ha,?_,.inr hn⟩;exact Reaches.of_root o1 o2 ha.there (by rw [h1.roots,e2];simp)
noncomputable def ie (s:SP) (t:TB) (cw:List Int) (c:Int):(Int × Int) × SP × TB :=
 if (s.array (cw++[c])).1.2≠0 then ((0,(s.array (cw++[c])).1.2),(s.array (cw++[c])).2,t)
 else ((c / 4,0),((s.array (cw++[c])).2.setRoot 0 (s.array (cw++[c])).1.1).2,t)
def du (n:Int) (up l:Int) (k:Nat):List Int:=[n,4*up,l,72,72,1,2*((k:Int)+1)+1]
noncomputable def yI (s:SP) (t:TB) (cw:List Int) (n up l:Int):(Int × Int) × SP × TB :=
 if (s.make 12 (du n up l cw.length)).1.2≠0 then ((0,(s.make 12 (du n up l cw.length)).1.2),(s.make 12 (du n up l cw.length)).2,t)
 else ie (s.make 12 (du n up l cw.length)).2 t cw (s.make 12 (du n up l cw.length)).1.1
noncomputable def sg (s:SP) (t:TB) (cw:List Int) (n up:Int) (names:List Int):(Int × Int) × SP × TB :=
 if (s.array names).1.2≠0 then ((0,(s.array names).1.2),(s.array names).2,t)
 else yI (s.array names).2 t cw n up (s.array names).1.1
noncomputable def oU (s:SP) (t:TB) (cw:List Int) (name:ByteArray) (up:Int) (own:List ByteArray):(Int × Int) × SP × TB :=
 if (t.add name).1.2≠0 then ((0,(t.add name).1.2),s,(t.add name).2)
 else if ((t.add name).2.addAll [] own).1.2≠0 then ((0,((t.add name).2.addAll [] own).1.2),s,((t.add name).2.addAll [] own).2)
 else sg s ((t.add name).2.addAll [] own).2 cw (4*(t.add name).1.1+2) up ((t.add name).2.addAll [] own).1.1
noncomputable def im (s:SP) (t:TB) (gw:List Int) (n:Int):Int × SP × TB :=
 if (s.array (gw++[n,4])).1.2≠0 then ((s.array (gw++[n,4])).1.2,(s.array (gw++[n,4])).2,t)
 else (0,((s.array (gw++[n,4])).2.setRoot 1 (s.array (gw++[n,4])).1.1).2,t)
noncomputable def fy (s:SP) (t:TB) (gw:List Int) (name:ByteArray):Int × SP × TB :=
 if (t.add name).1.2≠0 then ((t.add name).1.2,s,(t.add name).2) else im s (t.add name).2 gw (4*(t.add name).1.1+2)
def jB (s:SP) (t:TB) (mark cnt kept e:Int):SP × TB :=
 if e=0 then ((s.drop ((s.stack.length:Int)-kept)).2,t)
 else ({ (s.drop ((s.stack.length:Int)-kept)).2 with h:=if e=24 then s.h else (s.h.marks mark).2 },(t.back cnt).2)
noncomputable def dF (s:SP) (t:TB) (cw:List Int) (name:ByteArray) (up:Int) (own:List ByteArray):(Int × Int) × SP × TB :=
 ((if (oU s t cw name up own).1.2=0 then (oU s t cw name up own).1.1 else 0,(oU s t cw name up own).1.2),jB (oU s t cw name up own).2.1 (oU s t cw name up own).2.2 s.h.mark t.texts.length s.stack.length (oU s t cw name up own).1.2)
noncomputable def dI (s:SP) (t:TB) (gw:List Int) (name:ByteArray):Int × SP × TB :=
 ((fy s t gw name).1,jB (fy s t gw name).2.1 (fy s t gw name).2.2 s.h.mark t.texts.length s.stack.length (fy s t gw name).1)
theorem pS {v:KV}{r:RH} (hv:dM r v) (hs:vr v):∀ p∈(v.clsA,v.clsW) :: (v.globA,bC v.glob) :: (1,[]) :: (18,[]) :: dC v.cls 0,p.1≠19:=by
 intro p hp he;have h:=(RI.1 hs).1 p hp he.symm;simp [KV.rootW] at h
theorem i7 {s:SP}{v:KV} (hk:KS s v){i w:Int} (h0:0<=i) (h1:i<8) (hw:d8 w) :
  eV (s.setRoot i w).2.h 19 (v.rootW.set i.toNat w)∧bG s.h (s.setRoot i w).2.h (fun k=>k≠19)∧WFS (s.setRoot i w).2∧(s.setRoot i w).2.king=19∧(s.setRoot i w).2.op=false∧(s.setRoot i w).2.stack=s.stack∧fD (s.setRoot i w).2.h:=by
 unfold SP.setRoot;have hl:v.rootW.length=8:=by simp [KV.rootW,hk.shape.rest]
 refine ⟨?_,by have:=iJ (r:=s.h) s.king i w;rw [hk.king] at this ⊢;exact this,{ hk.wf with h:=gI hk.wf.h _ _ _ },hk.king,hk.op,rfl,lR hk.gc _ _ _⟩
 have:=(lh hk.view.root h0 (by rw [hl];exact h1) hw).1;simp only [hk.king];exact this
def KV.addC (v:KV) (c:CV) (d:Int):KV:={ v with cls:=v.cls++[c],clsA:=d }
def KV.addG (v:KV) (n:Nat) (d:Int):KV:={ v with glob:=v.glob++[(n,4)],globA:=d }
theorem KS.fresh {s:SP}{v:KV} (h:KS s v){o:Int} (hn:¬ Reaches s.h s.roots o):∀ p∈v.roles,p.1≠o:=fun p hp he=>hn (he ▸ h.reach p hp)
theorem kN {s s':SP}{v:KV} (h:KS s v) (h':KS s' v){l:List Int} (e:s'.stack=s.stack++l):∀ w∈s.roots,w∈s'.roots:=by
 intro w hw;rw [h.roots] at hw;rw [h'.roots,e];simp only [Rk,Rl] at hw ⊢;rcases hw with h | h
 ·exact .inl h
 ·exact .inr (.inl h)
theorem qH {s:SP}{v:KV} (h:KS s v){j:Nat} (hj:j<v.cls.length):1<=(v.cls[j]).oop∧(v.cls[j]).oop<=65536:=by
 have:=(h.view.cls hj).bnd h.wf.h;exact ⟨this.1,this.2.1⟩
theorem mC {n up l:Int}{k:Nat} (hn:d8 n) (hu:d8 (4*up)) (hl:d8 l) (hk:k<=1000):∀ w∈du n up l k,d8 w:=by
 intro w hw;simp only [du,Rk,Sa,Sx] at hw;rcases hw with rfl | rfl | rfl | rfl | rfl | rfl | rfl
 ·exact hn
 ·exact hu
 ·exact hl
 ·decide
 ·decide
 ·decide
 ·unfold d8;have:=bN (2*((k:Int)+1)+1);omega
theorem qS {s:SP}{v:KV} (h:KS s v):∀ w∈v.clsW,d8 w:=fun w hw=>(h.view.all.bnd h.wf.h).2.2.2 w hw
theorem ik {s:SP}{v:KV} (h:KS s v):∀ w∈bC v.glob,d8 w:=fun w hw=>(h.view.globs.bnd h.wf.h).2.2.2 w hw
theorem uo {s:SP}{v:KV}{t:TB} (hk:KS s v) (lc:s.stack.length<65000){c l:Int}{n:Nat}{ns:List Nat}{j:Nat} (hj:j<v.cls.length) (an:v.cls.length<256)
  (l9:1<=c) (p9:c<=65536) (Lb:Reaches s.h s.roots c) (HY:Reaches s.h s.roots l) (Jh:eV s.h c (du (cC n) (v.cls[j]).oop (4*l) v.cls.length)) (IK:eV s.h l (ns.map cC))
  (L9:∀ p∈v.roles,p.1≠c) (HZ:ns=[]∧l=18∨∀ p∈v.roles,p.1≠l) (r0:c≠l) :
  bG s.h (ie s t v.clsW (4*c)).2.1.h (fun k=>Reaches s.h s.roots k∧k≠19)∧(ie s t v.clsW (4*c)).2.2=t∧(∃ m,(ie s t v.clsW (4*c)).2.1.stack=s.stack++m∧m.length<=1) ∧
  ((ie s t v.clsW (4*c)).1.2≠0->KS (ie s t v.clsW (4*c)).2.1 v∧bG s.h (ie s t v.clsW (4*c)).2.1.h (Reaches s.h s.roots)) ∧
  ((ie s t v.clsW (4*c)).1.2=0->(ie s t v.clsW (4*c)).1.1=c∧∃ d,KS (ie s t v.clsW (4*c)).2.1 (v.addC ⟨c,n,(v.cls[j]).oop,ns,l,18,18,[],[],0⟩ d)):=by
 have sz:∀ w∈v.clsW++[4*c],d8 w:=fun w hw=>by
  rcases Rl.1 hw with hw | hw
  ·exact qS hk w hw
  ·simp only [Rg] at hw;rw [hw];exact dW l9 p9
 obtain ⟨h1,h2,⟨m,h3,Ji⟩,h4⟩:=iu hk (by omega) sz;unfold ie;by_cases he:(s.array (v.clsW++[4*c])).1.2=0
 ·rw [Re (by simpa using he)];obtain ⟨d,e1,d1,d2,Ma,Gf,Ft⟩:=h4 he;have Ft:¬ Reaches s.h s.roots d:=by
   rcases Ft with h | h
   ·simp at h
   ·exact h
  rw [e1];generalize (s.array (v.clsW++[4*c])).2=s1 at *;obtain ⟨g1,g2,g3,g4,g5,g6,g7⟩:=i7 h1 (i:=0) (w:=4*d) (by decide) (by decide) (dW d1 d2);generalize (s1.setRoot 0 (4*d)).2=s2 at *;have Gj:∀ p∈v.roles,p.1≠d:=hk.fresh Ft;have r19:((19,v.rootW):mP)∈v.roles:=by simp [KV.roles]
  have r18:((18,[]):mP)∈v.roles:=by simp [KV.roles]
  have Jj:c≠19:=fun e=>L9 _ r19 e.symm;have Fu:d≠19:=fun e=>Gj _ r19 e.symm;have Jk:l≠19:=by
   rcases HZ with ⟨_,h⟩ | h
   ·omega
   ·exact fun e=>h _ r19 e.symm
  have Jl:c≠18:=fun e=>L9 _ r18 e.symm;have Pk:d≠c:=fun e=>Ft (e ▸ Lb);have Hl:d≠l:=fun e=>Ft (e ▸ HY);have h2k:bG s.h s2.h fun k=>Reaches s.h s.roots k∧k≠19:=(h2.mono fun k hk=>hk.1).trans (g2.mono fun k hk=>hk.2);have c9:=pS hk.view hk.sep;refine ⟨h2k,rfl,⟨m,by rw [g6,h3],Ji⟩,fun h=>absurd rfl h,fun _=>⟨by show 4*c / 4=c;omega,d,g3,g7,g5,g4,?_,?_,?_⟩⟩
  ·
   refine dM.of ?_ ?_ ?_ ?_ ?_ ?_
   ·simpa [KV.rootW,KV.addC] using g1
   ·have:=Ma.keep g2 Fu;simpa [KV.addC,KV.clsW] using this
   ·exact (h1.view.globs).keep g2 (c9 (v.globA,bC v.glob) (by simp))
   ·exact (h1.view.nil).keep g2 (by decide)
   ·exact (h1.view.empty).keep g2 (by decide)
   ·intro p hp;simp only [KV.addC,i6,Rl,Rm,dC,SN] at hp;rcases hp with hp | hp
    ·exact (h1.view p (by simp [KV.roles,hp])).keep g2 (c9 p (by simp [hp]))
    ·simp only [crole,Rk,Sa,Sx] at hp;rcases hp with rfl | rfl | rfl | rfl
     ·have:=Jh.keep h2k ⟨Lb,Jj⟩;simpa [CV.slots,du] using this
     ·exact IK.keep h2k ⟨HY,Jk⟩
     ·exact (h1.view.empty).keep g2 (by decide)
     ·exact (h1.view.empty).keep g2 (by decide)
  ·
   have hs:=hk.sep;unfold vr at hs ⊢;simp only [KV.roles,KV.addC,i6,dC,SN,Rm] at hs ⊢;rw [RI,RI] at hs;obtain ⟨hU,w9,Gz⟩:=hs;have new:∀ q∈crole ⟨c,n,(v.cls[j]).oop,ns,l,18,18,[],[],0⟩ v.cls.length,q.1=c∨q.1=l∨q.1=18:=by
    intro q hq;simp only [crole,Rk,Sa,Sx] at hq;rcases hq with rfl | rfl | rfl | rfl <;> simp
   refine RI.2 ⟨fun q hq he=>?_,RI.2 ⟨fun q hq he=>?_,?_⟩⟩
   ·
    exfalso;simp only [Rk,Rl] at hq;rcases hq with rfl | rfl | rfl | rfl | hq | hq
    ·exact Fu he.symm
    ·exact c9 (v.globA,bC v.glob) (by simp) he.symm
    ·simp at he
    ·simp at he
    ·exact c9 q (by simp [hq]) he.symm
    ·rcases new q hq with h | h | h
     ·exact Jj (by rw [←h];exact he.symm)
     ·exact Jk (by rw [←h];exact he.symm)
     ·rw [h] at he;simp at he
   ·exfalso;simp only [Rk,Rl] at hq;rcases hq with rfl | rfl | rfl | hq | hq
    ·exact Gj (v.globA,bC v.glob) (by simp [KV.roles]) he.symm
    ·exact Gj (1,[]) (by simp [KV.roles]) he.symm
    ·exact Gj (18,[]) (by simp [KV.roles]) he.symm
    ·exact Gj q (by simp [KV.roles,hq]) he.symm
    ·rcases new q hq with h | h | h
     ·exact Pk (by rw [←h];exact he)
     ·exact Hl (by rw [←h];exact he)
     ·exact Gj (18,[]) r18 (by rw [←h];exact he.symm)
   ·show ((v.globA,bC v.glob) :: (1,[]) :: (18,[]) :: (dC v.cls 0++_)).Pairwise _;rw [←Sw,←Sw,←Sw];refine SK.2 ⟨Gz,?_,fun p hp q hq he=>?_⟩
    ·simp only [crole];refine RI.2 ⟨fun q hq he=>?_,RI.2 ⟨fun q hq he=>?_,RI.2 ⟨fun q hq he=>rfl,RI.2 ⟨fun q hq he=>rfl,List.Pairwise.nil⟩⟩⟩⟩
     ·exfalso;simp only [Rk,Sa,Sx] at hq;rcases hq with rfl | rfl | rfl
      ·exact r0 he
      ·exact Jl he
      ·exact Jl he
     ·rcases HZ with ⟨h,_⟩ | h
      ·simp [h]
      ·exfalso;simp only [Rk,Sa,Sx] at hq;rcases hq with rfl | rfl
       ·exact h _ r18 he.symm
       ·exact h _ r18 he.symm
    ·have Mb:p∈v.roles:=by
      simp only [KV.roles];exact R0 _ (R0 _ hp)
     have em:p.1=18->p.2=[]:=fun h=>by
      have:=hk.view p Mb;rw [h] at this;exact this.uniq hk.view.empty
     rcases new q hq with h | h | h
     ·exact absurd (he.trans h) (L9 p Mb)
     ·rcases HZ with ⟨_,h'⟩ | h'
      ·exact em (by rw [he,h,h'])
      ·exact absurd (he.trans h) (h' p Mb)
     ·exact em (he.trans h)
  ·
   have Dn:=hk.shape;have LY:=Dn.many0;constructor
   ·exact Dn.rest
   ·simp only [KV.addC,Rz];omega
   ·simp only [KV.addC,Rz,RF,RV];omega
   ·exact Dn.globs
   ·intro h0;have Og:0<v.cls.length:=by omega
    simp only [KV.addC,SW Og];exact Dn.up0 Og
   ·intro i hi p6;simp only [KV.addC,Rz,RF,RV] at hi;by_cases cx:i<v.cls.length
    ·obtain ⟨j',Jc,h5,h6⟩:=Dn.ups i cx p6;refine ⟨j',by simp only [KV.addC,Rz];omega,h5,?_⟩;simp only [KV.addC,SW cx,SW Jc];exact h6
    ·have Fv:i=v.cls.length:=by omega
     subst Fv;refine ⟨j,by simp only [KV.addC,Rz];omega,hj,?_⟩;simp only [KV.addC,SW hj];rw [List.getElem_append_right (Rw _)];simp
   ·intro i hi GH;have cx:i<v.cls.length:=by omega
    simp only [KV.addC,SW cx];exact Dn.kern i cx GH
   ·intro x hx;simp only [KV.addC,Rl,Rg] at hx;rcases hx with hx | rfl
    ·exact Dn.lay x hx
    ·simp
 ·rw [Rj (by simpa using he)];exact ⟨h2.mono fun k hk=>hk.1,rfl,⟨m,h3,Ji⟩,fun _=>⟨h1,h2⟩,fun h=>absurd h he⟩
structure DefR (s:SP) (v:KV) (t:TB) (j:Nat) (name:ByteArray) (own:List ByteArray) (R:(Int × Int) × SP × TB):Prop where
 wft:WFT R.2.2
 most:R.2.2.most=t.most
 pre:∃ l,R.2.2.texts=t.texts++l
 stack:∃ m,R.2.1.stack=s.stack++m∧m.length<=3
 bad:R.1.2≠0->KS R.2.1 v∧bG s.h R.2.1.h (Reaches s.h s.roots)
 good:R.1.2=0->∃ c n ns l d,∃ hj:j<v.cls.length,R.1.1=c∧KS R.2.1 (v.addC ⟨c,n,(v.cls[j]).oop,ns,l,18,18,[],[],0⟩ d)∧R.2.2.texts[n]?=some name∧ns.map (fun n=>R.2.2.texts[n]?)=own.map some
 keep:bG s.h R.2.1.h (fun k=>Reaches s.h s.roots k∧k≠19)
theorem uS {s:SP}{v:KV}{t:TB} (hk:KS s v) (lc:s.stack.length<60000){n:Nat}{ns:List Nat}{j:Nat} (hj:j<v.cls.length) (an:v.cls.length<256) (D7:WFT t) (hn:n<t.texts.length) (Mc:∀ n∈ns,n<t.texts.length)
  {name:ByteArray}{own:List ByteArray} (e1:t.texts[n]?=some name) (e2:ns.map (fun n=>t.texts[n]?)=own.map some) :
  DefR s v t j name own (sg s t v.clsW (cC n) (v.cls[j]).oop (ns.map cC)):=by
 have sz:∀ w∈ns.map cC,d8 w:=fun w hw=>by
  obtain ⟨x,hx,rfl⟩:=RN.1 hw;exact js D7 (Mc x hx)
 obtain ⟨a1,a2,⟨m1,a3,a3'⟩,a4⟩:=iu hk (by omega) sz;unfold sg;by_cases he:(s.array (ns.map cC)).1.2=0
 ·rw [Re (by simpa using he)];obtain ⟨l,el,l1,l2,IK,HY,HZ⟩:=a4 he;rw [el];generalize (s.array (ns.map cC)).2=s1 at *;have Ek:s1.stack.length<64000:=by rw [a3,Rz];omega
  have pp:=qH hk hj;have Pl:v.clsW.length=v.cls.length:=by simp [KV.clsW]
  obtain ⟨b1,b2,b3,b4⟩:=sr a1 (by omega) (cls:=12) (by decide) (ws:=du (cC n) (v.cls[j]).oop (4*l) v.clsW.length) (mC (js D7 hn) (dW pp.1 pp.2) (dW l1 l2) (by omega));have IL:∀ k,Reaches s.h s.roots k->Reaches s1.h s1.roots k:=fun k AT=>Reaches.mono hk.wf.h a2 (kN hk a1 a3) AT;unfold yI;by_cases hf:(s1.make 12 (du (cC n) (v.cls[j]).oop (4*l) v.clsW.length)).1.2=0
  ·rw [Re (by simpa using hf)];obtain ⟨c,ec,est,c1,c2,Jh,Oh⟩:=b4 hf;rw [ec];generalize (s1.make 12 (du (cC n) (v.cls[j]).oop (4*l) v.clsW.length)).2=s2 at *;have Ia:∀ k,Reaches s1.h s1.roots k->Reaches s2.h s2.roots k:=fun k AT=>Reaches.mono a1.wf.h b2 (kN a1 b1 est) AT;have Lb:Reaches s2.h s2.roots c:=Reaches.of_root c1 c2 Jh.there (by rw [b1.roots,est];simp);have Md:ns=[]∧l=18∨∀ p∈v.roles,p.1≠l:=by
    rcases HZ with h | h
    ·have Me:ns=[]:=by simpa using h
     subst Me;left;refine ⟨rfl,?_⟩
     have:(s.array (([]:List Nat).map cC)).1.1=72:=by simp [SP.array]
     omega
    ·exact .inr (hk.fresh h)
   obtain ⟨d1,d2,⟨m,d3,d3'⟩,d4,d5⟩:=uo (t:=t) b1 (by rw [est,Rz];simp;omega) (c:=c) (l:=l) (n:=n) (ns:=ns) hj an c1 c2 Lb (Ia l HY) (by rw [Pl] at Jh;exact Jh) (IK.keep b2 HY) (a1.fresh Oh) Md (fun e=>Oh (e ▸ HY));generalize ie s2 t v.clsW (4*c)=R at *;refine ⟨by rw [d2];exact D7,by rw [d2],⟨[],by rw [d2];simp⟩,⟨m1++[4*c]++m,by rw [d3,est,a3];simp,by simp;omega⟩,fun h=>?_,fun h=>?_,((a2.trans (b2.mono IL)).mono fun k AT=>AT.1).trans (d1.mono fun k AT=>⟨Ia k (IL k AT.1),AT.2⟩)⟩
   ·exact ⟨(d4 h).1,(a2.trans (b2.mono IL)).trans ((d4 h).2.mono fun k AT=>Ia k (IL k AT))⟩
   ·obtain ⟨e3,d,e4⟩:=d5 h;rw [d2];exact ⟨c,n,ns,l,d,hj,e3,e4,e1,e2⟩
  ·rw [Rj (by simpa using hf)];exact ⟨D7,rfl,⟨[],by simp⟩,⟨m1,by rw [(b3 hf).1,a3],by omega⟩,fun _=>⟨b1,a2.trans (b2.mono IL)⟩,fun h=>absurd h hf,(a2.trans (b2.mono IL)).mono fun k AT=>AT.1⟩
 ·rw [Rj (by simpa using he)];exact ⟨D7,rfl,⟨[],by simp⟩,⟨m1,a3,by omega⟩,fun _=>⟨a1,a2⟩,fun h=>absurd h he,a2.mono fun k AT=>AT.1⟩
theorem xg {s:SP}{v:KV}{t:TB} (hk:KS s v) (lc:s.stack.length<60000){j:Nat} (hj:j<v.cls.length) (an:v.cls.length<256) (D7:WFT t) (name:ByteArray) (own:List ByteArray) :
  DefR s v t j name own (oU s t v.clsW name (v.cls[j]).oop own):=by
 unfold oU;have p1:=oV t name;have w1:=iN D7 name;by_cases h1:(t.add name).1.2=0
 ·rw [Re (by simpa using h1)];obtain ⟨n,e1,e2,_⟩:=jp name h1;generalize (t.add name).2=t1 at *;have p2:=lI t1 [] own;have w2:=ra w1 [] own;have pre:∃ l,(t1.addAll [] own).2.texts=t.texts++l:=by
   obtain ⟨l,e⟩:=p1.2;obtain ⟨l',e'⟩:=p2.2;exact ⟨l++l',by rw [e',e];simp⟩
  by_cases h2:(t1.addAll [] own).1.2=0
  ·rw [Re (by simpa using h2)];obtain ⟨ns,e3,e4⟩:=tg [] own h2;rw [e3,e1];generalize (t1.addAll [] own).2=t2 at *;have e5:t2.texts[n]?=some name:=by
    obtain ⟨l',e'⟩:=p2.2;rw [e',Si (eq e2).2,e2]
   have Mc:∀ n∈ns,n<t2.texts.length:=fun n hn=>by
    have:t2.texts[n]?∈own.map some:=by rw [←e4];exact RN.2 ⟨n,hn,rfl⟩
    obtain ⟨s,_,hs⟩:=RN.1 this;exact (eq hs.symm).2
   have:=uS hk lc hj an w2 (eq e5).2 Mc e5 e4;have DJ:∃ l,(sg s t2 v.clsW (cC n) (v.cls[j]).oop (ns.map cC)).2.2.texts=t.texts++l:=by
    obtain ⟨l,e⟩:=pre;obtain ⟨l',e'⟩:=this.pre;exact ⟨l++l',e'.trans (by rw [e];simp)⟩
   exact { this with most:=this.most.trans (p2.1.trans p1.1),pre:=DJ }
  ·rw [Rj (by simpa using h2)];exact ⟨w2,p2.1.trans p1.1,pre,⟨[],by simp,by simp⟩,fun _=>⟨hk,bG.refl _ _⟩,fun h=>absurd h h2,bG.refl _ _⟩
 ·rw [Rj (by simpa using h1)];exact ⟨w1,p1.1,p1.2,⟨[],by simp,by simp⟩,fun _=>⟨hk,bG.refl _ _⟩,fun h=>absurd h h1,bG.refl _ _⟩
structure GlobR (s:SP) (v:KV) (t:TB) (name:ByteArray) (R:Int × SP × TB):Prop where
 wft:WFT R.2.2
 most:R.2.2.most=t.most
 pre:∃ l,R.2.2.texts=t.texts++l
 stack:∃ m,R.2.1.stack=s.stack++m∧m.length<=3
 bad:R.1≠0->KS R.2.1 v∧bG s.h R.2.1.h (Reaches s.h s.roots)
 good:R.1=0->∃ n d,KS R.2.1 (v.addG n d)∧R.2.2.texts[n]?=some name
 keep:bG s.h R.2.1.h (fun k=>Reaches s.h s.roots k∧k≠19)
theorem tQ {s:SP}{v:KV}{t:TB} (hk:KS s v) (lc:s.stack.length<60000){n:Nat} (an:v.glob.length<256) (D7:WFT t) (hn:n<t.texts.length){name:ByteArray} (e1:t.texts[n]?=some name) :
  GlobR s v t name (im s t (bC v.glob) (cC n)):=by
 have sz:∀ w∈bC v.glob++[cC n,4],d8 w:=fun w hw=>by
  rcases Rl.1 hw with hw | hw
  ·exact ik hk w hw
  ·simp only [Rk,Sa,Sx] at hw;rcases hw with rfl | rfl
   ·exact js D7 hn
   ·decide
 obtain ⟨h1,h2,⟨m,h3,Ji⟩,h4⟩:=iu hk (by omega) sz;unfold im;by_cases he:(s.array (bC v.glob++[cC n,4])).1.2=0
 ·rw [Re (by simpa using he)];obtain ⟨d,ed,d1,d2,Ma,Gf,Ft⟩:=h4 he;have Ft:¬ Reaches s.h s.roots d:=by
   rcases Ft with h | h
   ·simp at h
   ·exact h
  rw [ed];generalize (s.array (bC v.glob++[cC n,4])).2=s1 at *;obtain ⟨g1,g2,g3,g4,g5,g6,g7⟩:=i7 h1 (i:=1) (w:=4*d) (by decide) (by decide) (dW d1 d2);generalize (s1.setRoot 1 (4*d)).2=s2 at *;have Gj:∀ p∈v.roles,p.1≠d:=hk.fresh Ft;have Fu:d≠19:=fun e=>Gj (19,v.rootW) (by simp [KV.roles]) e.symm;have c9:=pS hk.view hk.sep;refine ⟨D7,rfl,⟨[],by simp⟩,⟨m,by rw [g6,h3],by omega⟩,fun h=>absurd rfl h,fun _=>⟨n,d,⟨g3,g7,g5,g4,?_,?_,?_⟩,e1⟩,(h2.mono fun k AT=>AT.1).trans (g2.mono fun k AT=>AT.2)⟩
  ·refine dM.of ?_ ?_ ?_ ?_ ?_ ?_
   ·simpa [KV.rootW,KV.addG] using g1
   ·exact (h1.view.all).keep g2 (c9 (v.clsA,v.clsW) (by simp))
   ·have:=Ma.keep g2 Fu;simpa [KV.addG,oZ,bC] using this
   ·exact (h1.view.nil).keep g2 (by decide)
   ·exact (h1.view.empty).keep g2 (by decide)
   ·intro p hp;exact (h1.view p (by simp only [KV.addG] at hp;simp [KV.roles,hp])).keep g2 (c9 p (by simp only [KV.addG] at hp;simp [hp]))
  ·have hs:=hk.sep;unfold vr at hs ⊢;simp only [KV.roles,KV.addG] at hs ⊢;rw [RI,RI,RI] at hs;obtain ⟨hU,w9,Gz,E5⟩:=hs;refine RI.2 ⟨fun q hq he=>?_,RI.2 ⟨fun q hq he=>?_,RI.2 ⟨fun q hq he=>?_,E5⟩⟩⟩
   ·exfalso;simp only [Rk] at hq;rcases hq with rfl | rfl | hq
    ·exact c9 (v.clsA,v.clsW) (by simp) he.symm
    ·exact Fu he.symm
    ·exact c9 q (by simp only [Rk];exact .inr (.inr hq)) he.symm
   ·rcases Rk.1 hq with rfl | hq
    ·exact absurd he (Gj (v.clsA,v.clsW) (by simp [KV.roles]))
    ·exact w9 q (R0 _ hq) he
   ·exact absurd he.symm (Gj q (by simp only [KV.roles];exact R0 _ (R0 _ (R0 _ hq))))
  ·exact { hk.shape with globs:=by simp only [KV.addG,Rz,RF,RV];omega }
 ·rw [Rj (by simpa using he)];exact ⟨D7,rfl,⟨[],by simp⟩,⟨m,h3,by omega⟩,fun _=>⟨h1,h2⟩,fun h=>absurd h he,h2.mono fun k AT=>AT.1⟩
theorem pK {s:SP}{v:KV}{t:TB} (hk:KS s v) (lc:s.stack.length<60000) (an:v.glob.length<256) (D7:WFT t) (name:ByteArray) :
  GlobR s v t name (fy s t (bC v.glob) name):=by
 unfold fy;have p1:=oV t name;have w1:=iN D7 name;by_cases h1:(t.add name).1.2=0
 ·rw [Re (by simpa using h1)];obtain ⟨n,e1,e2,_⟩:=jp name h1;rw [e1];generalize (t.add name).2=t1 at *
  have:=tQ hk lc an w1 (eq e2).2 e2;have DJ:∃ l,(im s t1 (bC v.glob) (cC n)).2.2.texts=t.texts++l:=by
   obtain ⟨l,e⟩:=p1.2;obtain ⟨l',e'⟩:=this.pre;exact ⟨l++l',e'.trans (by rw [e];simp)⟩
  exact { this with most:=this.most.trans p1.1,pre:=DJ }
 ·rw [Rj (by simpa using h1)];exact ⟨w1,p1.1,p1.2,⟨[],by simp,by simp⟩,fun _=>⟨hk,bG.refl _ _⟩,fun h=>absurd h h1,bG.refl _ _⟩
structure KAll (s:SP) (t:TB) (v:KV):Prop where
 ks:KS s v
 names:KNames v t
 stack:s.stack=[]
structure KAllW (s:SP) (t:TB) (v:KV):Prop where
 ks:KS s v
 names:KNames v t
 top:s.stack.length<=65536
theorem KAll.w {s:SP}{t:TB}{v:KV} (h:KAll s t v):KAllW s t v:=⟨h.ks,h.names,by rw [h.stack];decide⟩
theorem KS.marks {s:SP}{v:KV} (h:KS s v) (k:Int):KS { s with h:=(s.h.marks k).2 } v :=
 ⟨{ h.wf with h:=uC h.wf.h k },uV h.gc k,h.op,h.king,h.view.keep (eG k) fun _ _=>trivial,h.sep,h.shape⟩
theorem KAll.marks {s:SP}{t:TB}{v:KV} (h:KAll s t v) (k:Int):KAll { s with h:=(s.h.marks k).2 } t v:=⟨h.ks.marks k,h.names,h.stack⟩
theorem KAll.collect {s:SP}{t:TB}{v:KV} (h:KAll s t v):KAll s.collect.2 t v:=by
 have hr:=jz s;exact ⟨⟨mE h.ks.wf,mh h.ks.gc,hr.2.2.trans h.ks.op,hr.1.trans h.ks.king,h.ks.view.keep (i8 h.ks.wf.h) h.ks.reach,h.ks.sep,h.ks.shape⟩,h.names,hr.2.1.trans h.stack⟩
def KV.setG (v:KV) (i:Nat) (w:Int):KV:={ v with glob:=v.glob.set i ((v.glob.getD i (0,0)).1,w) }
theorem KAll.setG {s:SP}{t:TB}{v:KV} (h:KAll s t v){i:Nat} (hi:i<v.glob.length){w:Int} (hw:d8 w) :
  (s.h.put v.globA (2*(i:Int)+1) w).1=0∧KAll { s with h:=(s.h.put v.globA (2*(i:Int)+1) w).2 } t (v.setG i w):=by
 obtain ⟨hk,hn,lc⟩:=h;have Mf:=hk.view.globs;have b8:=eX v.glob;obtain ⟨p1,p2⟩:=lh Mf (i:=2*(i:Int)+1) (w:=w) (by omega) (by omega) hw;have pk:=iJ (r:=s.h) v.globA (2*(i:Int)+1) w;have e0:(2*(i:Int)+1).toNat=2*i+1:=by omega
 rw [e0,m8 hi] at p1;have eg:v.glob.set i (v.glob[i].1,w)=(v.setG i w).glob:=by simp [KV.setG,hi]
 rw [eg] at p1;have hs:=hk.sep;have c9:(bC v.glob)≠[]:=fun e=>by rw [e] at b8;simp at b8;omega
 unfold vr at hs;simp only [KV.roles] at hs;rw [RI,RI,RI] at hs;obtain ⟨hU,w9,Gz,E5⟩:=hs;have o1:(19:Int)≠v.globA:=fun e=>by
  have:=hU (v.globA,bC v.glob) (by simp) e;simp [KV.rootW] at this
 have o2:v.clsA≠v.globA:=fun e=>by
  have:=w9 (v.globA,bC v.glob) (by simp) e;have hm:=hk.shape.many0;simp only [KV.clsW,List.map_eq_nil_iff] at this;rw [this] at hm;simp at hm
 have o3:∀ q∈(1,[]) :: (18,[]) :: dC v.cls 0,q.1≠v.globA:=fun q hq e=>c9 (Gz q hq e.symm);refine ⟨p2,⟨{ hk.wf with h:=gI hk.wf.h _ _ _ },lR hk.gc _ _ _,hk.op,hk.king,?_,?_,?_⟩,?_,lc⟩
 ·refine dM.of ?_ ?_ p1 ?_ ?_ ?_
  ·exact (hk.view.root).keep pk o1
  ·exact (hk.view.all).keep pk o2
  ·exact (hk.view.nil).keep pk (o3 (1,[]) (by simp))
  ·exact (hk.view.empty).keep pk (o3 (18,[]) (by simp))
  ·intro p hp;exact (hk.view p (by simp only [KV.setG] at hp;simp [KV.roles,hp])).keep pk (o3 p (by simp only [KV.setG] at hp;simp [hp]))
 ·unfold vr;simp only [KV.roles,KV.setG];refine RI.2 ⟨fun q hq he=>?_,RI.2 ⟨fun q hq he=>?_,RI.2 ⟨fun q hq he=>?_,E5⟩⟩⟩
  ·rcases Rk.1 hq with rfl | hq
   ·exact hU (v.clsA,v.clsW) (by simp) he
   ·rcases Rk.1 hq with rfl | hq
    ·exact absurd he o1
    ·exact hU q (by simp only [Rk];exact .inr (.inr (by simpa using hq))) he
  ·rcases Rk.1 hq with rfl | hq
   ·exact absurd he o2
   ·exact w9 q (R0 _ hq) he
  ·exact absurd he.symm (o3 q hq)
 ·exact { hk.shape with globs:=by simp only [KV.setG,Tu];exact hk.shape.globs }
 ·refine { hn with glob:=fun p hp=>?_ };simp only [KV.setG] at hp;rcases Th hp with hp | rfl
  ·exact hn.glob p hp
  ·simp only [RQ,RB hi,Tq];exact hn.glob _ (RG hi)
structure KAllS (s:SP) (t:TB) (v:KV) (st:List Int):Prop where
 ks:KS s v
 names:KNames v t
 stack:s.stack=st
 top:st.length<60000
theorem KAll.s {s:SP}{t:TB}{v:KV} (h:KAll s t v):KAllS s t v []:=⟨h.ks,h.names,h.stack,by simp⟩
theorem KAllS.w {s:SP}{t:TB}{v:KV}{st:List Int} (h:KAllS s t v st):KAllW s t v:=⟨h.ks,h.names,by rw [h.stack];have:=h.top;omega⟩
theorem KAllS.all {s:SP}{t:TB}{v:KV} (h:KAllS s t v []):KAll s t v:=⟨h.ks,h.names,h.stack⟩
theorem si {s:SP}{st m:List Int} (h:s.stack=st++m):(s.drop ((s.stack.length:Int)-(st.length:Int))).2={ s with stack:=st }:=by
 have e:s.stack.length=st.length+m.length:=by rw [h,Rz]
 unfold SP.drop;rw [Re (by omega)];have e2:s.stack.length-((s.stack.length:Int)-(st.length:Int)).toNat=st.length:=by omega
 simp only [e2];rw [h,List.take_left]
theorem KS.restack {s:SP}{v:KV} (h:KS s v){st m:List Int} (e:s.stack=st++m):KS { s with stack:=st } v :=
 ⟨{ h.wf with many:=by have:=h.wf.many;rw [e,Rz] at this;simp;omega,words:=fun w hw=>h.wf.words w (by rw [e];simp [hw]) },h.gc,h.op,h.king,h.view,h.sep,h.shape⟩
theorem yJ {s:SP}{v:KV}{t:TB}{st:List Int} (h:KAllS s t v st){j:Nat} (hj:j<v.cls.length) (an:v.cls.length<256){name:ByteArray}{own:List ByteArray} (hf:∀ c∈v.cls,tx t c.name≠name) :
  ((dF s t v.clsW name (v.cls[j]).oop own).1.2≠0->(dF s t v.clsW name (v.cls[j]).oop own).1.1=0∧KAllS (dF s t v.clsW name (v.cls[j]).oop own).2.1 (dF s t v.clsW name (v.cls[j]).oop own).2.2 v st∧(dF s t v.clsW name (v.cls[j]).oop own).2.2=t ∧
   bG s.h (dF s t v.clsW name (v.cls[j]).oop own).2.1.h (Reaches s.h s.roots)) ∧
  ((dF s t v.clsW name (v.cls[j]).oop own).1.2=0->∃ n ns l d,KAllS (dF s t v.clsW name (v.cls[j]).oop own).2.1 (dF s t v.clsW name (v.cls[j]).oop own).2.2 (v.addC ⟨(dF s t v.clsW name (v.cls[j]).oop own).1.1,n,(v.cls[j]).oop,ns,l,18,18,[],[],0⟩ d) st ∧
   (∃ m,(dF s t v.clsW name (v.cls[j]).oop own).2.2.texts=t.texts++m)∧tx (dF s t v.clsW name (v.cls[j]).oop own).2.2 n=name∧ns.map (tx (dF s t v.clsW name (v.cls[j]).oop own).2.2)=own):=by
 obtain ⟨hk,hn,lc,Do⟩:=h;have D:=xg hk (by rw [lc];exact Do) hj an hn.wf name own;unfold dF;generalize oU s t v.clsW name (v.cls[j]).oop own=R at D ⊢;obtain ⟨m,hm,CZ⟩:=D.stack;rw [lc] at hm;have hd:=si hm;simp only [lc];by_cases he:R.1.2=0
 ·refine ⟨fun h=>absurd he h,fun _=>?_⟩;obtain ⟨c,n,ns,l,d,_,e1,e2,e3,e4⟩:=D.good he;unfold jB;rw [Rj he,Rj he];simp only [hd];have hg:=hn.grow D.wft D.pre;have t1:=eq e3;have t2:ns.map (tx R.2.2)=own:=by
   have h2:∀ (ns:List Nat) (own:List ByteArray),ns.map (fun n=>R.2.2.texts[n]?)=own.map some->ns.map (tx R.2.2)=own:=by
    intro ns
    induction ns with
    | nil=>intro own h;simp only [S0] at h;simpa using h.symm
    | cons a ns ih =>
     intro own h;cases own with
     | nil=>simp at h
     | cons b own =>
      simp only [R6,List.cons.injEq] at h;rw [R6,(eq h.1).1,ih own h.2]
   exact h2 ns own e4
  have t3:∀ x∈ns,x<R.2.2.texts.length:=fun x hx=>by
   have:R.2.2.texts[x]?∈own.map some:=by rw [←e4];exact RN.2 ⟨x,hx,rfl⟩
   obtain ⟨_,_,hs⟩:=RN.1 this;exact (eq hs.symm).2
  refine ⟨n,ns,l,d,⟨by rw [e1];exact e2.restack hm,?_,rfl,Do⟩,D.pre,t1.1,t2⟩;refine ⟨D.wft,fun x hx=>?_,fun x hx=>?_,hg.glob,?_⟩
  ·simp only [KV.addC,Rl,Rg] at hx;rcases hx with hx | rfl
   ·exact hg.name x hx
   ·exact t1.2
  ·simp only [KV.addC,Rl,Rg] at hx;rcases hx with hx | rfl
   ·exact hg.own x hx
   ·exact t3
  ·simp only [KV.addC,Su,R6,S0];rw [SC];refine ⟨hg.nodup,by simp,fun a ha b hb E9=>?_⟩;simp only [Rg] at hb;subst hb;subst E9;obtain ⟨x,hx,EG⟩:=RN.1 ha
   have:=hf x hx;rw [←Az D.pre (hn.name x hx),EG] at this;exact this t1.1
 ·refine ⟨fun _=>?_,fun h=>absurd h he⟩;obtain ⟨b1,b2⟩:=D.bad he;unfold jB;rw [Re he,Re he];simp only [hd];have hb:=qg D.most D.pre;rw [hb];by_cases Fw:R.1.2=24
  ·rw [Rj Fw];exact ⟨trivial,⟨b1.restack hm,hn,rfl,Do⟩,rfl,b2⟩
  ·rw [Re Fw];exact ⟨trivial,⟨(b1.restack hm).marks _,hn,rfl,Do⟩,rfl,b2.trans ((eG _).mono fun _ _=>trivial)⟩
theorem qk {s:SP}{v:KV}{t:TB}{st:List Int} (h:KAllS s t v st) (an:v.glob.length<256){name:ByteArray} :
  ((dI s t (bC v.glob) name).1≠0->KAllS (dI s t (bC v.glob) name).2.1 (dI s t (bC v.glob) name).2.2 v st∧(dI s t (bC v.glob) name).2.2=t∧bG s.h (dI s t (bC v.glob) name).2.1.h (Reaches s.h s.roots)) ∧
  ((dI s t (bC v.glob) name).1=0->∃ n d,KAllS (dI s t (bC v.glob) name).2.1 (dI s t (bC v.glob) name).2.2 (v.addG n d) st∧(∃ m,(dI s t (bC v.glob) name).2.2.texts=t.texts++m)∧tx (dI s t (bC v.glob) name).2.2 n=name):=by
 obtain ⟨hk,hn,lc,Do⟩:=h;have D:=pK hk (by rw [lc];exact Do) an hn.wf name;unfold dI;generalize fy s t (bC v.glob) name=R at D ⊢;obtain ⟨m,hm,CZ⟩:=D.stack;rw [lc] at hm;have hd:=si hm;simp only [lc];by_cases he:R.1=0
 ·refine ⟨fun h=>absurd he h,fun _=>?_⟩;obtain ⟨n,d,e1,e2⟩:=D.good he;unfold jB;rw [Rj he];simp only [hd];have hg:=hn.grow D.wft D.pre;have t1:=eq e2;refine ⟨n,d,⟨e1.restack hm,{ hg with glob:=fun p hp=>?_ },rfl,Do⟩,D.pre,t1.1⟩;simp only [KV.addG,Rl,Rg] at hp;rcases hp with hp | rfl
  ·exact hg.glob p hp
  ·exact t1.2
 ·refine ⟨fun _=>?_,fun h=>absurd h he⟩;obtain ⟨b1,b2⟩:=D.bad he;unfold jB;rw [Re he];simp only [hd];have hb:=qg D.most D.pre;rw [hb];by_cases Fw:R.1=24
  ·rw [Rj Fw];exact ⟨⟨b1.restack hm,hn,rfl,Do⟩,rfl,b2⟩
  ·rw [Re Fw];exact ⟨⟨(b1.restack hm).marks _,hn,rfl,Do⟩,rfl,b2.trans ((eG _).mono fun _ _=>trivial)⟩
theorem KAllS.marks {s:SP}{t:TB}{v:KV}{st:List Int} (h:KAllS s t v st) (k:Int):KAllS { s with h:=(s.h.marks k).2 } t v st:=⟨h.ks.marks k,h.names,h.stack,h.top⟩
theorem KAllS.collect {s:SP}{t:TB}{v:KV}{st:List Int} (h:KAllS s t v st):KAllS s.collect.2 t v st:=by
 have hr:=jz s;exact ⟨⟨mE h.ks.wf,mh h.ks.gc,hr.2.2.trans h.ks.op,hr.1.trans h.ks.king,h.ks.view.keep (i8 h.ks.wf.h) h.ks.reach,h.ks.sep,h.ks.shape⟩,h.names,hr.2.1.trans h.stack,h.top⟩
theorem KAllS.setG {s:SP}{t:TB}{v:KV}{st:List Int} (h:KAllS s t v st){i:Nat} (hi:i<v.glob.length){w:Int} (hw:d8 w) :
  (s.h.put v.globA (2*(i:Int)+1) w).1=0∧KAllS { s with h:=(s.h.put v.globA (2*(i:Int)+1) w).2 } t (v.setG i w) st:=by
 obtain ⟨hk,hn,lc,Do⟩:=h;have Mf:=hk.view.globs;have b8:=eX v.glob;obtain ⟨p1,p2⟩:=lh Mf (i:=2*(i:Int)+1) (w:=w) (by omega) (by omega) hw;have pk:=iJ (r:=s.h) v.globA (2*(i:Int)+1) w;have e0:(2*(i:Int)+1).toNat=2*i+1:=by omega
 rw [e0,m8 hi] at p1;have eg:v.glob.set i (v.glob[i].1,w)=(v.setG i w).glob:=by simp [KV.setG,hi]
 rw [eg] at p1;have hs:=hk.sep;have c9:(bC v.glob)≠[]:=fun e=>by rw [e] at b8;simp at b8;omega
 unfold vr at hs;simp only [KV.roles] at hs;rw [RI,RI,RI] at hs;obtain ⟨hU,w9,Gz,E5⟩:=hs;have o1:(19:Int)≠v.globA:=fun e=>by
  have:=hU (v.globA,bC v.glob) (by simp) e;simp [KV.rootW] at this
 have o2:v.clsA≠v.globA:=fun e=>by
  have:=w9 (v.globA,bC v.glob) (by simp) e;have hm:=hk.shape.many0;simp only [KV.clsW,List.map_eq_nil_iff] at this;rw [this] at hm;simp at hm
 have o3:∀ q∈(1,[]) :: (18,[]) :: dC v.cls 0,q.1≠v.globA:=fun q hq e=>c9 (Gz q hq e.symm);refine ⟨p2,⟨{ hk.wf with h:=gI hk.wf.h _ _ _ },lR hk.gc _ _ _,hk.op,hk.king,?_,?_,?_⟩,?_,lc,Do⟩
 ·refine dM.of ?_ ?_ p1 ?_ ?_ ?_
  ·exact (hk.view.root).keep pk o1
  ·exact (hk.view.all).keep pk o2
  ·exact (hk.view.nil).keep pk (o3 (1,[]) (by simp))
  ·exact (hk.view.empty).keep pk (o3 (18,[]) (by simp))
  ·intro p hp;exact (hk.view p (by simp only [KV.setG] at hp;simp [KV.roles,hp])).keep pk (o3 p (by simp only [KV.setG] at hp;simp [hp]))
 ·unfold vr;simp only [KV.roles,KV.setG];refine RI.2 ⟨fun q hq he=>?_,RI.2 ⟨fun q hq he=>?_,RI.2 ⟨fun q hq he=>?_,E5⟩⟩⟩
  ·rcases Rk.1 hq with rfl | hq
   ·exact hU (v.clsA,v.clsW) (by simp) he
   ·rcases Rk.1 hq with rfl | hq
    ·exact absurd he o1
    ·exact hU q (by simp only [Rk];exact .inr (.inr (by simpa using hq))) he
  ·rcases Rk.1 hq with rfl | hq
   ·exact absurd he o2
   ·exact w9 q (R0 _ hq) he
  ·exact absurd he.symm (o3 q hq)
 ·exact { hk.shape with globs:=by simp only [KV.setG,Tu];exact hk.shape.globs }
 ·refine { hn with glob:=fun p hp=>?_ };simp only [KV.setG] at hp;rcases Th hp with hp | rfl
  ·exact hn.glob p hp
  ·simp only [RQ,RB hi,Tq];exact hn.glob _ (RG hi)
end Kw
namespace Kw
open Go
def rB (w:Int):Int:=if bT w=3 then w / 4 else 0
def rJ (t:TB) (w:Int):ByteArray:=if bT w=2 then tx t (w / 4).toNat else ⟨#[]⟩
def kslot (r:RH) (o i:Int):Int:=(r.at o i).1
def lE (r:RH) (o i:Int):Int:=rB (kslot r o i)
def nj (r:RH) (t:TB) (o i:Int):ByteArray:=rJ t (kslot r o i)
def ksize (r:RH) (o:Int):Int:=(r.size o).1
theorem jS {o:Int} (h0:1<=o) (h1:o<=65536):rB (4*o)=o:=by
 unfold rB
 have:=bN (4*o);rw [Rj (by omega)];omega
theorem nV {t:TB} (hw:WFT t){n:Nat} (h:n<t.texts.length):rJ t (cC n)=tx t n:=by
 unfold rJ cC;have h1:=hw.m1;have h2:=hw.len
 have:=bN (4*(n:Int)+2);rw [Rj (by omega)]
 congr 1;omega
theorem eV.kslot {r:RH}{o:Int}{ws:List Int} (h:eV r o ws){i:Nat} (hi:i<ws.length):kslot r o i=ws[i]:=by
 unfold Kw.kslot;rw [h.at (by omega) (by omega)];simp
theorem eV.ksize {r:RH}{o:Int}{ws:List Int} (h:eV r o ws):ksize r o=ws.length:=by unfold Kw.ksize;rw [h.size]
theorem kF {r:RH} (o:Int):0<=ksize r o:=by
 unfold ksize RH.size;cases aG r.objs o with
 | none=>exact Sc 0
 | some x=>exact Int.natCast_nonneg _
theorem rS {r:RH} (hw:WFH r) (o:Int):ksize r o<=8192:=by
 unfold ksize RH.size;cases ho:aG r.objs o with
 | none=>exact Int.le_of_lt (by decide)
 | some x=>have:=(hw.objs.good x (aN ho).1).many;simp only;omega
def kwords (r:RH) (o:Int):List Int:=(List.range (ksize r o).toNat).map fun i:Nat=>kslot r o i
theorem eV.kwords {r:RH}{o:Int}{ws:List Int} (h:eV r o ws):kwords r o=ws:=by
 unfold Kw.kwords;rw [h.ksize,Ro];apply SH (by simp);intro i h1 h2;simp only [SI,TA];exact h.kslot h2
section
variable {s:SP}{v:KV}{t:TB}
theorem KS.root0 (h:KS s v):lE s.h 19 0=v.clsA:=by
 have hb:=h.view.all.bnd h.wf.h;have hr:=h.view.root;unfold lE;rw [show (0:Int)=((0:Nat):Int) from rfl,hr.kslot (by simp [KV.rootW])];exact jS hb.1 hb.2.1
theorem KS.root1 (h:KS s v):lE s.h 19 1=v.globA:=by
 have hb:=h.view.globs.bnd h.wf.h;have hr:=h.view.root;unfold lE;rw [show (1:Int)=((1:Nat):Int) from rfl,hr.kslot (by simp [KV.rootW])];exact jS hb.1 hb.2.1
theorem KS.size0 (h:KS s v):ksize s.h v.clsA=v.cls.length:=by rw [h.view.all.ksize];simp [KV.clsW]
theorem KS.size1 (h:KS s v):ksize s.h v.globA=2*v.glob.length:=by rw [h.view.globs.ksize,eX];simp
theorem KS.clsAt (h:KS s v){i:Nat} (hi:i<v.cls.length):kslot s.h v.clsA i=4*(v.cls[i]).oop∧lE s.h v.clsA i=(v.cls[i]).oop:=by
 have hb:=(h.view.cls hi).bnd h.wf.h;have e:kslot s.h v.clsA i=4*(v.cls[i]).oop:=by rw [h.view.all.kslot (by simpa [KV.clsW] using hi)];simp [KV.clsW]
 exact ⟨e,by unfold lE;rw [e];exact jS hb.1 hb.2.1⟩
theorem KS.globAt (h:KS s v){i:Nat} (hi:i<v.glob.length):kslot s.h v.globA (2*i:Nat)=cC v.glob[i].1∧kslot s.h v.globA (2*i+1:Nat)=v.glob[i].2:=by
 have hg:=na hi;have hl:=eX v.glob;refine ⟨?_,?_⟩
 ·rw [h.view.globs.kslot (by omega)]
  have:=hg.1;rw [RB (by omega)] at this;simpa using this
 ·rw [h.view.globs.kslot (by omega)]
  have:=hg.2;rw [RB (by omega)] at this;simpa using this
theorem KS.c0 (h:KS s v){i:Nat} (hi:i<v.cls.length):kslot s.h (v.cls[i]).oop 0=cC (v.cls[i]).name:=(h.view.cls hi).kslot (i:=0) (by simp [CV.slots])
theorem KS.c1 (h:KS s v){i:Nat} (hi:i<v.cls.length):kslot s.h (v.cls[i]).oop 1=4*(v.cls[i]).up:=(h.view.cls hi).kslot (i:=1) (by simp [CV.slots])
theorem KS.c2 (h:KS s v){i:Nat} (hi:i<v.cls.length):kslot s.h (v.cls[i]).oop 2=4*(v.cls[i]).ownA:=(h.view.cls hi).kslot (i:=2) (by simp [CV.slots])
theorem KS.c3 (h:KS s v){i:Nat} (hi:i<v.cls.length):kslot s.h (v.cls[i]).oop 3=4*(v.cls[i]).selA:=(h.view.cls hi).kslot (i:=3) (by simp [CV.slots])
theorem KS.c4 (h:KS s v){i:Nat} (hi:i<v.cls.length):kslot s.h (v.cls[i]).oop 4=4*(v.cls[i]).metA:=(h.view.cls hi).kslot (i:=4) (by simp [CV.slots])
theorem KS.c5 (h:KS s v){i:Nat} (hi:i<v.cls.length):kslot s.h (v.cls[i]).oop 5=2*(v.cls[i]).lay+1:=(h.view.cls hi).kslot (i:=5) (by simp [CV.slots])
theorem KS.c6 (h:KS s v){i:Nat} (hi:i<v.cls.length):kslot s.h (v.cls[i]).oop 6=2*((i:Int)+1)+1:=(h.view.cls hi).kslot (i:=6) (by simp [CV.slots])
theorem KS.upB (h:KS s v){i:Nat} (hi:i<v.cls.length):1<=(v.cls[i]).up∧(v.cls[i]).up<=65536:=by
 by_cases h0:i=0
 ·subst h0;rw [(h.shape.up0 hi).1];decide
 ·obtain ⟨j,hj,_,e⟩:=h.shape.ups i hi (by omega);rw [←e]
  have:=(h.view.cls hj).bnd h.wf.h;exact ⟨this.1,this.2.1⟩
theorem KS.up (h:KS s v){i:Nat} (hi:i<v.cls.length):lE s.h (v.cls[i]).oop 1=(v.cls[i]).up:=by
 unfold lE;rw [h.c1 hi];exact jS (h.upB hi).1 (h.upB hi).2
theorem KAllW.name (h:KAllW s t v){i:Nat} (hi:i<v.cls.length):nj s.h t (v.cls[i]).oop 0=tx t (v.cls[i]).name:=by
 unfold nj;rw [h.ks.c0 hi];exact nV h.names.wf (h.names.name _ (RG hi))
theorem KAllW.gname (h:KAllW s t v){i:Nat} (hi:i<v.glob.length):nj s.h t v.globA (2*i:Nat)=tx t v.glob[i].1:=by
 unfold nj;rw [(h.ks.globAt hi).1];exact nV h.names.wf (h.names.glob _ (RG hi))
end
def yN (v:KV) (o:Int):Option Nat:=v.cls.findIdx? fun c=>decide (c.oop=o)
theorem pL {v:KV}{o:Int}{i:Nat} (h:yN v o=some i):∃ hi:i<v.cls.length,(v.cls[i]).oop=o:=by
 unfold yN at h;rw [S2] at h;obtain ⟨hi,h1,_⟩:=h;exact ⟨hi,by simpa using h1⟩
theorem ud {v:KV}{o:Int} (h:yN v o=none):∀ i (hi:i<v.cls.length),(v.cls[i]).oop≠o:=by
 unfold yN at h;rw [Ti] at h;intro i hi;simpa using h _ (RG hi)
theorem KS.idx {s:SP}{v:KV} (h:KS s v){i:Nat} (hi:i<v.cls.length):yN v (v.cls[i]).oop=some i:=by
 cases hx:yN v (v.cls[i]).oop with
 | none=>exact absurd rfl (ud hx i hi)
 | some j =>
  obtain ⟨hj,e⟩:=pL hx;rw [h.view.inj hj hi e]
def fX (v:KV) (t:TB) (name:ByteArray):Int × Int:=match v.cls.findIdx? (fun c=>decide (tx t c.name=name)) with
 | some i=>((v.cls.getD i ⟨0,0,0,[],0,0,0,[],[],0⟩).oop,0)
 | none=>(0,130)
def cy (v:KV) (t:TB):List ByteArray:=v.glob.map fun p=>tx t p.1
def gm (v:KV) (i:Int):Int × Int:=if h:0<=i∧i<v.glob.length then ((v.glob[i.toNat]'(by omega)).2,0) else (0,1)
end Kw
namespace Kw
open Go
def cU (s:SP) (v:KV) (n w:Int):Int × SP:=if n<0∨(v.glob.length:Int)<=n then (1,s) else if ¬ d8 w then (10,s) else ((s.h.put v.globA (2*n+1) w).1,{ s with h:=(s.h.put v.globA (2*n+1) w).2 })
def ov (r:RH) (w:Int):Int × Int :=
 if bT w=1 then (8,0) else if bT w=2 then (9,0) else if bT w=3 then
  match r.clsAt (w / 4) with
  | (c,e)=>if e=0 then (rB c,0) else (0,e)
 else (0,10)
end Kw
namespace Kw
open Go
def gB (s:ByteArray) (i:Nat):Nat:=(s[i]?.getD 0).toNat
theorem x8 {s:ByteArray}{i:Nat}{u:UInt8} (h:s[i]?=some u):gB s i=u.toNat:=by unfold gB;rw [h];rfl
def cP (n:Nat):Prop:=(97<=n∧n<=122)∨(65<=n∧n<=90)∨(48<=n∧n<=57)
instance (n:Nat):Decidable (cP n):=inferInstanceAs (Decidable (_∨_∨_))
def hZ (lo hi:Nat) (s:ByteArray):Prop:=1<=s.size∧s.size<=32∧lo<=gB s 0∧gB s 0<=hi∧∀ i,i<s.size->cP (gB s i)
noncomputable instance (lo hi:Nat) (s:ByteArray):Decidable (hZ lo hi s):=Classical.propDecidable _
def yx (s:ByteArray):Prop:=s=⟨#[115,101,108,102]⟩∨s=⟨#[115,117,112,101,114]⟩∨s=⟨#[110,105,108]⟩∨s=⟨#[116,114,117,101]⟩∨s=⟨#[102,97,108,115,101]⟩
instance (s:ByteArray):Decidable (yx s):=inferInstanceAs (Decidable (_∨_))
def w8 (s:ByteArray):Prop:=¬ yx s∧hZ 97 122 s
noncomputable instance (s:ByteArray):Decidable (w8 s):=Classical.propDecidable _
noncomputable instance memBA (s:ByteArray) (l:List ByteArray):Decidable (s∈l):=Classical.propDecidable _
def gn (v:KV) (t:TB) (name:ByteArray):Prop:=(fX v t name).2=0∨name∈cy v t
noncomputable instance (v:KV) (t:TB) (name:ByteArray):Decidable (gn v t name):=Classical.propDecidable _
noncomputable def nh (v:KV) (t:TB) (name:ByteArray):Int :=
 if ¬ hZ 65 90 name then 133 else if gn v t name then 131 else if 256<=v.glob.length then 138 else 0
noncomputable def bB (s:SP) (v:KV) (t:TB) (name:ByteArray):Int × SP × TB :=
 if nh v t name≠0 then (nh v t name,s,t) else dI s t (bC v.glob) name
section
def aE:List (Int × Int):=[(5,0),(6,0),(7,0),(12,7),(12,7),(12,7),(12,7),(12,7),(12,7),(12,7),(12,7),(12,7),(12,7),(12,7),(12,7),(12,7),(12,7),(11,0),(11,8),(11,14)]
def RH.allocAll (r:RH):List (Int × Int)->Int × RH
 | []=>(0,r)
 | (c,n) :: l=>if (r.alloc (4*c) n 0).1.2≠0 then ((r.alloc (4*c) n 0).1.2,(r.alloc (4*c) n 0).2) else RH.allocAll (r.alloc (4*c) n 0).2 l
def rZ (p:List RO × Int) (x:Int × Int):List RO × Int:=(p.1++[⟨bR p.1,0,bv p.1,p.2,4*x.1,List.replicate x.2.toNat 4⟩],IntKind.wrap .i64 (p.2+1))
def lg (p:List RO × Int):List (Int × Int)->List RO × Int
 | []=>p
 | x :: l=>lg (rZ p x) l
theorem rD {r:RH} (hm:r.mark=0){c n:Int} (h:(r.alloc (4*c) n 0).1.2=0):(r.alloc (4*c) n 0).2={ r with objs:=(rZ (r.objs,r.born) (c,n)).1,born:=(rZ (r.objs,r.born) (c,n)).2 }:=by
 unfold RH.alloc at h ⊢;split at h
 ·cases h
 rename_i g1;split at h
 ·cases h
 rename_i g2;split at h
 ·cases h
 rename_i g3;split at h
 ·cases h
 rename_i g4;rw [Re g1,Re g2,Re g3,Re g4];simp [rZ,cY,hm]
theorem gp (l:List (Int × Int)):∀ {r:RH},r.mark=0->(r.allocAll l).1=0->(r.allocAll l).2={ r with objs:=(lg (r.objs,r.born) l).1,born:=(lg (r.objs,r.born) l).2 }:=by
 induction l with
 | nil=>intro r _ _;rfl
 | cons x l ih =>
  intro r hm h;obtain ⟨c,n⟩:=x;unfold RH.allocAll at h ⊢;split at h
  ·rename_i hn;exact absurd h hn
  rename_i hn;rw [Re hn];have e:=rD hm (RE hn)
  have:=ih (r:=(r.alloc (4*c) n 0).2) (by rw [e];exact hm) h;rw [this,e];rfl
theorem px (l:List (Int × Int)):∀ {r:RH},WFH r->WFH (r.allocAll l).2:=by
 induction l with
 | nil=>intro r h;exact h
 | cons x l ih =>
  intro r h;obtain ⟨c,n⟩:=x;unfold RH.allocAll;split
  ·exact gD h _ _ _
  ·exact ih (gD h _ _ _)
def bQ:List ByteArray:=[⟨#[79,98,106,101,99,116]⟩,⟨#[85,110,100,101,102,105,110,101,100,79,98,106,101,99,116]⟩,⟨#[70,97,108,115,101]⟩,⟨#[84,114,117,101]⟩,⟨#[73,110,116,101,103,101,114]⟩,⟨#[83,121,109,98,111,108]⟩,⟨#[83,116,114,105,110,103]⟩,⟨#[65,114,114,97,121]⟩,⟨#[67,108,97,115,115]⟩,⟨#[77,101,116,104,111,100]⟩,⟨#[66,108,111,99,107]⟩,⟨#[67,111,110,116,101,120,116]⟩,⟨#[80,114,111,99,101,115,115]⟩,⟨#[77,101,115,115,97,103,101]⟩]
def d7 (i:Nat):List Int:=[4*(i:Int)+2,if i=0 then 4 else 16,72,72,72,1,2*((i:Int)+1)+1]
def yF (i:Nat) (r:RH):RH:=((r.lay (4+i) 0 (d7 i)).put 20 i (4*(4+i))).2
def fY (r:RH):Nat->RH
 | 0=>r
 | n+1=>yF n (fY r n)
def nC:List Int:=[80,72,72,72,4,8,12]
def cX (r:RH):RH:=(fY r 14).lay 19 0 nC
def dK:List RO:=(lg ([],0) aE).1
def bO (words oops:Int):RH:=⟨words,oops,0,0,0,[]⟩
def bI (words oops:Int):RH:=cX (((bO words oops).allocAll aE).2)
def fC (words oops:Int):SP:=⟨bI words oops,19,[],false,0,0,0⟩
def cF:TB:=⟨4096,bQ⟩
def bV:KV:=⟨(List.range 14).map fun i:Nat=>⟨4+i,i,if i=0 then 1 else 4,[],18,18,18,[],[],0⟩,20,[],18,[72,72,4,8,12,4]⟩
def tX:List (Int × List Int):=[(1,[]),(2,[]),(3,[])]++(List.range 14).map (fun i:Nat=>((4+i:Int),d7 i))++[(18,[]),(19,[80,72,72,72,4,8,12,4]),(20,(List.range 14).map fun i:Nat=>4*(4+(i:Int)))]
theorem qY (w o m b t:Int):((cX ⟨w,o,m,b,t,dK⟩).objs.map fun x=>(x.oop,x.slots))=tX:=by kernel_rfl
theorem nf (w o m b t:Int):((cX ⟨w,o,m,b,t,dK⟩).objs.all fun x=>decide (x.fmt=0) && decide (bT x.cls=3))=true:=by kernel_rfl
theorem sX:(dK.all fun x=>decide (x.fmt=0))=true:=by kernel_rfl
theorem kM:(bQ.all fun s=>decide (cJ s))=true:=by kernel_rfl
theorem jK:bQ.Nodup:=by decide +kernel
theorem tF {words oops:Int} (h0:0<=words) (h1:words<=1048576) (h2:0<=oops) (h3:oops<=65536):WFH (bO words oops) :=
 ⟨h0,h1,h2,h3,Sc _,by simp [bO],⟨by simp [bO],by simp [bO]⟩⟩
theorem uW {r:RH} (h:WFH r) (n:Nat):WFH (fY r n):=by
 induction n with
 | zero=>exact h
 | succ n ih=>exact gI (ri ih _ _ _) _ _ _
theorem vn {r:RH} (h:WFH r):WFH (cX r):=ri (uW h 14) _ _ _
theorem uj:WFT cF:=⟨by decide,by decide,by decide,jK,fun s hs=>by simpa using SG.1 kM s hs⟩
theorem rK {i:Nat} (hi:i<bQ.length):TB.add ⟨4096,bQ.take i⟩ bQ[i]=(((i:Int),0),⟨4096,bQ.take (i+1)⟩):=by
 have hg:cJ bQ[i]:=by simpa using SG.1 kM _ (RG hi)
 have hn:cL (bQ.take i) bQ[i]=none:=gN.2 fun hm=>by
  obtain ⟨j,hj,e⟩:=Sp hm;rw [Tm] at e
  have:=(List.getElem_inj jK).1 e;simp only [R5] at hj;omega
 have GH:bQ.length=14:=rfl;unfold TB.add;rw [Re (by simpa using hg)];simp only [hn];rw [Re (by simp only [R5];omega)];have e1:(bQ.take i).length=i:=by rw [R5];omega
 rw [e1,RP,RB hi];rfl
theorem sR:(bV.roles.all fun p=>decide (p∈tX))=true:=by kernel_rfl
theorem vY:vr bV:=by unfold vr;decide +kernel
theorem lQ {words oops:Int} (h:((bO words oops).allocAll aE).1=0):(bI words oops).objs=(cX ⟨words,oops,0,20,0,dK⟩).objs:=by
 have e:((bO words oops).allocAll aE).2=⟨words,oops,0,20,0,dK⟩:=by
  rw [gp aE (r:=bO words oops) rfl h]
  kernel_rfl
 unfold bI;rw [e]
theorem rW {words oops:Int} (hw:WFH (bI words oops)) (h:((bO words oops).allocAll aE).1=0){p:mP} (hp:p∈tX):eV (bI words oops) p.1 p.2:=by
 have e:=lQ h;rw [←qY words oops 0 20 0,←e] at hp;obtain ⟨x,hx,rfl⟩:=RN.1 hp;have hf:=nf words oops 0 20 0;rw [←e] at hf
 have:=SG.1 hf x hx;simp only [R4,decide_eq_true_eq] at this;exact ⟨x,cA hw.objs hx,this.1,rfl⟩
theorem fc (i:Nat) (hi:i<bV.cls.length):bV.cls[i]=⟨4+i,i,if i=0 then 1 else 4,[],18,18,18,[],[],0⟩:=by simp [bV]
theorem tD {words oops:Int} (h0:0<=words) (h1:words<=1048576) (h2:0<=oops) (h3:oops<=65536):WFH (bI words oops):=by
 unfold bI;exact vn (px _ (tF h0 h1 h2 h3))
attribute [local irreducible] bI
theorem ye {words oops:Int} (h0:0<=words) (h1:words<=1048576) (h2:0<=oops) (h3:oops<=65536) (h:((bO words oops).allocAll aE).1=0):KAll (fC words oops) cF bV:=by
 have hw:WFH (bI words oops):=tD h0 h1 h2 h3;have hl:bV.cls.length=14:=rfl;refine ⟨⟨⟨hw,(by decide:(0:Int)<=19),(by decide:(19:Int)<=65536),(RL _:([]:List Int).length<=65536),fun w hw=>by cases hw⟩,?_,rfl,rfl,?_,vY,?_⟩,⟨uj,?_,?_,?_,?_⟩,rfl⟩
 ·intro x hx;have hf:=nf words oops 0 20 0;rw [←lQ h] at hf
  have:=SG.1 hf x hx;simp only [R4,decide_eq_true_eq] at this;exact this.2
 ·intro p hp;exact rW hw h (of_decide_eq_true (SG.1 sR p hp))
 ·refine ⟨rfl,by rw [hl];decide,by rw [hl];decide,by decide,fun _=>?_,fun i hi p6=>?_,fun i hi GH=>?_,fun c hc=>?_⟩
  ·rw [fc];exact ⟨rfl,rfl⟩
  ·refine ⟨0,by decide,p6,?_⟩;rw [fc,fc];simp only;rw [Re (by omega)];rfl
  ·rw [fc]
  ·obtain ⟨i,hi,rfl⟩:=Sp hc;rw [fc];simp
 ·intro c hc;obtain ⟨i,hi,rfl⟩:=Sp hc;rw [fc];show i<14;rw [hl] at hi;exact hi
 ·intro c hc n hn;obtain ⟨i,hi,rfl⟩:=Sp hc;rw [fc] at hn;cases hn
 ·intro p hp;cases hp
 ·have:bV.cls.map (·.name)=List.range 14:=by kernel_rfl
  rw [this];exact TP
end
structure RoomyK (r:RH) (k:Nat) (m:Int):Prop where
 mark:r.mark=0
 objs:(r.objs.length:Int)+k<=r.oops
 words:bv r.objs+m<=r.words
theorem RoomyK.less {r:RH}{k k':Nat}{m m':Int} (h:RoomyK r k m) (hk:k'<=k) (hm:m'<=m):RoomyK r k' m':=⟨h.mark,by have:=h.objs;omega,by have:=h.words;omega⟩
theorem mo {r:RH}{k:Nat}{m cls n f:Int} (h:RoomyK r (k+1) (m+lenOf n f)) (hm:0<=m) (hc:d8 cls) (hf:f=0∨f=1) (hn:0<=n) (Dl:n<=8192) :
  (r.alloc cls n f)=((bR r.objs,0),{ r with born:=IntKind.wrap .i64 (r.born+1),objs:=r.objs++[cY r cls n f] })∧RoomyK (r.alloc cls n f).2 k m:=by
 have h1:=h.objs;have h2:=h.words;have e:(r.alloc cls n f)=((bR r.objs,0),{ r with born:=IntKind.wrap .i64 (r.born+1),objs:=r.objs++[cY r cls n f] }):=by
  unfold RH.alloc;rw [Re (by rintro (h3 | h3 | h3 | h3);exact h3 hc;all_goals omega),Re (by omega),Re (by omega),Re (by rw [h.mark];decide),h.mark];rfl
 refine ⟨e,?_⟩;rw [e];refine ⟨h.mark,by simp only [Rz,RF,RV];omega,?_⟩;show bv (r.objs++[cY r cls n f])+m<=r.words;rw [cW]
 have:(cY r cls n f).place+(cY r cls n f).len=bv r.objs+lenOf n f:=by
  unfold cY RO.len;simp only [SF];rw [So hn]
 rw [this];omega
theorem qC {r:RH}{k:Nat}{m:Int} (h:RoomyK r k m) (o i w:Int):RoomyK (r.put o i w).2 k m:=by
 unfold RH.put;split
 ·exact h
 split
 ·exact h
 split
 ·exact h
 ·refine ⟨h.mark,by simp only [fS,RZ];exact h.objs,?_⟩;show bv (fS r.objs o (fA i w))+m<=r.words;rw [nU (f:=fA i w) (fun _=>rfl) (jZ i w)];exact h.words
theorem qu {r:RH}{k:Nat}{m:Int} (h:RoomyK r k m) (o i:Int) (l:List Int):RoomyK (r.lay o i l) k m:=by
 induction l generalizing r i with
 | nil=>exact h
 | cons w l ih=>exact ih (qC h _ _ _) _
theorem pC {s:SP}{k:Nat}{m cls n f:Int} (h:RoomyK s.h (k+1) (m+lenOf n f)) (hm:0<=m) (hc:d8 cls) (hf:f=0∨f=1) (hn:0<=n) (Dl:n<=8192) :
  s.alloc cls n f=((4*(s.h.alloc cls n f).1.1,0),{ s with h:=(s.h.alloc cls n f).2 })∧(s.h.alloc cls n f).1.2=0∧RoomyK (s.h.alloc cls n f).2 k m:=by
 obtain ⟨e,hr⟩:=mo h hm hc hf hn Dl;have e0:(s.h.alloc cls n f).1.2=0:=by rw [e]
 refine ⟨?_,e0,hr⟩;unfold SP.alloc;rw [Rj (.inl (by rw [e0];decide)),e0]
end Kw
namespace Kw
open Go
def nc (r r':RH) (k:Int):Prop:=∀ j,j≠k->aG r'.objs j=aG r.objs j
theorem nc.trans {r r' r'':RH}{k:Int} (h:nc r r' k) (h':nc r' r'' k):nc r r'' k:=fun j hj=>(h' j hj).trans (h j hj)
theorem nl (r:RH) (k i w:Int):nc r (r.put k i w).2 k:=by
 intro j hj;unfold RH.put;split
 ·rfl
 split
 ·rfl
 split
 ·rfl
 ·show aG (fS r.objs k (fA i w)) j=_;rw [eC (f:=fA i w) fun _=>rfl];cases ha:aG r.objs j with
  | none=>rfl
  | some a =>
   simp only [SM]
   have:=(aN ha).2;rw [Re (by omega)]
theorem dM.same1 {r r':RH}{v:KV} (h:dM r v){k:Int} (hs:nc r r' k) (hk:∀ p∈v.roles,p.1≠k):dM r' v:=fun p hp=>by
 obtain ⟨x,h1,h2,h3⟩:=h p hp;exact ⟨x,by rw [hs _ (hk p hp)];exact h1,h2,h3⟩
end Kw
namespace Kw
open Go
end Kw
namespace Kw
open Go
def ir (l:List (Int × Int)):Int:=(l.map fun p=>2+p.2).sum
theorem mN:∀ (l:List (Int × Int)){r:RH}{k:Nat}{m:Int},RoomyK r (k+l.length) (m+ir l)->0<=m->(∀ p∈l,1<=p.1∧p.1<=65536∧0<=p.2∧p.2<=8192)->(r.allocAll l).1=0∧RoomyK (r.allocAll l).2 k m:=by
 intro l
 induction l with
 | nil=>intro r k m h _ _;exact ⟨rfl,h.less (by simp) (by simp [ir])⟩
 | cons p l ih =>
  intro r k m h hm hp;obtain ⟨c,n⟩:=p;obtain ⟨h1,h2,h3,h4⟩:=hp (c,n) (by simp);simp only at h1 h2 h3 h4;have hi:d8 (4*c):=dW h1 h2;have p6:0<=ir l:=by
   have:∀ l:List (Int × Int),(∀ p∈l,0<=p.2)->0<=ir l:=by
    intro l
    induction l with
    | nil=>intro _;simp [ir]
    | cons q l ih2 =>
     intro h;have a1:=h q (by simp);have a2:=ih2 fun x hx=>h x (by simp [hx]);unfold ir at a2 ⊢;simp only [R6,List.sum_cons];omega
   exact this l fun q hq=>(hp q (by simp [hq])).2.2.1
  have b8:lenOf n 0=2+n:=by unfold lenOf;rw [Re (by decide)]
  have hR:RoomyK r ((k+l.length)+1) ((m+ir l)+lenOf n 0):=by
   rw [b8];refine h.less (by simp only [RF];omega) ?_;unfold ir;simp only [R6,List.sum_cons];omega
  obtain ⟨e1,hr⟩:=mo (cls:=4*c) hR (by omega) hi (.inl rfl) h3 h4;unfold RH.allocAll;have e0:(r.alloc (4*c) n 0).1.2=0:=by rw [e1]
  rw [Re (by rw [e0];simp)];exact ih hr hm fun q hq=>hp q (by simp [hq])
theorem rg {k:Nat}{m:Int}:∀ (n:Nat){r:RH},RoomyK r k m->RoomyK (fY r n) k m:=by
 intro n
 induction n with
 | zero=>intro r h;exact h
 | succ n ih =>
  intro r h;unfold fY yF;exact qC (qu (ih h) _ _ _) _ _ _
theorem tB {words oops:Int}{k:Nat}{m:Int} (hw:words=160+m) (ho:oops=20+k) (hm:0<=m):((bO words oops).allocAll aE).1=0∧RoomyK (bI words oops) k m:=by
 have h0:RoomyK (bO words oops) (k+aE.length) (m+ir aE):=by
  refine ⟨rfl,?_,?_⟩
  ·show ((0:Nat):Int)+((k+20:Nat):Int)<=oops;omega
  ·show (0:Int)+(m+ir aE)<=words
   have:ir aE=160:=by decide
   omega
 obtain ⟨e1,e2⟩:=mN aE h0 hm (by decide);refine ⟨e1,?_⟩;unfold bI cX;exact qu (rg 14 e2) _ _ _
end Kw
namespace Kw
open Go
attribute [local irreducible] bI cX dK
end Kw
namespace Kw
open Go
section
structure Tight (W O:Int) (r:RH):Prop where
 words:r.words=W
 oops:r.oops=O
 cls:∀ x∈r.objs,∃ c:Int,4<=c∧c<=17∧x.cls=4*c
theorem qo {W O:Int}{r:RH} (h:Tight W O r) (k:Int):Tight W O (r.marks k).2:=by
 unfold RH.marks;split
 ·exact ⟨h.words,h.oops,h.cls⟩
 ·exact h
theorem zk (s:SP) (n:Int):(s.drop n).2.h=s.h:=by
 unfold SP.drop;split <;> rfl
structure Tame (v:KV):Prop where
 rest:v.rest=[72,72,4,8,12,4]
 glob:∀ p∈v.glob,p.2=4
 cls:∀ c∈v.cls,c.selA=18∧c.metA=18∧c.sels=[]∧c.mets=[]
def KV.roles2 (v:KV):List mP:=(2,[]) :: (3,[]) :: v.roles
structure K2 (W O:Int) (s:SP) (t:TB) (v:KV):Prop where
 all:KAll s t v
 tame:Tame v
 tight:Tight W O s.h
 o2:eV s.h 2 []
 o3:eV s.h 3 []
theorem K2.view {W O:Int}{s:SP}{t:TB}{v:KV} (h:K2 W O s t v):∀ p∈v.roles2,eV s.h p.1 p.2:=fun p hp=>by
 simp only [KV.roles2,Rk] at hp;rcases hp with rfl | rfl | hp
 ·exact h.o2
 ·exact h.o3
 ·exact h.all.ks.view p hp
theorem K2.marks {W O:Int}{s:SP}{t:TB}{v:KV} (h:K2 W O s t v) (k:Int):K2 W O { s with h:=(s.h.marks k).2 } t v :=
 ⟨h.all.marks k,h.tame,qo h.tight k,h.o2.keep (eG k) trivial,h.o3.keep (eG k) trivial⟩
theorem sP {s:SP}{r:RH}{P:Int->Prop} (h:bG r s.h P) (t:TB) (m c k e:Int):bG r (jB s t m c k e).1.h P:=by
 unfold jB;split
 ·rw [zk];exact h
 ·show bG r (if e=24 then s.h else (s.h.marks m).2) P;split
  ·exact h
  ·exact h.trans ((eG m).mono fun _ _=>trivial)
attribute [local irreducible] bI
end
section
attribute [local irreducible] bI cX dK
abbrev Cb:=Int × Int × List Int
def ob (r:RH) (k:Int):Option Cb:=(aG r.objs k).map fun o=>(o.cls,o.fmt,o.slots)
theorem ft {r:RH}{k c f:Int}{l:List Int}:ob r k=some (c,f,l)↔∃ o,aG r.objs k=some o∧o.cls=c∧o.fmt=f∧o.slots=l:=by
 unfold ob;constructor
 ·intro h;obtain ⟨o,h1,h2⟩:=Option.map_eq_some_iff.1 h;simp only [Prod.mk.injEq] at h2;exact ⟨o,h1,h2⟩
 ·rintro ⟨o,h1,rfl,rfl,rfl⟩;rw [h1];rfl
theorem iO {r:RH}{k:Int}:ob r k=none↔aG r.objs k=none:=by
 unfold ob;simp
theorem bG.ob {r r':RH}{P:Int->Prop} (h:bG r r' P){k:Int} (hp:P k){x:Cb} (hx:ob r k=some x):ob r' k=some x:=by
 obtain ⟨c,f,l⟩:=x;obtain ⟨o,h1,rfl,rfl,rfl⟩:=ft.1 hx;obtain ⟨y,g1,g2,g3,g4⟩:=h k hp o h1;exact ft.2 ⟨y,g1,g2,g3,g4⟩
theorem qm:∀ (l:List RO) (a k:Int),((aG (bS a l) k).map fun o=>(o.cls,o.fmt,o.slots))=(aG l k).map fun o=>(o.cls,o.fmt,o.slots)
 | [],_,_=>rfl
 | o :: l,a,k=>by
  have ih:=qm l (a+o.len) k;unfold aG at ih ⊢;simp only [bS,S6];split
  ·rename_i h
   have:decide (o.oop=k)=true:=h;simp [this]
  ·rename_i h
   have:decide (o.oop=k)=false:=h;simp only [this];exact ih
theorem iT {r:RH}{l:List Int} (be:∀ k∈l,aG r.objs k≠none){k:Int}{x:Cb} (h:ob (r.keep l).2 k=some x):ob r k=some x∧k∈l:=by
 unfold RH.keep at h;rw [Re (by rintro ⟨k,h1,h2⟩;exact be k h1 h2)] at h;unfold ob at h;simp only [RH.keepO] at h;rw [qm] at h;obtain ⟨o,h1,h2⟩:=Option.map_eq_some_iff.1 h;have hm:=aN h1;have hf:=Sb.1 hm.1;have hk:k∈l:=by have:=of_decide_eq_true hf.2;rw [hm.2] at this;exact this
 refine ⟨?_,hk⟩;unfold ob
 have:aG r.objs k=some o:=by
  unfold aG at h1 ⊢;rw [List.find?_filter] at h1;rw [←h1]
  congr 1
  funext a
  by_cases ha:a.oop=k
  ·simp [ha,hk]
  ·simp [ha]
 rw [this,←h2];rfl
theorem eD {r:RH} (hw:WFH r) (c n f:Int):(∀ k x,ob r k=some x->ob (r.alloc c n f).2 k=some x) ∧
  ((r.alloc c n f).1.2≠0->∀ k x,ob (r.alloc c n f).2 k=some x->ob r k=some x) ∧
  ((r.alloc c n f).1.2=0->ob r (r.alloc c n f).1.1=none∧1<=(r.alloc c n f).1.1∧(r.alloc c n f).1.1<=65536∧ob (r.alloc c n f).2 (r.alloc c n f).1.1=some (c,f,List.replicate n.toNat (if f=1 then 0 else 4))∧∀ k x,k≠(r.alloc c n f).1.1->ob (r.alloc c n f).2 k=some x->ob r k=some x):=by
 refine ⟨fun k x h=>(iE hw c n f).ob trivial h,fun he=>?_,fun he=>?_⟩
 ·unfold RH.alloc at he ⊢;split
  ·exact fun _ _ h=>h
  split
  ·exact fun _ _ h=>h
  split
  ·exact fun _ _ h=>h
  split
  ·exact fun _ _ h=>h
  ·rename_i g1 g2 g3 g4;rw [Re g1,Re g2,Re g3,Re g4] at he;exact absurd rfl he
 ·obtain ⟨a1,a2,a3,_⟩:=jU hw he;refine ⟨iO.2 a1,a2,a3,?_⟩;unfold RH.alloc at he a1 ⊢;split at he
  ·cases he
  rename_i g1;split at he
  ·cases he
  rename_i g2;split at he
  ·cases he
  rename_i g3;split at he
  ·cases he
  rename_i g4;rw [Re g1,Re g2,Re g3,Re g4] at a1 ⊢;simp only at a1 ⊢;refine ⟨ft.2 ⟨cY r c n f,?_,rfl,rfl,rfl⟩,fun k x hk h=>?_⟩
  ·rw [dZ,a1];simp [cY]
  ·unfold ob at h ⊢;simp only at h;rw [dZ] at h;cases ho:aG r.objs k with
   | some o=>rw [ho] at h;exact h
   | none =>
    rw [ho] at h
    have:¬ (cY r c n f).oop=k:=fun e=>hk e.symm;simp only [Re this] at h;cases h
structure AllocR (s:SP) (c n f:Int) (res:Int × Int) (s':SP):Prop where
 stk:s'.stack=s.stack
 keep:∀ k,Reaches s.h s.roots k->∀ x,ob s.h k=some x->ob s'.h k=some x
 bad:res.2≠0->∀ k x,ob s'.h k=some x->ob s.h k=some x
 good:res.2=0->∃ o,res.1=4*o∧1<=o∧o<=65536∧ob s'.h o=some (c,f,List.replicate n.toNat (if f=1 then 0 else 4))∧¬ Reaches s.h s.roots o∧∀ k x,k≠o->ob s'.h k=some x->ob s.h k=some x
 surv:(∀ k x,ob s.h k=some x->ob s'.h k=some x)∨(∀ k x,ob s'.h k=some x->(res.2=0∧res.1=4*k)∨Reaches s.h s.roots k)
theorem rX {s:SP}{t:TB}{v:KV} (hv:KAllW s t v){c:Int} (hc:bT c=3) (n f:Int):AllocR s c n f (s.alloc c n f).1 (s.alloc c n f).2∧KAllW (s.alloc c n f).2 t v:=by
 have hw:=hv.ks.wf;have hr:=kA s c n f;have hk:=jA hw c n f;refine ⟨?_,⟨⟨nk hw c n f,nO hv.ks.gc hc n f,hr.2.2.trans hv.ks.op,hr.1.trans hv.ks.king,hv.ks.view.keep hk hv.ks.reach,hv.ks.sep,hv.ks.shape⟩,hv.names,by rw [hr.2.1];exact hv.top⟩⟩;refine { stk:=hr.2.1,keep:=fun k h x hx=>hk.ob h hx,bad:=?_,good:=?_,surv:=?_ }
 all_goals unfold SP.alloc
 all_goals split
 ·exact (eD hw.h c n f).2.1
 ·have be:∀ k∈s.reach,aG s.h.objs k≠none:=fun k hk=>((RH.mem_reach hw.h).1 hk).there;exact fun he k x h=>(iT be ((eD (eu hw.h _) c n f).2.1 he k x h)).1
 ·intro he;obtain ⟨a1,a2,a3,a4,a5⟩:=(eD hw.h c n f).2.2 he;exact ⟨_,rfl,a2,a3,a4,fun h=>h.there (iO.1 a1),a5⟩
 ·intro he;have be:∀ k∈s.reach,aG s.h.objs k≠none:=fun k hk=>((RH.mem_reach hw.h).1 hk).there;obtain ⟨a1,a2,a3,a4,a5⟩:=(eD (eu hw.h _) c n f).2.2 he;refine ⟨_,rfl,a2,a3,a4,fun h=>?_,fun k x hk h=>(iT be (a5 k x hk h)).1⟩;cases hx:ob s.h ((s.h.keep s.reach).2.alloc c n f).1.1 with
  | none=>exact h.there (iO.1 hx)
  | some x =>
   have:=(gL s.reach).ob ((RH.mem_reach hw.h).2 h) hx;rw [a1] at this;cases this
 ·exact .inl (eD hw.h c n f).1
 ·refine .inr fun k x h=>?_;have be:∀ k∈s.reach,aG s.h.objs k≠none:=fun k hk=>((RH.mem_reach hw.h).1 hk).there;by_cases he:((s.h.keep s.reach).2.alloc c n f).1.2=0
  ·obtain ⟨a1,a2,a3,a4,a5⟩:=(eD (eu hw.h _) c n f).2.2 he;by_cases hk:k=((s.h.keep s.reach).2.alloc c n f).1.1
   ·exact .inl ⟨he,by rw [hk]⟩
   ·exact .inr ((RH.mem_reach hw.h).1 (iT be (a5 k x hk h)).2)
  ·exact .inr ((RH.mem_reach hw.h).1 (iT be ((eD (eu hw.h _) c n f).2.1 he k x h)).2)
def yD (v:KV):List (Int × Int):=(1,20) :: (2,24) :: (3,28) :: (18,44) :: v.cls.map fun c=>(c.oop,48)
section
variable {s s':SP}{t:TB}{v:KV}{G:Int->Prop}{res:Int × Int}{c n f:Int}
end
theorem lm {r:RH} (k i w:Int):∀ j,j≠k->ob (r.put k i w).2 j=ob r j:=fun j hj=>by
 unfold ob;rw [nl r k i w j hj]
theorem zn {r:RH}{k c f i w:Int}{l:List Int} (hx:ob r k=some (c,f,l)) (hi:0<=i∧i<l.length) (hw:fF f w):(r.put k i w).1=0∧ob (r.put k i w).2 k=some (c,f,l.set i.toNat w):=by
 obtain ⟨o,h1,rfl,rfl,rfl⟩:=ft.1 hx;unfold RH.put;rw [h1];simp only;rw [Re (by omega),Re (fun e=>e hw)];refine ⟨rfl,ft.2 ⟨fA i w o,?_,rfl,rfl,rfl⟩⟩;show aG (fS r.objs k (fA i w)) k=_;rw [eC (f:=fA i w) fun _=>rfl,h1]
 have:=(aN h1).2;simp [this]
theorem KS.putN {s:SP}{v:KV} (h:KS s v){k:Int} (hk:∀ p∈v.roles,p.1≠k) (i w:Int):KS { s with h:=(s.h.put k i w).2 } v :=
 ⟨{ h.wf with h:=gI h.wf.h k i w },lR h.gc k i w,h.op,h.king,h.view.same1 (nl _ _ _ _) hk,h.sep,h.shape⟩
section
variable {s s':SP}{t:TB}{v:KV}{G:Int->Prop}
end
theorem ky {r:RH}{c n f:Int} (h:(r.alloc c n f).1.2≠0):(r.alloc c n f).1.1=0:=by
 unfold RH.alloc at h ⊢;split
 ·rfl
 rename_i g1;split
 ·rfl
 rename_i g2;split
 ·rfl
 rename_i g3;split
 ·rfl
 rename_i g4;rw [Re g1,Re g2,Re g3,Re g4] at h;exact absurd rfl h
theorem kP {s:SP}{c n f:Int} (h:(s.alloc c n f).1.2≠0):(s.alloc c n f).1.1=0:=by
 unfold SP.alloc at h ⊢;split
 ·rename_i g;rw [Rj g] at h
  have:=ky (r:=s.h) (c:=c) (n:=n) (f:=f) h;simp only [this];rfl
 ·rename_i g;rw [Re g] at h
  have:=ky (c:=c) (n:=n) (f:=f) h;simp only [this];rfl
def ij (r:RH) (o:Int):List Int:=match ob r o with
 | some (_,_,l)=>l
 | none=>[]
theorem jf {r:RH}{o c f:Int}{l:List Int} (h:ob r o=some (c,f,l)):ij r o=l:=by unfold ij;rw [h]
theorem lJ {r:RH}{o c:Int}{l:List Int} (h:ob r o=some (c,0,l)):eV r o l:=by
 obtain ⟨x,h1,_,h2,h3⟩:=ft.1 h;exact ⟨x,h1,h2,h3⟩
structure TX (s:SP) (t:TB) (v:KV) (G:Int->Prop):Prop where
 hv:KAllW s t v
 obj:∀ o,G o->4<=o∧o<=65536∧∃ l,ob s.h o=some (44,0,l)∧∀ w∈l,ph G w
 gl:∀ p∈v.glob,ph G p.2
theorem TX.sok {s:SP}{t:TB}{v:KV}{G:Int->Prop} (h:TX s t v G):SOk G (ij s.h):=by
 refine ⟨fun o ho=>?_,fun o ho=>?_⟩
 ·obtain ⟨_,_,l,h1,_⟩:=h.obj o ho;rw [jf h1];exact ((lJ h1).bnd h.hv.ks.wf.h).2.2.1
 ·obtain ⟨_,_,l,h1,h2⟩:=h.obj o ho;rw [jf h1];exact h2
structure OKo (r:RH) (oa o:Int):Prop where
 ge:4<=o
 le:o<=65536
 ne:o≠oa
 nr:∀ p∈bV.roles,p.1≠o
 arr:ob r o=some (44,0,[4])
structure JL (s:SP) (oa:Int) (m:Nat) (ws:List Int) (z:Int):Prop where
 all:KAllS s cF bV [4*oa]
 two:ob s.h 2≠none
 thr:ob s.h 3≠none
 ge:4<=oa
 le:oa<=65536
 nr:∀ p∈bV.roles,p.1≠oa
 arr:ob s.h oa=some (44,0,ws++List.replicate (m-ws.length) 4++[z])
 len:ws.length<=m
 sub:∀ w∈ws,w=4∨∃ o,w=4*o∧OKo s.h oa o
 last:z=4∨z∈ws
theorem tE {w:Int} (h:w=8∨w=12):w∈bV.rootW:=by
 rcases h with rfl | rfl
 ·show (8:Int)∈[4*(20:Int),4*18,72,72,4,8,12,4];simp
 ·show (12:Int)∈[4*(20:Int),4*18,72,72,4,8,12,4];simp
theorem jP {s:SP} (hk:KS s bV){o:Int} (ho:o=2∨o=3) (h:ob s.h o≠none):Reaches s.h s.roots o:=by
 have h0:aG s.h.objs o≠none:=fun e=>h (iO.2 e);have hr:=hk.reach (19,bV.rootW) (by simp [KV.roles]);exact hr.arr hk.view.root (by omega) (by omega) h0 (tE (by omega))
section
variable {s:SP}{oa z:Int}{m:Nat}{ws:List Int}
theorem JL.reach_a (h:JL s oa m ws z):Reaches s.h s.roots oa:=by
 have:=h.ge;refine Reaches.of_root (by omega) h.le (fun e=>?_) ?_
 ·have:=h.arr;rw [iO.2 e] at this;cases this
 ·unfold SP.roots;rw [h.all.stack];simp
theorem JL.reach_o (h:JL s oa m ws z){o:Int} (hm:4*o∈ws) (ho:OKo s.h oa o):Reaches s.h s.roots o:=by
 have:=ho.ge;refine h.reach_a.arr (lJ h.arr) (by omega) ho.le (fun e=>?_) (by simp [hm])
 have:=ho.arr;rw [iO.2 e] at this;cases this
theorem JL.keep (h:JL s oa m ws z){s':SP} (ha:KAllS s' cF bV [4*oa]) (hk:∀ k,Reaches s.h s.roots k->∀ x,ob s.h k=some x->ob s'.h k=some x):JL s' oa m ws z:=by
 have tf:∀ o,o=2∨o=3->ob s.h o≠none->ob s'.h o≠none:=fun o ho hn=>by
  have hr:=jP h.all.ks ho hn;cases hx:ob s.h o with
  | none=>exact absurd hx hn
  | some x=>rw [hk o hr x hx];simp
 refine ⟨ha,tf 2 (.inl rfl) h.two,tf 3 (.inr rfl) h.thr,h.ge,h.le,h.nr,hk _ h.reach_a _ h.arr,h.len,fun w hw=>?_,h.last⟩;rcases h.sub w hw with e | ⟨o,rfl,ho⟩
 ·exact .inl e
 ·exact .inr ⟨o,rfl,ho.ge,ho.le,ho.ne,ho.nr,hk _ (h.reach_o hw ho) _ ho.arr⟩
theorem ny {s:SP} (hk:KS s bV) (h2:ob s.h 2≠none) (h3:ob s.h 3≠none){o:Int} (h1:1<=o) (hn:¬ Reaches s.h s.roots o):4<=o∧∀ p∈bV.roles,p.1≠o:=by
 have g1:∀ p∈bV.roles,p.1≠o:=fun p hp e=>hn (e ▸ hk.reach p hp);refine ⟨?_,g1⟩;have e1:o≠1:=fun e=>g1 (1,[]) (by simp [KV.roles]) e.symm;have e2:o≠2:=fun e=>hn (e ▸ jP hk (.inl rfl) h2);have e3:o≠3:=fun e=>hn (e ▸ jP hk (.inr rfl) h3);omega
theorem JL.alloc (h:JL s oa m ws z):JL (s.alloc 44 1 0).2 oa m ws z∧((s.alloc 44 1 0).1.2≠0->(s.alloc 44 1 0).1.1=0)∧((s.alloc 44 1 0).1.2=0->∃ o,(s.alloc 44 1 0).1.1=4*o∧OKo (s.alloc 44 1 0).2.h oa o):=by
 obtain ⟨A,hw⟩:=rX h.all.w (c:=44) (by decide) 1 0;have ha:KAllS (s.alloc 44 1 0).2 cF bV [4*oa]:=⟨hw.ks,hw.names,A.stk.trans h.all.stack,h.all.top⟩;refine ⟨h.keep ha A.keep,kP,fun he=>?_⟩;obtain ⟨o,e1,o1,o2,ob1,nr,_⟩:=A.good he;obtain ⟨g1,g2⟩:=ny h.all.ks h.two h.thr o1 nr;exact ⟨o,e1,g1,o2,fun e=>nr (e ▸ h.reach_a),g2,ob1⟩
theorem pY {r:RH}{k i c:Int}{l:List Int} (h:ob r k=some (c,0,l)):(r.put k i 0).2=r:=by
 obtain ⟨x,h1,_,h2,_⟩:=ft.1 h;unfold RH.put;rw [h1];simp only;split
 ·rfl
 ·rw [Rj (by rw [h2];decide)]
theorem JL.skip (h:JL s oa m ws z) (an:ws.length<m):JL s oa m (ws++[4]) z:=by
 refine ⟨h.all,h.two,h.thr,h.ge,h.le,h.nr,?_,by simp;omega,fun w hw=>?_,h.last.imp id fun hz=>by simp [hz]⟩
 ·rw [h.arr]
  have:m-ws.length=(m-(ws++[(4:Int)]).length)+1:=by simp;omega
  rw [this,Tg];simp
 ·rcases Rl.1 hw with hw | hw
  ·exact h.sub w hw
  ·exact .inl (by simpa using hw)
theorem KAllS.putN {s:SP}{t:TB}{v:KV}{st:List Int} (h:KAllS s t v st){k:Int} (hk:∀ p∈v.roles,p.1≠k) (i w:Int):KAllS { s with h:=(s.h.put k i w).2 } t v st :=
 ⟨h.ks.putN hk i w,h.names,h.stack,h.top⟩
theorem JL.put (h:JL s oa m ws z){i:Nat}{o:Int} (ho:OKo s.h oa o) (hi:i<=m){ws':List Int}{z':Int} (hl:(ws++List.replicate (m-ws.length) 4++[z]).set i (4*o)=ws'++List.replicate (m-ws'.length) 4++[z']) (b8:ws'.length<=m)
  (hs:∀ w∈ws',w∈ws∨w=4*o) (hz:z'=4∨z'∈ws') :
  JL { s with h:=(s.h.put oa i (4*o)).2 } oa m ws' z'∧OKo (s.h.put oa i (4*o)).2 oa o:=by
 have ns:=lm (r:=s.h) oa i (4*o);have g2:=h.ge;have Hm:(ws++List.replicate (m-ws.length) (4:Int)++[z]).length=m+1:=by have:=h.len;simp;omega
 obtain ⟨p1,p2⟩:=zn (i:=(i:Int)) (w:=4*o) h.arr ⟨by omega,by rw [Hm];omega⟩ (show fF 0 (4*o) from by unfold fF;rw [Re (by decide)];have:=ho.ge;exact dW (by omega) ho.le);have keep:∀ q,OKo s.h oa q->OKo (s.h.put oa i (4*o)).2 oa q:=fun q hq=>⟨hq.ge,hq.le,hq.ne,hq.nr,(ns q hq.ne).trans hq.arr⟩;refine ⟨⟨h.all.putN h.nr _ _,?_,?_,h.ge,h.le,h.nr,?_,b8,fun w hw=>?_,hz⟩,keep o ho⟩
 ·show ob _ 2≠none;rw [ns 2 (by omega)];exact h.two
 ·show ob _ 3≠none;rw [ns 3 (by omega)];exact h.thr
 ·show ob _ oa=_;rw [p2,Ro,hl]
 ·rcases hs w hw with hw | rfl
  ·rcases h.sub w hw with e | ⟨q,rfl,hq⟩
   ·exact .inl e
   ·exact .inr ⟨q,rfl,keep q hq⟩
  ·exact .inr ⟨o,rfl,keep o ho⟩
theorem JL.next (h:JL s oa m ws z) (an:ws.length<m){o:Int} (ho:OKo s.h oa o):JL { s with h:=(s.h.put oa (ws.length:Nat) (4*o)).2 } oa m (ws++[4*o]) z∧OKo (s.h.put oa (ws.length:Nat) (4*o)).2 oa o:=by
 refine h.put ho (by omega) ?_ (by simp;omega) (fun w hw=>by simpa using hw) (h.last.imp id fun hz=>by simp [hz])
 have:m-ws.length=(m-(ws++[4*o]).length)+1:=by simp;omega
 rw [this,Tg,R9,Tc _ _ (Rw _),Nat.sub_self];simp
theorem JL.again (h:JL s oa m ws z){o:Int} (ho:OKo s.h oa o) (hm:4*o∈ws):JL { s with h:=(s.h.put oa (m:Nat) (4*o)).2 } oa m ws (4*o):=by
 have hl:=h.len;refine (h.put ho (Rw _) ?_ h.len (fun w hw=>.inl hw) (.inr hm)).1;rw [Tc _ _ (by simp;omega)]
 have:m-(ws++List.replicate (m-ws.length) (4:Int)).length=0:=by simp;omega
 rw [this];rfl
end
theorem JL.first {s:SP} (ha:KAllS s cF bV []) (h2:ob s.h 2≠none) (h3:ob s.h 3≠none) (m:Nat) :
  KAllS (s.alloc 44 ((m:Int)+1) 0).2 cF bV []∧((s.alloc 44 ((m:Int)+1) 0).1.2≠0->(s.alloc 44 ((m:Int)+1) 0).1.1=0) ∧
  ((s.alloc 44 ((m:Int)+1) 0).1.2=0->∃ oa,(s.alloc 44 ((m:Int)+1) 0).1.1=4*oa∧((s.alloc 44 ((m:Int)+1) 0).2.keepW [4*oa]).1=0∧JL ((s.alloc 44 ((m:Int)+1) 0).2.keepW [4*oa]).2 oa m [] 4):=by
 obtain ⟨A,hw⟩:=rX ha.w (c:=44) (by decide) ((m:Int)+1) 0;refine ⟨⟨hw.ks,hw.names,A.stk.trans ha.stack,ha.top⟩,kP,fun he=>?_⟩;obtain ⟨o,e1,o1,o2,ob1,nr,_⟩:=A.good he;obtain ⟨g1,g2⟩:=ny ha.ks h2 h3 o1 nr;have lc:(s.alloc 44 ((m:Int)+1) 0).2.stack=[]:=A.stk.trans ha.stack;have tf:∀ q,q=2∨q=3->ob s.h q≠none->ob (s.alloc 44 ((m:Int)+1) 0).2.h q≠none:=fun q hq hn=>by
  have hr:=jP ha.ks hq hn;cases hx:ob s.h q with
  | none=>exact absurd hx hn
  | some x=>rw [A.keep q hr x hx];simp
 have t2:=tf 2 (.inl rfl) h2;have t3:=tf 3 (.inr rfl) h3;have GI:=hw.ks;have GJ:=hw.names;generalize (s.alloc 44 ((m:Int)+1) 0).2=s1 at *;have Jm:d8 (4*o):=dW o1 o2;have ek:s1.keepW [4*o]=(0,{ s1 with stack:=s1.stack++[4*o] }):=by
  unfold SP.keepW;rw [Re (by rintro ⟨w,CW,Gk⟩;simp only [Rg] at CW;exact Gk (CW ▸ Jm)),Re (by rw [lc];simp)]
 have e0:s1.stack++[4*o]=[4*o]:=by rw [lc];rfl
 refine ⟨o,e1,?_⟩;rw [ek];refine ⟨rfl,⟨⟨⟨⟨GI.wf.h,GI.wf.king0,GI.wf.king1,by rw [e0];simp,fun w CW=>?_⟩,GI.gc,GI.op,GI.king,GI.view,GI.sep,GI.shape⟩,GJ,e0,by simp⟩,t2,t3,g1,o2,g2,?_,by simp,by simp,.inl rfl⟩⟩
 ·rw [e0] at CW;simp only [Rg] at CW;rw [CW];exact Jm
 ·show ob s1.h o=_;rw [ob1]
  have:((m:Int)+1).toNat=m+1:=by omega
  rw [this,Tv];simp
theorem kG {s:SP}{t:TB}{v:KV}{st:List Int} (h:KAllS s t v st) (name:ByteArray) :
  bG s.h (bB s v t name).2.1.h (fun k=>Reaches s.h s.roots k∧k≠19) ∧
  ((bB s v t name).1≠0->KAllS (bB s v t name).2.1 (bB s v t name).2.2 v st) ∧
  ((bB s v t name).1=0->∃ n d,KAllS (bB s v t name).2.1 (bB s v t name).2.2 (v.addG n d) st):=by
 unfold bB;by_cases hd:nh v t name=0
 ·rw [Re (by simpa using hd)];have an:v.glob.length<256:=by
   unfold nh at hd;split at hd
   ·cases hd
   split at hd
   ·cases hd
   split at hd
   ·cases hd
   ·omega
  have D:=pK h.ks (by rw [h.stack];exact h.top) an h.names.wf name;have A:=qk h an (name:=name);refine ⟨sP D.keep _ _ _ _ _,fun he=>(A.1 he).1,fun he=>?_⟩;obtain ⟨n,d,a,_⟩:=A.2 he;exact ⟨n,d,a⟩
 ·rw [Rj hd];exact ⟨bG.refl _ _,fun _=>h,fun he=>absurd he hd⟩
theorem kl {s:SP}{v:KV}{n w:Int} (h:n<0∨(v.glob.length:Int)<=n∨¬ d8 w):(cU s v n w).2=s:=by
 unfold cU;split
 ·rfl
 ·rename_i h1;have hw:¬ d8 w:=by
   rcases h with h | h | h
   ·exact absurd (.inl h) h1
   ·exact absurd (.inr h) h1
   ·exact h
  rw [Rj hw]
theorem fP:bV.glob=[]:=rfl
theorem Ah {s:SP}{wa:Int} (name:ByteArray) (h:(wa=0∧KAllS s cF bV [])∨∃ oa m ws z,wa=4*oa∧JL s oa m ws z) :
  ∃ v1,KAllW (bB s bV cF name).2.1 (bB s bV cF name).2.2 v1∧∃ v' G,TX (cU (bB s bV cF name).2.1 v1 0 wa).2 (bB s bV cF name).2.2 v' G:=by
 rcases h with ⟨rfl,h⟩ | ⟨oa,m,ws,z,rfl,h⟩
 ·obtain ⟨_,b,g⟩:=kG h name;by_cases he:(bB s bV cF name).1=0
  ·obtain ⟨n,d,a⟩:=g he;refine ⟨_,a.w,bV.addG n d,fun _=>False,?_⟩;rw [kl (.inr (.inr (by decide)))];refine ⟨a.w,fun _ hf=>hf.elim,fun p hp=>.inl ?_⟩;simp only [KV.addG,fP,TS,Rg] at hp;rw [hp]
  ·have a:=b he;refine ⟨_,a.w,bV,fun _=>False,?_⟩;rw [kl (.inr (.inr (by decide)))];exact ⟨a.w,fun _ hf=>hf.elim,fun p hp=>by rw [fP] at hp;cases hp⟩
 ·obtain ⟨k,b,g⟩:=kG h.all name;have c9:∀ o,(∀ p∈bV.roles,p.1≠o)->o≠19:=fun o ho e=>ho (19,bV.rootW) (by simp [KV.roles]) e.symm;have Jn:ob (bB s bV cF name).2.1.h oa=some (44,0,ws++List.replicate (m-ws.length) 4++[z]):=k.ob ⟨h.reach_a,c9 _ h.nr⟩ h.arr;have C8:∀ w∈ws,w=4∨∃ o,w=4*o∧4<=o∧o<=65536∧ob (bB s bV cF name).2.1.h o=some (44,0,[4]):=fun w hw=>by
   rcases h.sub w hw with e | ⟨o,rfl,ho⟩
   ·exact .inl e
   ·exact .inr ⟨o,rfl,ho.ge,ho.le,k.ob ⟨h.reach_o hw ho,c9 _ ho.nr⟩ ho.arr⟩
  generalize bB s bV cF name=R at *;have key:∀ (r:RH),(ob r oa=some (44,0,ws++List.replicate (m-ws.length) 4++[z]))->(∀ w∈ws,w=4∨∃ o,w=4*o∧4<=o∧o<=65536∧ob r o=some (44,0,[4])) ->
    ∀ o,(o=oa∨4*o∈ws)∧o≠1->4<=o∧o<=65536∧∃ l,ob r o=some (44,0,l)∧∀ w∈l,ph (fun o=>(o=oa∨4*o∈ws)∧o≠1) w:=by
   intro r ha ho o hG;have D5:∀ w∈ws,ph (fun o=>(o=oa∨4*o∈ws)∧o≠1) w:=fun w hw=>by
    rcases ho w hw with e | ⟨q,rfl,q1,_⟩
    ·exact .inl e
    ·exact .inr ⟨q,rfl,.inr hw,by omega⟩
   rcases hG with ⟨rfl | hm,h1⟩
   ·refine ⟨h.ge,h.le,_,ha,fun w hw=>?_⟩;simp only [Rl,List.mem_replicate,Rg] at hw;rcases hw with (hw | hw) | rfl
    ·exact D5 w hw
    ·exact .inl hw.2
    ·rcases h.last with e | hz
     ·exact .inl e
     ·exact D5 _ hz
   ·rcases ho _ hm with e | ⟨q,e,q1,q2,hq⟩
    ·omega
    ·have:o=q:=by omega
     subst this;exact ⟨q1,q2,[4],hq,fun w hw=>.inl (by simpa using hw)⟩
  have h4:=h.ge;by_cases he:R.1=0
  ·obtain ⟨n,d,a⟩:=g he;have Hn:(bV.addG n d).glob=[(n,4)]:=by simp [KV.addG,fP]
   have b8:0<(bV.addG n d).glob.length:=by rw [Hn];simp
   have Jm:d8 (4*oa):=dW (by omega) h.le;obtain ⟨_,a2⟩:=a.setG (i:=0) b8 Jm;have es:(cU R.2.1 (bV.addG n d) 0 (4*oa)).2={ R.2.1 with h:=(R.2.1.h.put (bV.addG n d).globA (2*((0:Nat):Int)+1) (4*oa)).2 }:=by
    unfold cU;rw [Re (by rw [Hn];simp),Re (by simpa using Jm)];rfl
   refine ⟨_,a.w,(bV.addG n d).setG 0 (4*oa),fun o=>(o=oa∨4*o∈ws)∧o≠1,?_⟩;rw [es];have D8:=a.ks.view.globs;have Pm:bC (bV.addG n d).glob=[cC n,4]:=by rw [Hn];rfl
   rw [Pm] at D8;have nd:∀ o l,ob R.2.1.h o=some (44,0,l)->(∀ w∈l,w % 4=0)->o≠(bV.addG n d).globA:=fun o l ho hl e=>by
    have:=(lJ ho).uniq (e ▸ D8);rw [this] at hl
    have:=hl (cC n) (by simp);unfold cC at this;omega
   have Jo:∀ w∈ws,w % 4=0:=fun w hw=>by
    rcases C8 w hw with e | ⟨o,rfl,_⟩ <;> omega
   have ns:=lm (r:=R.2.1.h) (bV.addG n d).globA (2*((0:Nat):Int)+1) (4*oa);refine ⟨a2.w,key _ ?_ fun w hw=>?_,fun p hp=>?_⟩
   ·rw [ns oa (nd oa _ Jn fun w hw=>?_)]
    ·exact Jn
    ·simp only [Rl,List.mem_replicate,Rg] at hw;rcases hw with (hw | hw) | rfl
     ·exact Jo w hw
     ·rw [hw.2];decide
     ·rcases h.last with e | hz
      ·rw [e];decide
      ·exact Jo _ hz
   ·rcases C8 w hw with e | ⟨o,e1,o1,o2,o3⟩
    ·exact .inl e
    ·exact .inr ⟨o,e1,o1,o2,(ns o (nd o _ o3 (by simp))).trans o3⟩
   ·simp only [KV.setG,Hn] at hp;simp only [List.getD_cons_zero,R3,Rg] at hp;rw [hp];exact .inr ⟨oa,rfl,.inl rfl,by omega⟩
  ·have a:=b he;refine ⟨_,a.w,bV,fun _=>False,?_⟩;rw [kl (.inr (.inl (by rw [fP];simp)))];exact ⟨a.w,fun _ hf=>hf.elim,fun p hp=>by rw [fP] at hp;cases hp⟩
end
end Kw
namespace Go.Proofs.YtcfmnlapccgllaaGreatDoor
open Kw
theorem Cu:Go.Proofs.Builder.Extra PP Tryz.jn_ren where
 sizeBuilder:=by kernel_rfl
 liesBuilder:=by kernel_rfl
 t5:=Tryz.underlying5
 a5:=Tryz.isAgg5
 z5:=Tryz.sizeOf5
 v5:=Tryz.zeroValue5
 infoByte:=by kernel_rfl
 cellsByte:=by kernel_rfl
 sizeByte:=by kernel_rfl
 neB5:=by decide
abbrev Bl:Nat:=85
abbrev BS:Nat:=184
abbrev gP:Nat:=fb
def eU (H:ae):Prop:=∃ e:TypeId × (Nat × Nat),H[gP]?=some (.cells (Lib.pow10Tab.map fun z=>Value.int .u64 z).toArray e.1 e.2)
theorem eU.lt {H:ae} (h:eU H):gP<H.size:=by
 obtain ⟨e,h⟩:=h;exact (Rt.1 h).1
theorem eU.fr {H H':ae}{G:aB} (h:eU H) (hf:Fr G H H') (hg:gP∉G):eU H':=by
 have hl:=h.lt;obtain ⟨e,h⟩:=h;exact ⟨e,(hf.2 _ hl hg).trans h⟩
theorem eU.is {H : ae} (h : eU H) : ∀ w : World, w.heap = H -> Lib.TabIs PP w "internal/strconv.uint64pow10" .u64 Lib.pow10Tab := by
 intro w hw;obtain ⟨e,h⟩:=h
 have hg : PP.globalNamed "internal/strconv.uint64pow10" = some gP := by kernel_rfl
 unfold Lib.TabIs World.var?;rw [hg];simp only [Option.bind_some];rw [hw,h]
theorem cM {P:Prop} [Decidable P] {A B:Prop} (h1:P->A) (h2:¬ P->B):cond (decide P) A B:=by
 rw [af];exact ba h1 h2
theorem cj {P:Prop} [Decidable P] {B:Prop} (h1:¬ P) (h2:B):cond (decide P) False B:=cM (fun h=>absurd h h1) fun _=>h2
theorem vc {H:ae}{a:Option Addr}{l c:Nat}{ys:List Value}{F:aB} (ho:bZ 1 H a l c ys F){i:Nat} (hi:i<l) (v:Value):∃ b,a=some ⟨b,0,none⟩∧Wr H ⟨b,i,none⟩∧Fr F H (bc H ⟨b,i,none⟩ v)∧bZ 1 (bc H ⟨b,i,none⟩ v) a l c (ys.set i v) F:=by
 have HU:=ho.2.1;rcases ho.2.2 with ⟨_,h2,_⟩ | ⟨b,cs,rfl,rfl,hb,s5,lp⟩
 ·omega
 ·refine ⟨b,rfl,hb.wr (by omega),Fr.set (by simp),⟨by rw [Tu];exact ho.1,HU,.inr ⟨b,_,rfl,rfl,hb.set i v,by simpa using s5,?_⟩⟩⟩;rw [←lp];simp [List.take_set]
theorem vq (H:ae) (T:TypeId) (v0 v1 v2 x y z:Value):bc (bc (bc (H.push (.cells #[v0,v1,v2] T)) (⟨H.size,0,none⟩:Addr) x) ((⟨H.size,0,none⟩:Addr).add 1) y) ((⟨H.size,0,none⟩:Addr).add 2) z=H.push (.cells #[x,y,z] T):=by
 rw [ak,ak,av,av,av];rfl
theorem Cp {R:Prop} (H:ae) (T:TypeId) (v0 v1 v2 x y:Value) (h:R):Wr (H.push (.cells #[v0,v1,v2] T)) (⟨H.size,0,none⟩:Addr)∧Wr (bc (H.push (.cells #[v0,v1,v2] T)) (⟨H.size,0,none⟩:Addr) x) ((⟨H.size,0,none⟩:Addr).add 1) ∧
  Wr (bc (bc (H.push (.cells #[v0,v1,v2] T)) (⟨H.size,0,none⟩:Addr) x) ((⟨H.size,0,none⟩:Addr).add 1) y) ((⟨H.size,0,none⟩:Addr).add 2)∧R:=by
 rw [ak,ak,av,av];exact ⟨aF.2 (by simp),aF.2 (by simp),aF.2 (by simp),h⟩
theorem B8 {H:ae}{b:Nat}{v0 v1 v2 x y z:Value} (h:bW H b #[v0,v1,v2]):(Wr H (⟨b,0,none⟩:Addr)∧Wr (bc H (⟨b,0,none⟩:Addr) x) ((⟨b,0,none⟩:Addr).add 1)∧Wr (bc (bc H (⟨b,0,none⟩:Addr) x) ((⟨b,0,none⟩:Addr).add 1) y) ((⟨b,0,none⟩:Addr).add 2)) ∧
  bW (bc (bc (bc H (⟨b,0,none⟩:Addr) x) ((⟨b,0,none⟩:Addr).add 1) y) ((⟨b,0,none⟩:Addr).add 2) z) b #[x,y,z]∧Fr [b] H (bc (bc (bc H (⟨b,0,none⟩:Addr) x) ((⟨b,0,none⟩:Addr).add 1) y) ((⟨b,0,none⟩:Addr).add 2) z):=by
 rw [ak,ak];have h1:=h.set 0 x;have h2:=h1.set 1 y;have h3:=h2.set 2 z;exact ⟨⟨h.wr (by simp),h1.wr (by simp),h2.wr (by simp)⟩,h3,((Fr.set (by simp)).trans (Fr.set (by simp))).trans (Fr.set (by simp))⟩
section
variable {H:ae}{Q:QT}{a:Option Addr}{l c:Nat}
theorem kd {n:Int} (ht:eU H) (h0:-1073741824<=n) (h1:n<=1073741823) (h:∀ H',Fr [] H H'->Q (.string (vt n)) H'):ag PP Bl #[ac n] Q H :=
 rG Tryz.itoa ⟨_,Tryz.func85,rfl⟩ (by omega) (by omega) ht.is h
theorem zD {xs:List ByteArray}{G:aB} (ho:bZ 1 H a l c (bF xs) G) (ha:a≠none) (hl:l<=1000000) (hs:(eJ xs).size<=1000000000) (h:∀ H',Fr [] H H'->Q (.string (eJ xs)) H'):ag PP BS #[.slice a l c,.string tS] Q H:=by
 refine rl Tryz.jn Cu ⟨_,Tryz.func184,rfl⟩ ho ha (by omega) ?_ h
 have:(eJ xs).size=(Lib.join (xs.map (·.data.toList)) tS.data.toList).length:=by
  show (Lib.join (xs.map (·.data.toList)) tS.data.toList).toArray.size=_;simp
 omega
theorem Ab {bb:Nat}{xs:List Value}{G:aB}{y:ByteArray} (hb:kq 146 H bb (.slice a l c)) (hB:vk 5 H a l c xs G) (IM:bb∉G) (hl:l<4000000000) (hy:y.size<4000000000)
  (h:∀ H' a' c' G',kq 146 H' bb (.slice a' (l+y.size) c')->vk 5 H' a' (l+y.size) c' (xs++dD y) G'->bb∉G'->Up (bb :: G) H (bb :: G') H'->Q (.tuple #[ac (y.size:Int),.nilIface]) H') :
  ag PP 81 #[Cv bb,.string y] Q H:=by
 have i5:∃ i,PP.info? 5=some i∧i.size=1∧i.bytes=1∧i.zero=some (.int .u8 0):=⟨_,rfl,by kernel_rfl,by kernel_rfl,by kernel_rfl⟩;obtain ⟨i,hi,hk,E6,hz⟩:=i5;have an:=hb.lt;have Pn:=hB.1.lt;apply Av;dsimp only [eH,aO,ac,ax,ao,am,bE,bh,bi,bn];refine kS { Tryz.jn with } Cu.toX72 ⟨_,Tryz.func145,rfl⟩ hb fun H1 EH f1 hU=>⟨rfl,_,rfl,a,l,c,?_,?_⟩
 ·obtain ⟨p,EH,_⟩:=EH;show aj H1 ⟨bb,0+1,none⟩=_;simp [aj,EH]
 have tw:vk 5 H1 a l c xs G:=hB.keep fun x hx=>f1.2 x (Pn x hx) (fun e=>IM (by simp at e;subst e;exact hx));refine mR (by kernel_rfl) hi hk E6 hz rfl (by kernel_rfl) tw (by omega) (by omega) fun a' c' G' H2 An u2=>⟨_,_,_,rfl,_,rfl,?_,?_⟩
 ·have ui:bb∉G':=fun hm=>by
   rcases u2.2 bb hm with h1 | h1
   ·exact IM h1
   ·omega
  obtain ⟨p,hp,_⟩:=EH.keep (u2.1.2 bb (by omega) IM);exact (show bW H2 bb #[p,.slice a l c] from ⟨_,hp⟩).wr (o:=1) (by simp)
 ·have ui:bb∉G':=fun hm=>by
   rcases u2.2 bb hm with h1 | h1
   ·exact IM h1
   ·omega
  obtain ⟨p,hp,Po⟩:=EH.keep (u2.1.2 bb (by omega) IM);have c9:∀ q,q≠bb->(bc H2 ((⟨bb,0,none⟩:Addr).add 1) (.slice a' (l+y.size) c'))[q]?=H2[q]?:=fun q hq=>cV hq;refine h _ a' c' G' ⟨p,?_,Po⟩ (An.keep fun x hx=>c9 x fun e=>ui (e ▸ hx)) ui ⟨⟨?_,fun y hy hn=>?_⟩,fun y hy=>?_⟩
  ·rw [show ((⟨bb,0,none⟩:Addr).add 1)=⟨bb,1,none⟩ from rfl];simp [bc,R1,hp];rfl
  ·rw [d6];have:=u2.1.1;omega
  ·simp only [Rk,Ta] at hn;rw [c9 y hn.1,u2.1.2 y (by omega) hn.2,f1.2 y hy (by simpa using hn.1)]
  ·rcases Rk.1 hy with rfl | hy
   ·exact .inl (by simp)
   ·rcases u2.2 y hy with h1 | h1
    ·exact .inl (by simp [h1])
    ·exact .inr (by omega)
theorem tj {H0:ae}{bb:Nat}{y:ByteArray}{G:aB} (hb:kq 146 H bb (.slice a l c)) (hB:vk 5 H a l c (dD y) G) (D4:∀ x∈G,H0.size<=x) (IM:bb∉G) (f0:Fr [] H0 H)
  (h:∀ H',Fr [] H0 H'->Q (.string y) H'):ag PP 87 #[Cv bb] Q H:=by
 have an:=hb.lt;have hc:∀ {Hz:ae},kq 146 Hz bb (.slice a l c)->aj Hz ((⟨bb,0,none⟩:Addr).add 1)=some (.slice a l c):=fun {Hz} hz=>by
  obtain ⟨p,hz,_⟩:=hz;show aj Hz ⟨bb,0+1,none⟩=_;simp [aj,hz]
 have Eo:PP.underlying 204=some (.pointer 5):=by kernel_rfl
 have l9:PP.cellsOf 5=1:=by kernel_rfl
 apply AC;dsimp only [aO,ac,ax,ao,am,Bj,Bk,bh];have fin:∀ p H1,Fr [] H H1->(l≠0->p=a)->∃ p7:Option Addr,(Value.pointer p:Value)=.pointer p7∧((aj H1 ((⟨bb,0,none⟩:Addr).add 1)=some (.slice a l c)∧True)∧True)∧cc PP (Builtin.unsafeString_ #[204,3] 9 #[.pointer p7,ac (l:Int)]) (fun v8 H2=>∃ s9:ByteArray,v8=.string s9∧True∧Q (.string s9) H2) H1:=fun p H1 f1 hp=>by
  have EH:=hb.keep (f1.2 bb an (by simp));have tw:=hB.keep fun x hx=>f1.2 x (hB.1.lt x hx) (by simp);refine ⟨_,rfl,⟨⟨hc EH,trivial⟩,trivial⟩,rb Eo l9 tw hp fun H2 f2=>⟨_,rfl,trivial,h H2 ⟨?_,fun x hx _=>?_⟩⟩⟩
  ·have:=f0.1;have:=f1.1;have:=f2.1;omega
  ·have:=f0.1;have:=f1.1;rw [f2.2 x (by omega) (fun hm=>by have:=D4 x hm;omega),f1.2 x (by omega) (by simp),f0.2 x hx (by simp)]
 exact ⟨_,rfl,_,_,_,hc hb,_,rfl,_,_,_,hc hb,mM Eo hB.1 (fun _=>fin a H (Fr.refl _ _) fun _=>rfl) fun hl p H1 f1=>fin p H1 f1 fun hn=>absurd hl hn⟩
end
section
variable {Q:QT}{H:ae}
variable {a b c d A B D P:Option Addr}{i j k m n x y z I J K M N:Int}{l o r s u v L O R S U V:Nat}{t w T W:ByteArray}{e E g:Bool}{q:Option Nat}{p X Y Z:Value}{F G:Addr}
theorem AJ (h:iH 52 #[am a,ac i,ac j] H fun b c d e f=>ah (e != 0) (Q (ac e) f) (bK 53 #[ac k,ac d] f fun e f=>ah (!e) (Q (ac 10) f) (ah (d == 1) (ao a fun d=>aO f d fun d e _=>bm b e d fun d=>aM f (bl d b 1) fun d=>ah (aZ c 0) False (ah (aZ c 0) False (ao a fun a=>aO f a fun a e _=>bm b e a fun a=>bi f (bl a b 1) (ac (xT .i64 (wj .i64 d (jw .i64 255 c)) (jw .i64 k c))) fun a=>Q (ac 0) a))) (ao a fun a=>aO f a fun a c _=>bm b c a fun a=>bi f (bl a b 1) (ac k) fun a=>Q (ac 0) a)))):ag PP 14 #[.pointer a,ac i,ac j,ac k] Q H :=
 okF Tryz.func14 rfl h
theorem za (h:az (ac j) fun b=>az (ac k) fun c=>sx (fun d=>bK 91 #[am a] H fun e f=>ah e (Q (bk 0 2) f) (bK 92 #[ac i] f fun e f=>az (bk 0 1) fun g=>ah (!e) (Q g f) (az (bk 0 23) fun e=>ah (k != 0) (ah (k != 1) (Q g f) (ah (aZ j 0) (Q g f) (ah (bA j 8192) (Q (bk 0 22) f) (ao a fun g=>aM f (g.add 3) fun g=>ao a fun i=>aO f (i.add 1) fun _ i _=>ah (decide (g≥aI ((i:Int)-1))) (Q e f) (ao a fun g=>aO f g fun i j k=>ao a fun l=>aM f (l.add 4) fun m=>aH 93 #[b,c] f fun b c=>((aj c (l.add 4)=some (ac m)∧True)∧(aj c g=some (ax i j k)∧True)∧True)∧ah (bA b (aI ((j:Int)-m))) (Q e c) (ao a fun b=>aM c (b.add 6) fun b=>ah (b == 1) (ao a fun a=>bi c (a.add 6) (ac 0) fun a=>Q (bk 0 24) a) (ao a fun b=>aM c (b.add 6) fun b=>ah (bA b 0) (ao a fun b=>aM c (b.add 6) fun b=>ao a fun a=>bi c (a.add 6) (ac (aI (b-1))) fun a=>d [] a) (d [] c)))))))) (ah (aZ j 0) (Q g f) (ah (bA j 8192) (Q (bk 0 22) f) (ao a fun g=>aM f (g.add 3) fun g=>ao a fun i=>aO f (i.add 1) fun _ i _=>ah (decide (g≥aI ((i:Int)-1))) (Q e f) (ao a fun g=>aO f g fun i j k=>ao a fun l=>aM f (l.add 4) fun m=>aH 93 #[b,c] f fun b c=>((aj c (l.add 4)=some (ac m)∧True)∧(aj c g=some (ax i j k)∧True)∧True)∧ah (bA b (aI ((j:Int)-m))) (Q e c) (ao a fun b=>aM c (b.add 6) fun b=>ah (b == 1) (ao a fun a=>bi c (a.add 6) (ac 0) fun a=>Q (bk 0 24) a) (ao a fun b=>aM c (b.add 6) fun b=>ah (bA b 0) (ao a fun b=>aM c (b.add 6) fun b=>ao a fun a=>bi c (a.add 6) (ac (aI (b-1))) fun a=>d [] a) (d [] c)))))))))) fun d=>ao a fun e=>aM d (e.add 5) fun e=>ce [ac e] d fun d e f g j=>ao a fun l=>aO g (l.add 1) fun l m _=>bm j m l fun l=>aM g (bl l j 1) fun l=>az (ac (aI (j+1))) fun m=>ah (decide (l≥0)) (bt d e [m] g f g) (ao a fun d=>bi g (d.add 5) m fun d=>ao a fun e=>aO d e fun f g l=>ao a fun m=>aM d (m.add 4) fun n=>ao a fun o=>aM d (o.add 4) fun p=>aH 93 #[b,c] d fun d q=>((aj q (o.add 4)=some (ac p)∧True)∧(aj q (m.add 4)=some (ac n)∧True)∧(aj q e=some (ax f g l)∧True)∧True)∧az (aI (n+2)) fun e=>az (aI (p+d)) fun d=>(((0:Int)<=d∧d<=(l:Int))∧(0:Int)<=e∧e<=d)∧az (Int.toNat e) fun g=>az (Int.toNat d) fun d=>az (ii f l e 1) fun e=>mJ (Builtin.clear_ #[44] 0 #[ax e (d-g) (l-g)]) (fun _ f=>ah (k == 0) (ce [ac 0] f fun f k l m n=>ah (aZ n ((d-g:Nat):Int)) (bm n (d-g) e fun a=>bi m (bl a n 1) (ac 4) fun a=>bt f k [ac (aI (n+1))] a l m) (aH 94 #[am a,ac j,ac i,b,c] m fun _ a=>Q (bk j 0) a)) (aH 94 #[am a,ac j,ac i,b,c] f fun _ a=>Q (bk j 0) a)) q)):ag PP 26 #[.pointer a,ac i,ac j,ac k] Q H :=
 okL Tryz.func26 rfl (fun | 1014=>some [] | 15=>some [(10,3)] | 22=>some [(127,3)] | _=>none) h
theorem zX (h:aA 112 #[am a,ac i] H fun b c d=>az (ac 0) fun e=>ah (c != 0) (Q (bn #[e,e,e,ac c]) d) (aA 113 #[am a,ac b] d fun a c d=>az (bn #[e,e,e,ac 21]) fun f=>ah (aZ j 0) (Q f d) (ah (decide (j≥a)) (Q f d) (ah (c == 1) (Q (bn #[ac (aI (aI (b+2)+aI (Int.tdiv j 4))),ac (aI (Int.tmod j 4*8)),ac c,e]) d) (Q (bn #[ac (aI (aI (b+2)+j)),e,ac c,e]) d))))):ag PP 52 #[.pointer a,ac i,ac j] Q H :=
 okF Tryz.func52 rfl h
theorem AW (h:ah (j == 1) (ah (decide ((0:Int)<=i)) (Q (bx (decide (i<=255))) H) (Q (bx false) H)) (bK 92 #[ac i] H fun a b=>Q (bx a) b)):ag PP 53 #[ac i,ac j] Q H :=
 okF Tryz.func53 rfl h
theorem A0 (h:bK 163 #[ac i,ac 1048576] H fun a b=>az (ac 1) fun c=>az (bn #[am none,c]) fun d=>ah (!a) (Q d b) (bK 163 #[ac j,ac 65536] b fun a b=>ah (!a) (Q d b) (az (ac 0) fun a=>Bh (fun d=>az (Instr.makeSlice 109 (ac (aI (j+1))) (ac (aI (j+1)))) fun e=>az (Instr.makeSlice 44 (ac i) (ac i)) fun f=>bE f b (fun b f g i=>True∧bE e i (fun i j k l=>True∧bE e l fun e l m n=>True∧True∧d [am (some (bf n.size))] (bg n #[ax b f g,ax i j k,ax e l m,a,a,c,a,a,a] 111))∧bE e i fun i j k l=>True∧bE e l fun e l m n=>True∧True∧d [am (some (bf n.size))] (bg n #[ax b f g,ax e l m,ax i j k,a,a,c,a,a,a] 111))∧bE e b (fun b g i j=>True∧bE f j (fun f j k l=>True∧bE e l fun e l m n=>True∧True∧d [am (some (bf n.size))] (bg n #[ax f j k,ax b g i,ax e l m,a,a,c,a,a,a] 111))∧bE e j fun e j k l=>True∧bE f l fun f l m n=>True∧True∧d [am (some (bf n.size))] (bg n #[ax f l m,ax b g i,ax e j k,a,a,c,a,a,a] 111))∧bE e b fun b g i j=>True∧bE f j (fun f j k l=>True∧bE e l fun e l m n=>True∧True∧d [am (some (bf n.size))] (bg n #[ax f j k,ax e l m,ax b g i,a,a,c,a,a,a] 111))∧bE e j fun e j k l=>True∧bE f l fun f l m n=>True∧True∧d [am (some (bf n.size))] (bg n #[ax f l m,ax e j k,ax b g i,a,a,c,a,a,a] 111)) fun b c=>ao b fun d=>aO c (d.add 1) fun _ d _=>ce [a] c fun c e f g i=>ah (aZ i (d:Int)) (ao b fun a=>aO g (a.add 1) fun a b _=>bm i b a fun a=>bi g (bl a i 1) (ac (-1)) fun a=>bt c e [ac (aI (i+1))] a f g) (Q (bn #[am b,a]) g)))):ag PP 90 #[ac i,ac j] Q H :=
 okL Tryz.func90 rfl (fun | 1004=>some [(6,45)] | 5=>some [(31,3)] | _=>none) h
theorem zq (h:ah (ch a) (Q (bx true) H) (ao a fun a=>aO H (a.add 1) fun a _ _=>Q (bx (ch a)) H)):ag PP 91 #[.pointer a] Q H :=
 okF Tryz.func91 rfl h
theorem Al (h:aH 50 #[ac i] H fun a b=>Q (bx (a != 0)) b):ag PP 92 #[ac i] Q H :=
 okF Tryz.func92 rfl h
theorem yQ (h:ah (j == 1) (Q (ac (aI (2+aI (Int.tdiv (aI (aI (i+4)-1)) 4)))) H) (Q (ac (aI (2+i))) H)):ag PP 93 #[ac i,ac j] Q H :=
 okF Tryz.func93 rfl h
theorem yS (h:ao a fun b=>aM H (b.add 4) fun b=>ao a fun c=>aO H c fun c d _=>ao a fun e=>aO H e fun e f _=>bm b d c fun c=>bi H (bl c b 1) (ac j) fun c=>True∧bm (aI (b+1)) f e fun d=>bi c (bl d (aI (b+1)) 1) (ac (xT .i64 (jw .i64 k 1) m)) fun c=>True∧ao a fun d=>aO c (d.add 1) fun d e _=>ao a fun f=>aO c (f.add 2) fun f g _=>ao a fun j=>aM c (j.add 7) fun j=>bm i e d fun d=>bi c (bl d i 1) (ac b) fun c=>True∧bm i g f fun d=>bi c (bl d i 1) (ac j) fun c=>True∧ao a fun d=>aM c (d.add 4) fun e=>aH 93 #[ac k,ac m] c fun c f=>((aj f (d.add 4)=some (ac e)∧True)∧True)∧ao a fun d=>bi f (d.add 4) (ac (aI (e+c))) fun c=>True∧ao a fun d=>aM c (d.add 7) fun d=>ao a fun e=>bi c (e.add 7) (ac (aI (d+1))) fun c=>ao a fun d=>aM c (d.add 3) fun d=>ao a fun a=>bi c (a.add 3) (ac (aI (d+1))) fun a=>Q (ac b) a):ag PP 94 #[.pointer a,ac i,ac j,ac k,ac m] Q H :=
 okF Tryz.func94 rfl h
theorem zL (h:aA 112 #[am a,ac i] H fun b c d=>ah (c != 0) (Q (bk 0 c) d) (ao a fun a=>aO d a fun a c _=>bm b c a fun a=>aM d (bl a b 1) fun a=>Q (bk a 0) d)):ag PP 98 #[.pointer a,ac i] Q H :=
 okF Tryz.func98 rfl h
theorem xW (h:bK 91 #[am a] H fun b c=>ah b (Q (bk 0 2) c) (ah (aZ i 1) (Q (bk 0 20) c) (ao a fun b=>aO c (b.add 1) fun _ b _=>ah (decide (i≥(b:Int))) (Q (bk 0 20) c) (ao a fun b=>aO c (b.add 1) fun b d _=>bm i d b fun b=>aM c (bl b i 1) fun b=>ah (aZ b 0) (Q (bk 0 20) c) (ao a fun a=>aO c (a.add 1) fun a b _=>bm i b a fun a=>aM c (bl a i 1) fun a=>Q (bk a 0) c))))):ag PP 112 #[.pointer a,ac i] Q H :=
 okF Tryz.func112 rfl h
theorem sm (h:ao a fun a=>aO H a fun a b _=>bm (aI (i+1)) b a fun a=>aM H (bl a (aI (i+1)) 1) fun a=>Q (bk (kg .i64 a 1) (qs .i64 a 1)) H):ag PP 113 #[.pointer a,ac i] Q H :=
 okF Tryz.func113 rfl h
theorem vW (h:ah (ch a) (Q (ac 0) H) (ao a fun a=>aM H (a.add 6) fun a=>Q (ac a) H)):ag PP 119 #[.pointer a] Q H :=
 okF Tryz.func119 rfl h
theorem xf (h:bK 91 #[am a] H fun b c=>ah b (Q (ac 2) c) (bK 163 #[ac i,ac 1073741824] c fun b c=>ah (!b) (Q (ac 1) c) (ao a fun a=>bi c (a.add 6) (ac i) fun a=>Q (ac 0) a))):ag PP 125 #[.pointer a,ac i] Q H :=
 okF Tryz.func125 rfl h
theorem yc (h:ah (decide ((0:Int)<=i)) (Q (bx (decide (i<=j))) H) (Q (bx false) H)):ag PP 163 #[ac i,ac j] Q H :=
 okF Tryz.func163 rfl h
theorem yj (h:az (am a) fun c=>bK 91 #[c] H fun d e=>az (ac 0) fun f=>ah d (Q (bn #[f,f,ac 2]) e) (ao a fun d=>aO e (d.add 1) fun _ d _=>bE (Instr.makeSlice 109 (ac (d:Int)) (ac (d:Int))) e fun d e _ g=>ce [f] g fun g i j k m=>ah (aZ m (l:Int)) (bm m l b fun a=>aM k (bl a m 1) fun a=>aA 112 #[c,ac a] k fun _ b c=>ah (b != 0) (Q (bn #[f,f,ac b]) c) (bm a e d fun b=>bi c (bl b a 1) (ac 1) fun a=>bt g i [ac (aI (m+1))] a j k)) (ao a fun b=>aM k (b.add 3) fun b=>ao a fun g=>aM k (g.add 4) fun g=>cG 198 #[c] k fun i j _ k=>yw [f,f] k fun k l m n o p=>az (Int.toNat o) fun q=>az (0:Int) fun r=>ah (aZ p (j:Int)) (bm p j i fun b=>aM n (bl b p 1) fun b=>ao a fun f=>aO n (f.add 1) fun f g _=>bm b g f fun f=>aM n (bl f b 1) fun f=>bm b e d fun d=>aM n (bl d b 1) fun d=>az (ac (aI (p+1))) fun e=>ah (d == 0) (eH 199 #[c,ac b] n fun a=>bt k l [ac o,e] a m n) (aH 200 #[c,ac f] n fun c d=>ao a fun g=>aO d g fun g i j=>(r<=o∧o<=(i:Int))∧ao a fun p=>aO d p fun p _ s=>az (aI (f+c)) fun t=>((r<=t∧t<=(s:Int))∧r<=f∧f<=t)∧sy (Builtin.copy_ #[44,44] 3 #[ax (ii g j o 1) (i-q) (j-q),ax (ii p s f 1) (Int.toNat t-Int.toNat f) (s-Int.toNat f)]) d fun _ d=>True∧ao a fun a=>aO d (a.add 1) fun a f _=>bm b f a fun a=>bi d (bl a b 1) (ac o) fun a=>bt k l [ac (aI (o+c)),e] a m n)) (ao a fun c=>aO n c fun c _ d=>ao a fun e=>aM n (e.add 4) fun e=>((r<=e∧e<=(d:Int))∧r<=o∧o<=e)∧mJ (Builtin.clear_ #[44] 0 #[ax (ii c d o 1) (Int.toNat e-q) (d-q)]) (fun _ c=>True∧ao a fun d=>bi c (d.add 4) (ac o) fun c=>ao a fun d=>aM c (d.add 8) fun d=>ao a fun e=>bi c (e.add 8) (ac (aI (d+1))) fun c=>ao a fun a=>aM c (a.add 3) fun a=>Q (bn #[ac (aI (b-a)),ac (aI (g-o)),f]) c) n)))):ag PP 167 #[.pointer a,.slice b l o] Q H :=
 okL Tryz.func167 rfl (fun | 5=>some [(29,3)] | 14=>some [(14,3),(57,3)] | _=>none) h
theorem ww (h:aA 112 #[am a,ac i] H fun b c d=>ah (c != 0) (Q (bn #[ac 0,ac 0,ac c]) d) (aA 113 #[am a,ac b] d fun a b c=>Q (bn #[ac a,ac b,ac 0]) c)):ag PP 174 #[.pointer a,ac i] Q H :=
 okF Tryz.func174 rfl h
theorem xA (h:iH 52 #[am a,ac i,ac j] H fun b c d e f=>ah (e != 0) (Q (bk 0 e) f) (ah (d == 1) (ao a fun a=>aO f a fun a d _=>bm b d a fun a=>aM f (bl a b 1) fun a=>ah (aZ c 0) False (Q (bk (qs .i64 (kg .i64 a c) 255) 0) f)) (ao a fun a=>aO f a fun a c _=>bm b c a fun a=>aM f (bl a b 1) fun a=>Q (bk a 0) f))):ag PP 179 #[.pointer a,ac i,ac j] Q H :=
 okF Tryz.func179 rfl h
theorem yv (h:az (bg H #[am a] 45) fun a=>aQ a (bf H.size) fun b=>cG 216 #[am b] a fun a b c d=>eH 217 #[ax a b c,.func (.func 218) #[] #[am (some (bf H.size))]] d fun d=>Q (ax a b c) d):ag PP 198 #[.pointer a] Q H :=
 okF Tryz.func198 rfl h
theorem vB (h:ao a fun b=>aO H b fun b c _=>ao a fun d=>aO H (d.add 1) fun d e _=>bm i e d fun d=>aM H (bl d i 1) fun d=>bm d c b fun b=>bi H (bl b d 1) (ac 0) fun b=>True∧ao a fun c=>aO b (c.add 1) fun c d _=>bm i d c fun c=>bi b (bl c i 1) (ac (-1)) fun b=>ao a fun c=>aM b (c.add 5) fun c=>ao a fun d=>bi b (d.add 5) (ac (if i<c then i else c)) fun b=>ao a fun c=>aM b (c.add 3) fun c=>ao a fun a=>bi b (a.add 3) (ac (aI (c-1))) fun a=>Q (bn #[]) a):ag PP 199 #[.pointer a,ac i] Q H :=
 okF Tryz.func199 rfl h
theorem wK (h:aA 113 #[am a,ac i] H fun a b c=>aH 93 #[ac a,ac b] c fun a b=>Q (ac a) b):ag PP 200 #[.pointer a,ac i] Q H :=
 okF Tryz.func200 rfl h
theorem xR (h:bK 91 #[am a] H fun b c=>ah b (Q (ax none 0 0) c) (ao a fun b=>aM c (b.add 3) fun b=>bE (Instr.makeSlice 109 (ac 0) (ac b)) c fun b c d e=>ao a fun a=>aO e (a.add 1) fun a f _=>dq [ax b c d,ac 0] e fun b c d e g i j k=>az (ax g i j) fun g=>ah (aZ k (f:Int)) (bm k f a fun a=>aM e (bl a k 1) fun a=>az (ac (aI (k+1))) fun f=>ah (decide (a≥0)) (bE (Builtin.append_ #[109,109] 109 #[g,ax (some (bf e.size)) 1 1]) (bg e #[ac k] 3) fun a g i j=>bt b c [ax a g i,f] j d e) (bt b c [g,f] e d e)) (Q g e))):ag PP 216 #[.pointer a] Q H :=
 okL Tryz.func216 rfl (fun | 5=>some [(3,109),(18,3)] | _=>none) h
theorem vP (h:aQ H F fun a=>ao a fun a=>aO H (a.add 1) fun a b _=>bm i b a fun a=>aM H (bl a i 1) fun a=>aQ H F fun b=>ao b fun b=>aO H (b.add 1) fun b c _=>bm j c b fun b=>aM H (bl b j 1) fun b=>Q (ac (aI (a-b))) H):ag PP 218 #[ac i,ac j,.pointer (some F)] Q H :=
 okF Tryz.func218 rfl h
end
structure SimH (W T B:Int->Int) (low:Int) (r:RH):Prop where
 tab:∀ k,0<=k->k<=r.oops->T k=match aG r.objs k with
  | some o=>o.place
  | none=>-1
 bor:∀ o∈r.objs,B o.oop=o.born
 cls:∀ o∈r.objs,W o.place=o.cls
 shp:∀ o∈r.objs,W (o.place+1)=2*(o.slots.length:Int)+o.fmt
 wrd:∀ o∈r.objs,o.fmt=0->∀ i:Nat,i<o.slots.length->W (o.place+2+i)=o.slots.getD i 0
 byt:∀ o∈r.objs,o.fmt=1->∀ i:Nat,i<o.slots.length->W (o.place+2+(i / 4:Nat)) / ((2 ^ (i % 4*8):Nat):Int) % 256=o.slots.getD i 0
 byr:∀ o∈r.objs,o.fmt=1->∀ j,o.place+2<=j->j<o.place+o.len->0<=W j∧W j<4294967296
 low1:1<=low
 low2:low<=r.oops+1
 low3:∀ k,1<=k->k<low->aG r.objs k≠none
structure PHs (H:ae) (hb wb tb bb:Nat) (W T B:Int->Int) (low:Int) (r:RH):Prop where
 hd:bW H hb #[.slice (some ⟨wb,0,none⟩) r.words.toNat r.words.toNat,.slice (some ⟨tb,0,none⟩) (r.oops+1).toNat (r.oops+1).toNat,.slice (some ⟨bb,0,none⟩) (r.oops+1).toNat (r.oops+1).toNat,ac (r.objs.length:Int),ac (bv r.objs),ac low,ac r.mark,ac r.born,ac r.turn]
 mw:dN H wb r.words.toNat W
 mt:dN H tb (r.oops+1).toNat T
 mb:dN H bb (r.oops+1).toNat B
 d:[hb,wb,tb,bb,aP].Nodup
 kinds:dG H
 wf:WFH r
 sim:SimH W T B low r
section
variable {H:ae}{hb wb tb bb:Nat}{W T B:Int->Int}{low:Int}{r:RH}
theorem PHs.c0 (h:PHs H hb wb tb bb W T B low r):aj H ⟨hb,0,none⟩=some (.slice (some ⟨wb,0,none⟩) r.words.toNat r.words.toNat):=h.hd.cell 0
theorem PHs.c1 (h:PHs H hb wb tb bb W T B low r):aj H ⟨hb,1,none⟩=some (.slice (some ⟨tb,0,none⟩) (r.oops+1).toNat (r.oops+1).toNat):=h.hd.cell 1
theorem PHs.c2 (h:PHs H hb wb tb bb W T B low r):aj H ⟨hb,2,none⟩=some (.slice (some ⟨bb,0,none⟩) (r.oops+1).toNat (r.oops+1).toNat):=h.hd.cell 2
theorem PHs.c3 (h:PHs H hb wb tb bb W T B low r):aj H ⟨hb,3,none⟩=some (ac (r.objs.length:Int)):=h.hd.cell 3
theorem PHs.c4 (h:PHs H hb wb tb bb W T B low r):aj H ⟨hb,4,none⟩=some (ac (bv r.objs)):=h.hd.cell 4
theorem PHs.c5 (h:PHs H hb wb tb bb W T B low r):aj H ⟨hb,5,none⟩=some (ac low):=h.hd.cell 5
theorem PHs.c6 (h:PHs H hb wb tb bb W T B low r):aj H ⟨hb,6,none⟩=some (ac r.mark):=h.hd.cell 6
theorem PHs.c7 (h:PHs H hb wb tb bb W T B low r):aj H ⟨hb,7,none⟩=some (ac r.born):=h.hd.cell 7
theorem PHs.c8 (h:PHs H hb wb tb bb W T B low r):aj H ⟨hb,8,none⟩=some (ac r.turn):=h.hd.cell 8
theorem PHs.word (h:PHs H hb wb tb bb W T B low r){i:Int} (h0:0<=i) (h1:i<r.words):aj H ⟨wb,i.toNat,none⟩=some (ac (W i)):=h.mw.cell h0 (by omega)
theorem PHs.tabc (h:PHs H hb wb tb bb W T B low r){i:Int} (h0:0<=i) (h1:i<=r.oops):aj H ⟨tb,i.toNat,none⟩=some (ac (T i)):=h.mt.cell h0 (by omega)
end
def dd (H:ae) (hb:Nat) (F:aB) (r:RH):Prop:=∃ wb tb bb W T B low,F=[hb,wb,tb,bb]∧PHs H hb wb tb bb W T B low r
theorem PHs.rep {H:ae}{hb wb tb bb:Nat}{W T B:Int->Int}{low:Int}{r:RH} (h:PHs H hb wb tb bb W T B low r):dd H hb [hb,wb,tb,bb] r:=⟨_,_,_,_,_,_,_,rfl,h⟩
theorem dd.wf {H:ae}{hb:Nat}{F:aB}{r:RH} (h:dd H hb F r):WFH r:=by obtain ⟨_,_,_,_,_,_,_,_,h⟩:=h;exact h.wf
theorem dd.kinds {H:ae}{hb:Nat}{F:aB}{r:RH} (h:dd H hb F r):dG H:=by obtain ⟨_,_,_,_,_,_,_,_,h⟩:=h;exact h.kinds
theorem dd.lt {H:ae}{hb:Nat}{F:aB}{r:RH} (h:dd H hb F r):∀ b∈F,b<H.size:=by
 obtain ⟨wb,tb,bb,_,_,_,_,rfl,h⟩:=h;intro b hb;simp at hb;rcases hb with rfl | rfl | rfl | rfl
 ·exact h.hd.lt
 ·exact h.mw.lt
 ·exact h.mt.lt
 ·exact h.mb.lt
theorem dd.gk {H:ae}{hb:Nat}{F:aB}{r:RH} (h:dd H hb F r):aP∉F:=by
 obtain ⟨wb,tb,bb,_,_,_,_,rfl,h⟩:=h
 have:=h.d;simp only [SE,Rk,Sa,Sx,Ta] at this ⊢;obtain ⟨⟨_,_,_,h1⟩,⟨_,_,h2⟩,⟨_,h3⟩,h4,_⟩:=this;exact ⟨fun e=>h1 e.symm,fun e=>h2 e.symm,fun e=>h3 e.symm,fun e=>h4 e.symm⟩
theorem dd.fr {H H':ae}{hb:Nat}{F G:aB}{r:RH} (h:dd H hb F r) (hf:Fr G H H') (hd:bL F G) (hg:aP∉G):dd H' hb F r:=by
 obtain ⟨wb,tb,bb,W,T,B,low,rfl,h⟩:=h;exact ⟨wb,tb,bb,W,T,B,low,rfl,{ hd:=h.hd.fr hf (hd _ (by simp)),mw:=h.mw.fr hf (hd _ (by simp)),mt:=h.mt.fr hf (hd _ (by simp)),mb:=h.mb.fr hf (hd _ (by simp)),d:=h.d,kinds:=h.kinds.fr hf hg,wf:=h.wf,sim:=h.sim }⟩
section
variable {H:ae}{hb wb tb bb:Nat}{W T B:Int->Int}{low:Int}{r:RH}{Q:QT}
theorem lC {n m:Int} (h:Q (.bool (decide (0<=n∧n<=m))) H):ag PP 163 #[ac n,ac m] Q H:=by
 apply yc;dsimp only [bx,ah];simp only [af];split
 ·rename_i h1;have h1:0<=n:=h1;simpa [h1] using h
 ·rename_i h1;have h1:¬ 0<=n:=h1;simpa [h1] using h
theorem lO (hR:PHs H hb wb tb bb W T B low r) (h:Q (.bool false) H):ag PP 91 #[Cv hb] Q H:=by
 apply zq;dsimp only [bx,ah,aO,ao,ch];simp only [af,Rs,Rh,Rf,Ri,aK,aC,aU,aW,aL,aX,aR,aD,aT,aS,aJ,aV,Ru,Rx,Ry,ak,Rm,Rn,av,aq,aF,Rq,Rp,bq,bw,hR.c1];exact h
theorem pX {w:Int} (hk:dG H) (h:Q (.bool (decide (d8 w))) H):ag PP 92 #[ac w] Q H:=by
 apply Al;dsimp only [bx,aH,ac];refine iy hk ⟨_,rfl,?_⟩
 have:(bT w != 0)=decide (d8 w):=by rw [bw];rfl
 rw [this];exact h
theorem jH {n f:Int} (h0:0<=n) (h1:n<=1000000000) (h:Q (ac (lenOf n f)) H):ag PP 93 #[ac n,ac f] Q H:=by
 apply yQ;dsimp only [ah,ac,aI];simp only [af,Rs,Rh,Rf,Ri,aK,aC,aU,aW,aL,aX,aR,aD,aT,aS,aJ,aV,Ru,Rx,Ry,ak,Rm,Rn,av,aq,aF,Rq,Rp,bq,bw];unfold lenOf at h;split
 ·rename_i hf;rw [Rj hf] at h;rw [ai (n:=n+4) (by omega) (by omega),ai (n:=n+4-1) (by omega) (by omega),iL,Rj (by omega),ai (n:=(n+4-1) / 4) (by omega) (by omega),ai (by omega) (by omega)];rw [show n+4-1=n+3 by omega];exact h
 ·rename_i hf;rw [Re hf] at h;rw [ai (by omega) (by omega)];exact h
theorem PHs.in_ (hR:PHs H hb wb tb bb W T B low r){o:RO} (ho:o∈r.objs):0<=o.place∧o.place+o.len<=r.words∧2<=o.len∧r.words<=1048576∧(o.fmt=0∨o.fmt=1)∧(o.slots.length:Int)<=8192:=by
 have hg:=hR.wf.objs.good o ho;exact ⟨hg.pl,hg.fits,o.len_pos,hR.wf.w1,hg.fmt,by have:=hg.many;omega⟩
theorem r9 (hR:PHs H hb wb tb bb W T B low r){o:RO} (ho:o∈r.objs) (h:Q (.tuple #[ac (o.slots.length:Int),ac o.fmt]) H):ag PP 113 #[Cv hb,ac o.place] Q H:=by
 obtain ⟨h1,h2,h3,h4,h5,h6⟩:=hR.in_ ho;apply sm;dsimp only [bk,aM,aO,bl,bm,ao,aI];rw [ai (n:=o.place+1) (by omega) (by omega)];simp only [af,Rs,Rh,Rf,Ri,aK,aC,aU,aW,aL,aX,aR,aD,aT,aS,aJ,aV,Ru,Rx,Ry,ak,Rm,Rn,av,aq,aF,Rq,Rp,bq,bw,hR.c0,hR.word (i:=o.place+1) (by omega) (by omega)];refine ⟨by omega,by omega,?_⟩;rw [hR.sim.shp o ho,Ap,yH];have e1:(2*(o.slots.length:Int)+o.fmt) / 2=o.slots.length:=by omega
 have e2:(2*(o.slots.length:Int)+o.fmt) % 2=o.fmt:=by omega
 rw [e1,e2];exact h
def m7 (r:RH) (k:Int):Value:=match aG r.objs k with
 | none=>.tuple #[ac 0,ac 20]
 | some o=>.tuple #[ac o.place,ac 0]
theorem oW (hR:PHs H hb wb tb bb W T B low r){k:Int} (h:Q (m7 r k) H):ag PP 112 #[Cv hb,ac k] Q H:=by
 apply xW;dsimp only [bk,bK,ah,aZ,aM,aO,bl,bm,ao,am];refine lO hR ⟨_,rfl,?_⟩;have IN:=hR.wf.o0;have none_:(k<1∨r.oops<k)->aG r.objs k=none:=fun hk=>db.2 fun o ho=>by
  have hg:=hR.wf.objs.good o ho;have:=hg.oop1;have:=hg.oop2;omega
 unfold m7 at h;simp only [af,Rs,Rh,Rf,Ri,aK,aC,aU,aW,aL,aX,aR,aD,aT,aS,aJ,aV,Ru,Rx,Ry,ak,Rm,Rn,av,aq,aF,Rq,Rp,bq,bw,hR.c1];split
 ·rename_i hk;rw [none_ (.inl hk)] at h;exact h
 split
 ·rename_i hk;rw [none_ (.inr (by omega))] at h;exact h
 ·rename_i h1 h2;have ht:=hR.sim.tab k (by omega) (by omega);simp only [hR.tabc (i:=k) (by omega) (by omega),af,Rs,Rh,Rf,Ri,aK,aC,aU,aW,aL,aX,aR,aD,aT,aS,aJ,aV,Ru,Rx,Ry,ak,Rm,Rn,av,aq,aF,Rq,Rp,bq,bw];refine ⟨by omega,by omega,?_⟩;rw [ht];cases ho:aG r.objs k with
  | none=>rw [ho] at h;simpa using h
  | some o =>
   rw [ho] at h
   have:=(hR.in_ (aN ho).1).1;simp only;rw [Re (by omega)];exact ⟨by omega,by omega,h⟩
def rR (r:RH) (k i:Int):Value:=match aG r.objs k with
 | none=>.tuple #[ac 0,ac 0,ac 0,ac 20]
 | some o=>if i<0∨(o.slots.length:Int)<=i then .tuple #[ac 0,ac 0,ac 0,ac 21]
  else if o.fmt=1 then .tuple #[ac (o.place+2+i / 4),ac (i % 4*8),ac 1,ac 0]
  else .tuple #[ac (o.place+2+i),ac 0,ac o.fmt,ac 0]
theorem tW (hR:PHs H hb wb tb bb W T B low r){k i:Int} (h:Q (rR r k i) H):ag PP 52 #[Cv hb,ac k,ac i] Q H:=by
 apply zX;dsimp only [ah,aA,aZ,ac,am,az,bn,aI];refine oW hR ?_;unfold m7;unfold rR at h;cases ho:aG r.objs k with
 | none=>rw [ho] at h;exact ⟨_,_,rfl,by simpa using h⟩
 | some o =>
  rw [ho] at h;have hm:=(aN ho).1;obtain ⟨h1,h2,h3,h4,h5,h6⟩:=hR.in_ hm;refine ⟨_,_,rfl,?_⟩;simp only [af,Rs,Rh,Rf,Ri,aK,aC,aU,aW,aL,aX,aR,aD,aT,aS,aJ,aV,Ru,Rx,Ry,ak,Rm,Rn,av,aq,aF,Rq,Rp,bq,bw,ne_eq,not_true_eq_false,if_false];refine r9 hR hm ⟨_,_,rfl,?_⟩;simp only at h;split
  ·rw [Rj (by omega)] at h;exact h
  split
  ·rw [Rj (by omega)] at h;exact h
  ·rename_i g1 g2;rw [Re (by omega)] at h;split
   ·rename_i hf;rw [Rj hf] at h;rw [iL,Rj (by omega),k8 _ _ (by decide),Rj (by omega),ai (n:=o.place+2) (by omega) (by omega),ai (n:=i / 4) (by omega) (by omega),ai (n:=i % 4*8) (by omega) (by omega),ai (by omega) (by omega),hf];exact h
   ·rename_i hf;rw [Re hf] at h;rw [ai (n:=o.place+2) (by omega) (by omega),ai (by omega) (by omega)];exact h
theorem rU (hR:PHs H hb wb tb bb W T B low r){o:RO} (ho:o∈r.objs){i:Int} (h0:0<=i) (h1:i<o.slots.length):(o.fmt=1->o.place+2+i / 4<r.words∧o.place+2+i / 4<o.place+o.len)∧(o.fmt≠1->o.place+2+i<r.words∧o.place+2+i<o.place+o.len):=by
 obtain ⟨g1,g2,g3,g4,g5,g6⟩:=hR.in_ ho;have hl:o.len=lenOf o.slots.length o.fmt:=rfl;constructor
 ·intro hf;rw [lenOf,Rj hf] at hl;omega
 ·intro hf;rw [lenOf,Re hf] at hl;omega
theorem Cj (hR:PHs H hb wb tb bb W T B low r){k i:Int} (h:Q (two (r.at k i)) H):ag PP 179 #[Cv hb,ac k,ac i] Q H:=by
 apply xA;dsimp only [bk,ah,iH,aZ,aM,aO,bl,ac,bm,ao,am];refine tW hR ?_;unfold rR;unfold RH.at at h;cases ho:aG r.objs k with
 | none=>rw [ho] at h;exact ⟨_,_,_,_,rfl,by simpa using h⟩
 | some o =>
  rw [ho] at h;have hm:=(aN ho).1;obtain ⟨h1,h2,h3,h4,h5,h6⟩:=hR.in_ hm;simp only at h ⊢;split
  ·rename_i hi;rw [Rj hi] at h;exact ⟨_,_,_,_,rfl,by simpa using h⟩
  ·rename_i hi;rw [Re hi] at h;have hs:=rU hR hm (i:=i) (by omega) (by omega);split
   ·rename_i hf;have hs:=hs.1 hf;refine ⟨_,_,_,_,rfl,?_⟩;simp only [af,Rs,Rh,Rf,Ri,aK,aC,aU,aW,aL,aX,aR,aD,aT,aS,aJ,aV,Ru,Rx,Ry,ak,Rm,Rn,av,aq,aF,Rq,Rp,bq,bw,ne_eq,not_true_eq_false,if_false,if_true,hR.c0,hR.word (i:=o.place+2+i / 4) (by omega) (by omega)];refine ⟨by omega,by omega,?_⟩;rw [Re (by omega)];have e:i % 4*8=((i.toNat % 4*8:Nat):Int):=by omega
    have hb:=hR.sim.byt o hm hf i.toNat (by omega);have e2:((i.toNat / 4:Nat):Int)=i / 4:=by omega
    rw [e2] at hb;rw [e,oP _ _ (by omega),xo,hb];exact h
   ·rename_i hf;have hs:=hs.2 hf;refine ⟨_,_,_,_,rfl,?_⟩;have q9:o.fmt=0:=by omega
    have hw:=hR.sim.wrd o hm q9 i.toNat (by omega);rw [So (by omega)] at hw;simp only [af,Rs,Rh,Rf,Ri,aK,aC,aU,aW,aL,aX,aR,aD,aT,aS,aJ,aV,Ru,Rx,Ry,ak,Rm,Rn,av,aq,aF,Rq,Rp,bq,bw,ne_eq,not_true_eq_false,if_false,hf,hR.c0,hR.word (i:=o.place+2+i) (by omega) (by omega)];refine ⟨by omega,by omega,?_⟩;rw [hw];exact h
theorem wM (hR:PHs H hb wb tb bb W T B low r){k:Int} (h:Q (two (r.clsAt k)) H):ag PP 98 #[Cv hb,ac k] Q H:=by
 apply zL;dsimp only [bk,ah,aA,aM,aO,bl,ac,bm,ao,am];refine oW hR ?_;unfold m7;unfold RH.clsAt at h;cases ho:aG r.objs k with
 | none=>rw [ho] at h;exact ⟨_,_,rfl,by simpa using h⟩
 | some o =>
  rw [ho] at h;have hm:=(aN ho).1;obtain ⟨h1,h2,h3,h4,h5,h6⟩:=hR.in_ hm;refine ⟨_,_,rfl,?_⟩;simp only [af,Rs,Rh,Rf,Ri,aK,aC,aU,aW,aL,aX,aR,aD,aT,aS,aJ,aV,Ru,Rx,Ry,ak,Rm,Rn,av,aq,aF,Rq,Rp,bq,bw,ne_eq,not_true_eq_false,if_false,hR.c0,hR.word (i:=o.place) (by omega) (by omega),hR.sim.cls o hm];exact ⟨by omega,by omega,h⟩
theorem Ad (hR:PHs H hb wb tb bb W T B low r){k:Int} (h:Q (jQ (r.size k)) H):ag PP 174 #[Cv hb,ac k] Q H:=by
 apply ww;dsimp only [ah,aA,ac,am,bn];refine oW hR ?_;unfold m7;unfold RH.size at h;cases ho:aG r.objs k with
 | none=>rw [ho] at h;exact ⟨_,_,rfl,by simpa using h⟩
 | some o =>
  rw [ho] at h;have hm:=(aN ho).1;refine ⟨_,_,rfl,?_⟩;simp only [af,Rs,Rh,Rf,Ri,aK,aC,aU,aW,aL,aX,aR,aD,aT,aS,aJ,aV,Ru,Rx,Ry,ak,Rm,Rn,av,aq,aF,Rq,Rp,bq,bw,ne_eq,not_true_eq_false,if_false];exact r9 hR hm ⟨_,_,rfl,h⟩
theorem BF {w f:Int} (hk:dG H) (h:Q (.bool (decide (fF f w))) H):ag PP 53 #[ac w,ac f] Q H:=by
 apply AW;dsimp only [bx,bK,ah,ac];have fin:∀ b:Bool,b=decide (fF f w)->Q (.bool b) H:=fun b hb=>hb ▸ h;simp only [af,Rs,Rh,Rf,Ri,aK,aC,aU,aW,aL,aX,aR,aD,aT,aS,aJ,aV,Ru,Rx,Ry,ak,Rm,Rn,av,aq,aF,Rq,Rp,bq,bw];split
 ·rename_i hf;split
  ·exact fin _ (by simp [fF,hf];omega)
  ·exact fin _ (by simp [fF,hf];omega)
 ·rename_i hf;exact pX hk ⟨_,rfl,fin _ (by simp [fF,hf])⟩
theorem vd (hR:PHs H hb wb tb bb W T B low r) (h:Q (ac r.mark) H):ag PP 119 #[Cv hb] Q H:=by
 apply vW;dsimp only [ah,aM,ac,ao,ch];simp only [af,Rs,Rh,Rf,Ri,aK,aC,aU,aW,aL,aX,aR,aD,aT,aS,aJ,aV,Ru,Rx,Ry,ak,Rm,Rn,av,aq,aF,Rq,Rp,bq,bw,hR.c6];exact h
end
section
variable {H:ae}{hb wb tb bb:Nat}{W T B:Int->Int}{low:Int}{r:RH}{Q:QT}
theorem AA {F:aB} (hR:dd H hb F r){k:Int} (h:∀ H',dd H' hb F (r.marks k).2->Fr F H H'->Q (ac (r.marks k).1) H'):ag PP 125 #[Cv hb,ac k] Q H:=by
 have p4:=hR;obtain ⟨wb,tb,bb,W,T,B,low,rfl,hR⟩:=hR;apply xf;dsimp only [bK,ah,ac,ao,am,bi];refine lO hR ⟨_,rfl,?_⟩;simp only [Rh];refine lC ⟨_,rfl,?_⟩;have hd:=hR.d;simp only [SE,Rk,Sa,Sx,Ta] at hd;unfold RH.marks at h;by_cases hk:0<=k∧k<=1073741824
 ·simp only [hk,and_self,if_true] at h;simp only [af,Rs,Rh,Rf,Ri,aK,aC,aU,aW,aL,aX,aR,aD,aT,aS,aJ,aV,Ru,Rx,Ry,ak,Rm,Rn,av,aq,aF,Rq,Rp,bq,bw,hk];refine ⟨hR.hd.wr (by simp),h _ ⟨wb,tb,bb,W,T,B,low,rfl,?_⟩ (Fr.set (by simp))⟩;exact { hd:=hR.hd.set 6 (ac k),mw:=hR.mw.set_ne (by simp;omega) _,mt:=hR.mt.set_ne (by simp;omega) _,mb:=hR.mb.set_ne (by simp;omega) _,d:=hR.d,kinds:=hR.kinds.fr (Fr.set (F:=[hb]) (by simp)) (by simp;omega),wf:={ hR.wf with m0:=hk.1,m1:=hk.2 },sim:={ hR.sim with } }
 ·simp only [hk,if_false] at h;simp only [af,Rs,Rh,Rf,Ri,aK,aC,aU,aW,aL,aX,aR,aD,aT,aS,aJ,aV,Ru,Rx,Ry,ak,Rm,Rn,av,aq,aF,Rq,Rp,bq,bw,hk];exact h H p4 (Fr.refl _ _)
theorem A6 (hw:WFH r) (hs:SimH W T B low r){o:RO}{k i w:Int} (ho:aG r.objs k=some o) (h0:0<=i) (h1:i<o.slots.length) (hf:o.fmt=0) :
  SimH (upd W (o.place+2+i) w) T B low { r with objs:=fS r.objs k (fA i w) }:=by
 have Fx:=aN ho;have b8:o.len=2+(o.slots.length:Int):=by unfold RO.len lenOf;rw [Re (by omega)]
 have key:∀ o'∈fS r.objs k (fA i w),∃ a∈r.objs,(a.oop=k∧a=o∧o'=fA i w o)∨(a.oop≠k∧o'=a∧(a.place+a.len<=o.place∨o.place+o.len<=a.place)):=by
  intro o' C2;simp only [fS,RN] at C2;obtain ⟨a,ha,rfl⟩:=C2;refine ⟨a,ha,?_⟩;split
  ·rename_i hk
   have:a=o:=by have:=cA hw.objs ha;rw [hk,ho] at this;exact (Option.some.inj this).symm
   exact .inl ⟨hk,this,by rw [this]⟩
  ·rename_i hk;exact .inr ⟨hk,rfl,apart hw.objs ha Fx.1 (by rw [Fx.2];exact hk)⟩
 refine { tab:=fun j g0 g1=>?_,bor:=fun o' C2=>?_,cls:=fun o' C2=>?_,shp:=fun o' C2=>?_,wrd:=fun o' C2 pe j hj=>?_,byt:=fun o' C2 pe j hj=>?_,byr:=fun o' C2 pe j Fn C7=>?_,low1:=hs.low1,low2:=hs.low2,low3:=fun j g0 g1=>?_ }
 ·rw [hs.tab j g0 g1];have e:=eC (l:=r.objs) (k:=k) (j:=j) (f:=fA i w) fun _=>rfl;simp only [e];cases aG r.objs j with
  | none=>rfl
  | some a=>simp only [SM];split <;> rfl
 ·obtain ⟨a,ha,⟨hk,rfl,rfl⟩ | ⟨hk,rfl,hd⟩⟩:=key o' C2
  ·exact hs.bor a ha
  ·exact hs.bor _ ha
 ·obtain ⟨a,ha,⟨hk,rfl,rfl⟩ | ⟨hk,rfl,hd⟩⟩:=key o' C2
  ·show upd W _ w a.place=a.cls;rw [upd,Re (by omega)];exact hs.cls _ ha
  ·have:=o'.len_pos;rw [upd,Re (by omega)];exact hs.cls _ ha
 ·obtain ⟨a,ha,⟨hk,rfl,rfl⟩ | ⟨hk,rfl,hd⟩⟩:=key o' C2
  ·show upd W _ w (a.place+1)=2*(((a.slots.set i.toNat w).length:Nat):Int)+a.fmt;rw [upd,Re (by omega),Tu];exact hs.shp _ ha
  ·have:=o'.len_pos;rw [upd,Re (by omega)];exact hs.shp _ ha
 ·obtain ⟨a,ha,⟨hk,rfl,rfl⟩ | ⟨hk,rfl,hd⟩⟩:=key o' C2
  ·have Jc:j<a.slots.length:=by simpa [fA] using hj
   show upd W _ w (a.place+2+j)=(a.slots.set i.toNat w).getD j 0;unfold upd;split
   ·rename_i he
    have:i.toNat=j:=by omega
    simp [this,Jc]
   ·rename_i he;have c9:i.toNat≠j:=by omega
    rw [hs.wrd _ ha hf j Jc];simp [List.getElem?_set,c9]
  ·have hl:o'.len=2+(o'.slots.length:Int):=by unfold RO.len lenOf;rw [Re (by omega)]
   rw [upd,Re (by omega)];exact hs.wrd _ ha pe j hj
 ·obtain ⟨a,ha,⟨hk,rfl,rfl⟩ | ⟨hk,rfl,hd⟩⟩:=key o' C2
  ·have:a.fmt=1:=pe;omega
  ·have hl:o'.len=2+((o'.slots.length:Int)+3) / 4:=by unfold RO.len lenOf;rw [Rj pe]
   rw [upd,Re (by omega)];exact hs.byt _ ha pe j hj
 ·obtain ⟨a,ha,⟨hk,rfl,rfl⟩ | ⟨hk,rfl,hd⟩⟩:=key o' C2
  ·have:a.fmt=1:=pe;omega
  ·rw [upd,Re (by omega)];exact hs.byr _ ha pe j Fn C7
 ·have:=hs.low3 j g0 g1;have e:=eC (l:=r.objs) (k:=k) (j:=j) (f:=fA i w) fun _=>rfl;simp only [e];cases hj:aG r.objs j with
  | none=>exact absurd hj this
  | some a=>simp
theorem mB {F:aB} (hR:dd H hb F r){k i w:Int} (hf:∀ o,aG r.objs k=some o->o.fmt=0) (h:∀ H',dd H' hb F (r.put k i w).2->Fr F H H'->Q (ac (r.put k i w).1) H'):ag PP 14 #[Cv hb,ac k,ac i,ac w] Q H:=by
 have p4:=hR;obtain ⟨wb,tb,bb,W,T,B,low,rfl,hR⟩:=hR;apply AJ;dsimp only [bK,ah,iH,aZ,aM,aO,bl,ac,bm,ao,am,bi];refine tW hR ?_;unfold rR;have ll:=gI hR.wf k i w;unfold RH.put at h ll;cases ho:aG r.objs k with
 | none=>rw [ho] at h;exact ⟨_,_,_,_,rfl,by simpa using h H p4 (Fr.refl _ _)⟩
 | some o =>
  rw [ho] at h ll;have hm:=(aN ho).1;obtain ⟨h1,h2,h3,h4,h5,h6⟩:=hR.in_ hm;simp only at h ll ⊢;split
  ·rename_i hi;simp only [Rj hi] at h;exact ⟨_,_,_,_,rfl,by simpa using h H p4 (Fr.refl _ _)⟩
  ·rename_i hi;simp only [Re hi] at h ll;have hs:=rU hR hm (i:=i) (by omega) (by omega);have q9:=hf o ho;rw [Re (by omega)];have hs:=hs.2 (by omega);refine ⟨_,_,_,_,rfl,?_⟩;simp only [af,Rs,Rh,Rf,Ri,aK,aC,aU,aW,aL,aX,aR,aD,aT,aS,aJ,aV,Ru,Rx,Ry,ak,Rm,Rn,av,aq,aF,Rq,Rp,bq,bw,ne_eq,not_true_eq_false,if_false];refine BF hR.kinds ⟨_,rfl,?_⟩;by_cases DK:fF o.fmt w
   ·simp only [DK,not_true_eq_false,if_false] at h ll;have Jp:fF 0 w:=q9 ▸ DK;simp only [af,Rs,Rh,Rf,Ri,aK,aC,aU,aW,aL,aX,aR,aD,aT,aS,aJ,aV,Ru,Rx,Ry,ak,Rm,Rn,av,aq,aF,Rq,Rp,bq,bw,q9,Jp,decide_true,hR.c0];rw [Re (by decide)];refine ⟨by omega,by omega,hR.mw.wr (by omega) (by omega),h _ ⟨wb,tb,bb,upd W (o.place+2+i) w,T,B,low,rfl,?_⟩ (Fr.set (by simp))⟩;have hd:=hR.d;simp only [SE,Rk,Sa,Sx,Ta] at hd;refine { hd:=?_,mw:=hR.mw.set (by omega) w,mt:=hR.mt.set_ne (by simp;omega) _,mb:=hR.mb.set_ne (by simp;omega) _,d:=hR.d,kinds:=hR.kinds.fr (Fr.set (F:=[wb]) (by simp)) (by simp;omega),wf:=ll,sim:=A6 hR.wf hR.sim ho (by omega) (by omega) q9 }
    have:=hR.hd.set_ne (a:=⟨wb,(o.place+2+i).toNat,none⟩) (by simp;omega) (ac w);simp only [uN,nU (k:=k) (f:=fA i w) (l:=r.objs) (fun _=>rfl) (jZ i w)];exact this
   ·simp only [DK,not_false_eq_true,if_true] at h;simp only [af,Rs,Rh,Rf,Ri,aK,aC,aU,aW,aL,aX,aR,aD,aT,aS,aJ,aV,Ru,Rx,Ry,ak,Rm,Rn,av,aq,aF,Rq,Rp,bq,bw,DK,decide_false];exact h H p4 (Fr.refl _ _)
end
structure PV where
 W:Int->Int
 T:Int->Int
 B:Int->Int
 count:Int
 en:Int
 low:Int
 mark:Int
 ever:Int
 turn:Int
structure Raw (H:ae) (hb wb tb bb nw nt:Nat) (p:PV):Prop where
 hd:bW H hb #[.slice (some ⟨wb,0,none⟩) nw nw,.slice (some ⟨tb,0,none⟩) nt nt,.slice (some ⟨bb,0,none⟩) nt nt,ac p.count,ac p.en,ac p.low,ac p.mark,ac p.ever,ac p.turn]
 mw:dN H wb nw p.W
 mt:dN H tb nt p.T
 mb:dN H bb nt p.B
 d:[hb,wb,tb,bb,aP].Nodup
section
variable {H:ae}{hb wb tb bb nw nt:Nat}{p:PV}{W T B:Int->Int}{low:Int}{r:RH}{Q:QT}
theorem PHs.raw (h:PHs H hb wb tb bb W T B low r):Raw H hb wb tb bb r.words.toNat (r.oops+1).toNat ⟨W,T,B,r.objs.length,bv r.objs,low,r.mark,r.born,r.turn⟩:=⟨h.hd,h.mw,h.mt,h.mb,h.d⟩
theorem Raw.phs (h:Raw H hb wb tb bb nw nt p) (hk:dG H) (hw:WFH r) (hs:SimH p.W p.T p.B p.low r) (e1:nw=r.words.toNat) (e2:nt=(r.oops+1).toNat) (e3:p.count=r.objs.length) (e4:p.en=bv r.objs) (e5:p.mark=r.mark) (e6:p.ever=r.born) (e7:p.turn=r.turn):PHs H hb wb tb bb p.W p.T p.B p.low r:=by
 subst e1;subst e2;have h1:=h.hd;rw [e3,e4,e5,e6,e7] at h1;exact ⟨h1,h.mw,h.mt,h.mb,h.d,hk,hw,hs⟩
theorem Raw.c0 (h:Raw H hb wb tb bb nw nt p):aj H ⟨hb,0,none⟩=some (.slice (some ⟨wb,0,none⟩) nw nw):=h.hd.cell 0
theorem Raw.c1 (h:Raw H hb wb tb bb nw nt p):aj H ⟨hb,1,none⟩=some (.slice (some ⟨tb,0,none⟩) nt nt):=h.hd.cell 1
theorem Raw.c2 (h:Raw H hb wb tb bb nw nt p):aj H ⟨hb,2,none⟩=some (.slice (some ⟨bb,0,none⟩) nt nt):=h.hd.cell 2
theorem Raw.c3 (h:Raw H hb wb tb bb nw nt p):aj H ⟨hb,3,none⟩=some (ac p.count):=h.hd.cell 3
theorem Raw.c4 (h:Raw H hb wb tb bb nw nt p):aj H ⟨hb,4,none⟩=some (ac p.en):=h.hd.cell 4
theorem Raw.c5 (h:Raw H hb wb tb bb nw nt p):aj H ⟨hb,5,none⟩=some (ac p.low):=h.hd.cell 5
theorem Raw.c6 (h:Raw H hb wb tb bb nw nt p):aj H ⟨hb,6,none⟩=some (ac p.mark):=h.hd.cell 6
theorem Raw.c7 (h:Raw H hb wb tb bb nw nt p):aj H ⟨hb,7,none⟩=some (ac p.ever):=h.hd.cell 7
theorem Raw.c8 (h:Raw H hb wb tb bb nw nt p):aj H ⟨hb,8,none⟩=some (ac p.turn):=h.hd.cell 8
theorem Raw.word (h:Raw H hb wb tb bb nw nt p){i:Int} (h0:0<=i) (h1:i<nw):aj H ⟨wb,i.toNat,none⟩=some (ac (p.W i)):=h.mw.cell h0 h1
theorem Raw.tabc (h:Raw H hb wb tb bb nw nt p){i:Int} (h0:0<=i) (h1:i<nt):aj H ⟨tb,i.toNat,none⟩=some (ac (p.T i)):=h.mt.cell h0 h1
theorem Raw.ne (h:Raw H hb wb tb bb nw nt p):(hb≠wb∧hb≠tb∧hb≠bb∧hb≠aP)∧(wb≠tb∧wb≠bb∧wb≠aP)∧(tb≠bb∧tb≠aP)∧bb≠aP:=by
 have hd:=h.d;simpa only [SE,Rk,Sa,Sx,Ta,not_false_eq_true,List.nodup_nil,Ry] using hd
theorem Raw.setW (h:Raw H hb wb tb bb nw nt p){i:Int} (h0:0<=i) (v:Int):Raw (bc H ⟨wb,i.toNat,none⟩ (ac v)) hb wb tb bb nw nt { p with W:=upd p.W i v }:=by
 obtain ⟨⟨n1,n2,n3,n4⟩,⟨n5,n6,n7⟩,⟨n8,n9⟩,n10⟩:=h.ne;exact ⟨h.hd.set_ne n1 _,h.mw.set h0 v,h.mt.set_ne n5.symm _,h.mb.set_ne n6.symm _,h.d⟩
theorem Raw.setT (h:Raw H hb wb tb bb nw nt p){i:Int} (h0:0<=i) (v:Int):Raw (bc H ⟨tb,i.toNat,none⟩ (ac v)) hb wb tb bb nw nt { p with T:=upd p.T i v }:=by
 obtain ⟨⟨n1,n2,n3,n4⟩,⟨n5,n6,n7⟩,⟨n8,n9⟩,n10⟩:=h.ne;exact ⟨h.hd.set_ne n2 _,h.mw.set_ne n5 _,h.mt.set h0 v,h.mb.set_ne n8.symm _,h.d⟩
theorem Raw.setB (h:Raw H hb wb tb bb nw nt p){i:Int} (h0:0<=i) (v:Int):Raw (bc H ⟨bb,i.toNat,none⟩ (ac v)) hb wb tb bb nw nt { p with B:=upd p.B i v }:=by
 obtain ⟨⟨n1,n2,n3,n4⟩,⟨n5,n6,n7⟩,⟨n8,n9⟩,n10⟩:=h.ne;exact ⟨h.hd.set_ne n3 _,h.mw.set_ne n6 _,h.mt.set_ne n8 _,h.mb.set h0 v,h.d⟩
theorem Raw.set3 (h:Raw H hb wb tb bb nw nt p) (v:Int):Raw (bc H ⟨hb,3,none⟩ (ac v)) hb wb tb bb nw nt { p with count:=v }:=by
 obtain ⟨⟨n1,n2,n3,n4⟩,_⟩:=h.ne;exact ⟨h.hd.set 3 (ac v),h.mw.set_ne n1.symm _,h.mt.set_ne n2.symm _,h.mb.set_ne n3.symm _,h.d⟩
theorem Raw.set4 (h:Raw H hb wb tb bb nw nt p) (v:Int):Raw (bc H ⟨hb,4,none⟩ (ac v)) hb wb tb bb nw nt { p with en:=v }:=by
 obtain ⟨⟨n1,n2,n3,n4⟩,_⟩:=h.ne;exact ⟨h.hd.set 4 (ac v),h.mw.set_ne n1.symm _,h.mt.set_ne n2.symm _,h.mb.set_ne n3.symm _,h.d⟩
theorem Raw.set5 (h:Raw H hb wb tb bb nw nt p) (v:Int):Raw (bc H ⟨hb,5,none⟩ (ac v)) hb wb tb bb nw nt { p with low:=v }:=by
 obtain ⟨⟨n1,n2,n3,n4⟩,_⟩:=h.ne;exact ⟨h.hd.set 5 (ac v),h.mw.set_ne n1.symm _,h.mt.set_ne n2.symm _,h.mb.set_ne n3.symm _,h.d⟩
theorem Raw.set6 (h:Raw H hb wb tb bb nw nt p) (v:Int):Raw (bc H ⟨hb,6,none⟩ (ac v)) hb wb tb bb nw nt { p with mark:=v }:=by
 obtain ⟨⟨n1,n2,n3,n4⟩,_⟩:=h.ne;exact ⟨h.hd.set 6 (ac v),h.mw.set_ne n1.symm _,h.mt.set_ne n2.symm _,h.mb.set_ne n3.symm _,h.d⟩
theorem Raw.set7 (h:Raw H hb wb tb bb nw nt p) (v:Int):Raw (bc H ⟨hb,7,none⟩ (ac v)) hb wb tb bb nw nt { p with ever:=v }:=by
 obtain ⟨⟨n1,n2,n3,n4⟩,_⟩:=h.ne;exact ⟨h.hd.set 7 (ac v),h.mw.set_ne n1.symm _,h.mt.set_ne n2.symm _,h.mb.set_ne n3.symm _,h.d⟩
theorem Raw.set8 (h:Raw H hb wb tb bb nw nt p) (v:Int):Raw (bc H ⟨hb,8,none⟩ (ac v)) hb wb tb bb nw nt { p with turn:=v }:=by
 obtain ⟨⟨n1,n2,n3,n4⟩,_⟩:=h.ne;exact ⟨h.hd.set 8 (ac v),h.mw.set_ne n1.symm _,h.mt.set_ne n2.symm _,h.mb.set_ne n3.symm _,h.d⟩
theorem Raw.wrh (h:Raw H hb wb tb bb nw nt p){i:Nat} (hi:i<9):Wr H ⟨hb,i,none⟩:=h.hd.wr hi
theorem Raw.keep (h:Raw H hb wb tb bb nw nt p){F:aB}{H':ae} (hf:Fr F H H') (hd:bL [hb,wb,tb,bb] F):Raw H' hb wb tb bb nw nt p :=
 ⟨h.hd.fr hf (hd _ (by simp)),h.mw.fr hf (hd _ (by simp)),h.mt.fr hf (hd _ (by simp)),h.mb.fr hf (hd _ (by simp)),h.d⟩
def Bo (p:PV) (oop cls n f:Int):PV:={ p with W:=upd (upd p.W p.en cls) (p.en+1) (2*n+f),T:=upd p.T oop p.en,B:=upd p.B oop p.ever,en:=p.en+lenOf n f,ever:=IntKind.wrap .i64 (p.ever+1),count:=p.count+1 }
theorem Bv (hR:Raw H hb wb tb bb nw nt p){oop cls n f:Int} (h0:0<=p.en) (h1:p.en+2<=nw) (h1':nw<=1048576) (h2:0<=oop) (h3:oop<nt) (h4:0<=n) (h5:n<=8192) (h6:f=0∨f=1) (h7:0<=p.count) (h8:p.count<=100000)
  (h:∀ H',Raw H' hb wb tb bb nw nt (Bo p oop cls n f)->Fr [hb,wb,tb,bb] H H'->Q (ac p.en) H'):ag PP 94 #[Cv hb,ac oop,ac cls,ac n,ac f] Q H:=by
 apply yS;dsimp only [aH,aM,aO,bl,ac,bm,ao,bi,aI];have e1:jw .i64 n 1=2*n:=by
  have:=kU n 1 (by decide) ⟨by simp;omega,by simp;omega⟩;simpa [TM] using this
 have e2:xT .i64 (2*n) f=2*n+f:=by
  have:=ln (2*n) 1 f.toNat (by decide) (by omega) ⟨by omega,by omega⟩ (by simp);rw [So (by omega)] at this;exact this
 have e3:IntKind.wrap .i64 (p.en+1)=p.en+1:=ai (by omega) (by omega);have r1:=hR.setW (i:=p.en) h0 cls;have r2:=r1.setW (i:=p.en+1) (by omega) (2*n+f);have r3:=r2.setT (i:=oop) h2 p.en;have r4:=r3.setB (i:=oop) h2 p.ever;have hl:=jE (n:=n) (fmt:=f) h4;have DI:=gu (n:=n) (fmt:=f) h4;have e4:IntKind.wrap .i64 (p.en+lenOf n f)=p.en+lenOf n f:=ai (by omega) (by omega);have e5:IntKind.wrap .i64 (p.count+1)=p.count+1:=ai (by omega) (by omega);have r5:=r4.set4 (p.en+lenOf n f);have r6:=r5.set7 (IntKind.wrap .i64 (p.ever+1));have r7:=r6.set3 (p.count+1);simp only [af,Rs,Rh,Rf,Ri,aK,aC,aU,aW,aL,aX,aR,aD,aT,aS,aJ,aV,Ru,Rx,Ry,ak,Rm,Rn,av,aq,aF,Rq,Rp,bq,bw,e1,e2,e3,hR.c4,hR.c0,r2.c1,r2.c2,r2.c7,r4.c4];refine ⟨by omega,by omega,hR.mw.wr h0 (by omega),by omega,by omega,r1.mw.wr (by omega) (by omega),by omega,by omega,r2.mt.wr h2 h3,h2,h3,r3.mb.wr h2 h3,?_⟩;refine jH h4 (by omega) ?_;simp only [af,Rs,Rh,Rf,Ri,aK,aC,aU,aW,aL,aX,aR,aD,aT,aS,aJ,aV,Ru,Rx,Ry,ak,Rm,Rn,av,aq,aF,Rq,Rp,bq,bw,r4.c4,e4,r5.c7,r6.c3,e5];refine ⟨r4.wrh (by decide),r5.wrh (by decide),r6.wrh (by decide),h _ r7 ?_⟩
 ·exact ((((((((Fr.refl _ _).step (by simp)).step (by simp)).step (by simp)).step (by simp)).step (by simp)).step (by simp)).step (by simp))
end
section
variable {H:ae}{hb wb tb bb:Nat}{W T B:Int->Int}{low:Int}{r:RH}{Q:QT}
theorem yW (hw:WFH r) (hs:SimH W T B low r){cls n f m' ev':Int}{W':Int->Int} (hn:0<=n) (hf:f=0∨f=1) (an:(r.objs.length:Int)<r.oops)
  (h0:∀ i,i<bv r.objs->W' i=W i) (h1:W' (bv r.objs)=cls) (h2:W' (bv r.objs+1)=2*n+f) (h3:∀ i,bv r.objs+2<=i->i<bv r.objs+lenOf n f->W' i=if f=1 then 0 else 4) :
  SimH W' (upd T (bR r.objs) (bv r.objs)) (upd B (bR r.objs) r.born) (bR r.objs+1) { r with mark:=m',born:=ev',objs:=r.objs++[cY r cls n f] }:=by
 have hl:=dm hw.objs hw.o1 an;have HM:=bX hw.objs hw.w0;have key:∀ o∈r.objs++[cY r cls n f],(o∈r.objs∧o.place+o.len<=bv r.objs∧o.oop≠bR r.objs)∨o=cY r cls n f:=by
  intro o ho;rcases Rl.1 ho with ho | ho
  ·exact .inl ⟨ho,jt hw.objs ho,db.1 hl.2.2.1 o ho⟩
  ·exact .inr (by simpa using ho)
 have Oi:((cY r cls n f).slots.length:Int)=n:=by simp only [cY,SF];omega
 have Ib:(cY r cls n f).len=lenOf n f:=by simp only [RO.len,Oi];rfl
 have GK:∀ i:Nat,i<(cY r cls n f).slots.length->(cY r cls n f).slots.getD i 0=if f=1 then 0 else 4:=by
  intro i hi;simp only [cY,SF] at hi;simp [cY,hi]
 refine { tab:=fun j g0 g1=>?_,bor:=fun o ho=>?_,cls:=fun o ho=>?_,shp:=fun o ho=>?_,wrd:=fun o ho pe j hj=>?_,byt:=fun o ho pe j hj=>?_,byr:=fun o ho pe j Fn C7=>?_,low1:=by omega,low2:=by show bR r.objs+1<=r.oops+1;omega,low3:=fun j g0 g1=>?_ }
 ·have e:=dZ (l:=r.objs) (x:=cY r cls n f) (k:=j);simp only [e];unfold upd;by_cases hj:j=bR r.objs
  ·subst hj;rw [Rj rfl,hl.2.2.1];simp [cY]
  ·rw [Re hj,hs.tab j g0 g1];cases aG r.objs j with
   | some o=>rfl
   | none =>
    simp only;rw [Re];exact fun e=>hj e.symm
 ·rcases key o ho with ⟨h4,h5,h6⟩ | rfl
  ·rw [upd,Re h6];exact hs.bor o h4
  ·simp [cY,upd]
 ·rcases key o ho with ⟨h4,h5,h6⟩ | rfl
  ·have:=o.len_pos;rw [h0 _ (by omega)];exact hs.cls o h4
  ·exact h1
 ·rcases key o ho with ⟨h4,h5,h6⟩ | rfl
  ·have:=o.len_pos;rw [h0 _ (by omega)];exact hs.shp o h4
  ·rw [Oi];exact h2
 ·rcases key o ho with ⟨h4,h5,h6⟩ | rfl
  ·have D4:o.len=2+(o.slots.length:Int):=by unfold RO.len lenOf;rw [Re (by omega)]
   rw [h0 _ (by omega)];exact hs.wrd o h4 pe j hj
  ·rw [GK j hj];have q9:f=0:=pe;have D4:lenOf n f=2+n:=by unfold lenOf;rw [Re (by omega)]
   exact h3 _ (by simp only [cY];omega) (by simp only [cY];rw [D4];omega)
 ·rcases key o ho with ⟨h4,h5,h6⟩ | rfl
  ·have D4:o.len=2+((o.slots.length:Int)+3) / 4:=by unfold RO.len lenOf;rw [Rj pe]
   rw [h0 _ (by omega)];exact hs.byt o h4 pe j hj
  ·rw [GK j hj];have cp:f=1:=pe;have D4:lenOf n f=2+(n+3) / 4:=by unfold lenOf;rw [Rj cp]
   rw [h3 _ (by simp only [cY];omega) (by simp only [cY];rw [D4];omega),Rj cp];simp
 ·rcases key o ho with ⟨h4,h5,h6⟩ | rfl
  ·rw [h0 _ (by omega)];exact hs.byr o h4 pe j Fn C7
  ·have cp:f=1:=pe;rw [Ib] at C7;rw [h3 _ Fn C7,Rj cp];simp
 ·have e:=dZ (l:=r.objs) (x:=cY r cls n f) (k:=j);simp only [e];by_cases hj:j=bR r.objs
  ·subst hj;rw [hl.2.2.1];simp [cY]
  ·have:=hl.2.2.2 j g0 (by omega);cases hj:aG r.objs j with
   | none=>exact absurd hj this
   | some o=>simp
theorem oz {F:aB} (hR:dd H hb F r){cls n f:Int} (h:∀ H',dd H' hb F (r.alloc cls n f).2->Fr F H H'->Q (two (r.alloc cls n f).1) H'):ag PP 26 #[Cv hb,ac cls,ac n,ac f] Q H:=by
 have p4:=hR;obtain ⟨wb,tb,bb,W,T,B,low,rfl,hR⟩:=hR;apply za;dsimp only [bk,mJ,bK,aH,ah,bA,aZ,aM,aO,bl,ac,bm,sx,ce,ax,bt,ao,am,az,bi,aI];have ll:=hR.wf;have GL:=bX ll.objs ll.w0;have CW:=ll.w1;have IN:=ll.o0;have C3:=ll.o1;have LY:=ll.m0;have DA:=ll.m1;have c9:=hR.raw.ne;refine ⟨fun w H'=>w=[]∧PHs H' hb wb tb bb W T B low { r with mark:=if 0<r.mark then r.mark-1 else r.mark }∧Fr [hb,wb,tb,bb] H H'∧d8 cls∧(f=0∨f=1)∧0<=n∧n<=8192∧(r.objs.length:Int)<r.oops∧bv r.objs+lenOf n f<=r.words∧r.mark≠1,?_,?_⟩
 ·refine lO hR ⟨_,rfl,?_⟩;simp only [Rh];refine pX hR.kinds ⟨_,rfl,?_⟩;unfold RH.alloc at h;by_cases r0:d8 cls
  ·by_cases hf:f=0∨f=1
   ·simp only [af,Rs,Rh,Rf,Ri,aK,aC,aU,aW,aL,aX,aR,aD,aT,aS,aJ,aV,Ru,Rx,Ry,ak,Rm,Rn,av,aq,aF,Rq,Rp,bq,bw,r0,decide_true];have hX:∀ {X Y:Prop},X->(if f≠0 then if f≠1 then Y else X else X):=fun {X Y} hx=>by
     split
     ·rw [Re (by omega)];exact hx
     ·exact hx
    refine hX ?_;split
    ·rename_i hn;simp only [r0,not_true_eq_false,false_or,hn,or_true,if_true] at h;exact h H p4 (Fr.refl _ _)
    ·rename_i hn;have n1:¬ (¬ d8 cls∨f<0∨1<f∨n<0):=fun hh=>hh.elim (fun hh=>hh r0) (by omega);rw [Re n1] at h;split
     ·rename_i Dl;rw [Rj (by omega)] at h;exact h H p4 (Fr.refl _ _)
     ·rename_i Dl;rw [Re (by omega)] at h;have hl:=jE (n:=n) (fmt:=f) (by omega);have DI:=gu (n:=n) (fmt:=f) (by omega);simp only [af,Rs,Rh,Rf,Ri,aK,aC,aU,aW,aL,aX,aR,aD,aT,aS,aJ,aV,Ru,Rx,Ry,ak,Rm,Rn,av,aq,aF,Rq,Rp,bq,bw,hR.c3,hR.c1,hR.c0,hR.c4];rw [ai (n:=((r.oops+1).toNat:Int)-1) (by omega) (by omega)];split
      ·rename_i hc;rw [Rj (.inl (by omega))] at h;exact h H p4 (Fr.refl _ _)
      ·rename_i hc;refine jH (by omega) (by omega) ⟨_,rfl,hR.c4,hR.c0,?_⟩;rw [ai (n:=(r.words.toNat:Int)-bv r.objs) (by omega) (by omega)];simp only [af,Rs,Rh,Rf,Ri,aK,aC,aU,aW,aL,aX,aR,aD,aT,aS,aJ,aV,Ru,Rx,Ry,ak,Rm,Rn,av,aq,aF,Rq,Rp,bq,bw,hR.c6];split
       ·rename_i I6;rw [Rj (.inr (by omega))] at h;exact h H p4 (Fr.refl _ _)
       ·rename_i I6;rw [Re (by omega)] at h;split
        ·rename_i hm;rw [Rj hm] at h;have r1:=hR.raw.set6 0;exact ⟨hR.raw.wrh (by decide),h _ ⟨wb,tb,bb,W,T,B,low,rfl,r1.phs (hR.kinds.fr (Fr.set (F:=[hb]) (by simp)) (by simp;omega)) { ll with m0:=by simp,m1:=by simp } { hR.sim with } rfl rfl rfl rfl rfl rfl rfl⟩ (Fr.set (by simp))⟩
        ·rename_i hm;split
         ·rename_i Gi;have r1:=hR.raw.set6 (r.mark-1);rw [ai (n:=r.mark-1) (by omega) (by omega)];refine ⟨hR.raw.wrh (by decide),?_,Fr.set (by simp),hf,by omega,by omega,by omega,by omega,hm⟩;exact r1.phs (hR.kinds.fr (Fr.set (F:=[hb]) (by simp)) (by simp;omega)) { ll with m0:=by simp;omega,m1:=by simp;omega } { hR.sim with } rfl rfl rfl rfl rfl rfl rfl
         ·rename_i Gi;refine ⟨?_,Fr.refl _ _,hf,by omega,by omega,by omega,by omega,hm⟩;exact hR
   ·simp only [af,Rs,Rh,Rf,Ri,aK,aC,aU,aW,aL,aX,aR,aD,aT,aS,aJ,aV,Ru,Rx,Ry,ak,Rm,Rn,av,aq,aF,Rq,Rp,bq,bw,r0,decide_true];rw [Rj (by omega),Rj (by omega)];rw [Rj (by omega)] at h;exact h H p4 (Fr.refl _ _)
  ·simp only [af,Rs,Rh,Rf,Ri,aK,aC,aU,aW,aL,aX,aR,aD,aT,aS,aJ,aV,Ru,Rx,Ry,ak,Rm,Rn,av,aq,aF,Rq,Rp,bq,bw,r0,decide_false];rw [Rj (.inl r0)] at h;exact h H p4 (Fr.refl _ _)
 ·rintro w H1 ⟨rfl,q7,DM,r0,hf,hn,Dl,an,Df,hm⟩ _;have DC:=dm ll.objs C3 an;have D4:=hR.sim.low3;have Jq:low<=bR r.objs:=by
   refine RE fun hc=>?_;exact D4 _ DC.1 (by omega) DC.2.2.1
  have hl:=jE (n:=n) (fmt:=f) (by omega);have DI:=gu (n:=n) (fmt:=f) (by omega);have Ek:=hR.sim.low1;refine ⟨rfl,?_⟩;simp only [af,Rs,Rh,Rf,Ri,aK,aC,aU,aW,aL,aX,aR,aD,aT,aS,aJ,aV,Ru,Rx,Ry,ak,Rm,Rn,av,aq,aF,Rq,Rp,bq,bw,q7.c5];refine ⟨fun w H'=>H'=H1∧∃ k,w=[ac k]∧low<=k∧k<=bR r.objs,fun w _=>match w with
   | [.int _ k]=>(bR r.objs-k).toNat
   | _=>0,⟨rfl,low,rfl,Sc _,Jq⟩,?_⟩
  rintro w H2 ⟨rfl,k,rfl,Dw,EF⟩ _;refine ⟨k,rfl,?_⟩;have lp:=hR.sim.tab k (by omega) (by omega);have e1:IntKind.wrap .i64 (k+1)=k+1:=ai (by omega) (by omega);simp only [af,Rs,Rh,Rf,Ri,aK,aC,aU,aW,aL,aX,aR,aD,aT,aS,aJ,aV,Ru,Rx,Ry,ak,Rm,Rn,av,aq,aF,Rq,Rp,bq,bw,e1,q7.c1,q7.tabc (i:=k) (by omega) (by show k<=r.oops;omega)];refine ⟨by omega,by show k<((r.oops+1).toNat:Int);omega,?_⟩;split
  ·rename_i hT;have hne2:k≠bR r.objs:=by
    rintro rfl;rw [lp,DC.2.2.1] at hT;simp at hT
   exact ⟨⟨k+1,rfl,by omega,by omega⟩,by simp;omega⟩
  ·rename_i hT;have DN:k=bR r.objs:=by
    refine RE fun hc=>?_;cases ho:aG r.objs k with
    | none=>exact DC.2.2.2 k (by omega) (by omega) ho
    | some o =>
     rw [ho] at lp;simp only at lp
     have:=(hR.wf.objs.good o (aN ho).1).pl;omega
   have r1:=q7.raw.set5 (k+1);refine ⟨q7.raw.wrh (by decide),?_⟩;simp only [r1.c0,r1.c4,af,Rs,Rh,Rf,Ri,aK,aC,aU,aW,aL,aX,aR,aD,aT,aS,aJ,aV,Ru,Rx,Ry,ak,Rm,Rn,av,aq,aF,Rq,Rp,bq,bw];refine jH (by omega) (by omega) ?_;simp only [r1.c0,r1.c4,af,Rs,Rh,Rf,Ri,aK,aC,aU,aW,aL,aX,aR,aD,aT,aS,aJ,aV,Ru,Rx,Ry,ak,Rm,Rn,av,aq,aF,Rq,Rp,bq,bw];have ew1:IntKind.wrap .i64 (bv r.objs+lenOf n f)=bv r.objs+lenOf n f:=ai (by omega) (by omega);have ew2:IntKind.wrap .i64 (bv r.objs+2)=bv r.objs+2:=ai (by omega) (by omega);simp only [ew1,ew2];have last:∀ H' W',Raw H' hb wb tb bb r.words.toNat (r.oops+1).toNat ⟨W',T,B,r.objs.length,bv r.objs,k+1,if 0<r.mark then r.mark-1 else r.mark,r.born,r.turn⟩->Fr [hb,wb,tb,bb] H2 H'->(∀ i,i<bv r.objs->W' i=W i)->(∀ i,bv r.objs+2<=i->i<bv r.objs+lenOf n f->W' i=if f=1 then 0 else 4) ->
     ag PP 94 #[Cv hb,ac k,ac cls,ac n,ac f] (fun v H10=>∃ m:Int,v=ac m∧Q (.tuple #[ac k,ac 0]) H10) H':=by
    intro H' W' hr p5 Mg Mh;refine Bv hr GL.1 (by show bv r.objs+2<=(r.words.toNat:Int);omega) (by omega) (by omega) (by omega) hn Dl hf (by show (0:Int)<=(r.objs.length:Int);omega) (by show (r.objs.length:Int)<=100000;omega) fun H3 xB Fy=>⟨_,rfl,?_⟩;have En:r.alloc cls n f=((bR r.objs,0),{ r with mark:=if 0<r.mark then r.mark-1 else r.mark,born:=IntKind.wrap .i64 (r.born+1),objs:=r.objs++[cY r cls n f] }):=by
     unfold RH.alloc;rw [Re (fun hh=>hh.elim (fun hh=>hh r0) (by omega)),Re (by omega),Re (by omega),Re hm]
    have DP:=gD ll cls n f;rw [En] at h DP;rw [DN];have Ib:(cY r cls n f).len=lenOf n f:=by simp only [RO.len,cY,SF];congr 1;omega
    have Jr:=yW (T:=T) (B:=B) (low:=low) ll hR.sim (m':=if 0<r.mark then r.mark-1 else r.mark) (ev':=IntKind.wrap .i64 (r.born+1)) (W':=upd (upd W' (bv r.objs) cls) (bv r.objs+1) (2*n+f)) hn hf an
     (cls:=cls) (fun i hi=>by rw [upd,Re (by omega),upd,Re (by omega)];exact Mg i hi) (by rw [upd,Re (by omega)];simp [upd]) (by simp [upd]) (fun i g1 g2=>by rw [upd,Re (by omega),upd,Re (by omega)];exact Mh i g1 g2)
    rw [←DN] at Jr;have hkinds:dG H3:=q7.kinds.fr (F:=[hb,wb,tb,bb]) (p5.trans Fy) (by simp only [Rk,Sa,Sx,Ta];exact ⟨fun e=>c9.1.2.2.2 e.symm,fun e=>c9.2.1.2.2 e.symm,fun e=>c9.2.2.1.2 e.symm,fun e=>c9.2.2.2 e.symm⟩);exact h H3 ⟨wb,tb,bb,_,_,_,_,rfl,xB.phs hkinds DP Jr rfl rfl (by simp [Bo]) (by show bv r.objs+lenOf n f=bv (r.objs++[cY r cls n f]);rw [cW,Ib];rfl) rfl rfl rfl⟩ (DM.trans (p5.trans Fy))
   refine ⟨by omega,by omega,by omega,by omega,?_⟩;have Fz:(bv r.objs+lenOf n f).toNat-(bv r.objs+2).toNat=(lenOf n f-2).toNat:=by omega
   rw [Fz];refine jO (bs:=8) (by kernel_rfl) r1.mw (by omega) (by omega) fun H3 K0 Gz HP=>?_;have Fy:Fr [hb,wb,tb,bb] H2 H3:=(Fr.set (by simp)).trans ⟨by omega,fun b er Mi=>HP b (fun e=>Mi (by simp [e]))⟩;have xB:Raw H3 hb wb tb bb r.words.toNat (r.oops+1).toNat ⟨fun i=>if bv r.objs+2<=i∧i<bv r.objs+2+((lenOf n f-2).toNat:Int) then 0 else W i,T,B,r.objs.length,bv r.objs,k+1,if 0<r.mark then r.mark-1 else r.mark,r.born,r.turn⟩ :=
    ⟨r1.hd.of_eq (HP _ c9.1.1),K0,r1.mt.of_eq (HP _ c9.2.1.1.symm),r1.mb.of_eq (HP _ c9.2.1.2.1.symm),r1.d⟩
   split
   ·rename_i q9;have D4:lenOf n f=2+n:=by unfold lenOf;rw [Re (by omega)]
    refine ⟨fun w H'=>∃ i:Int,w=[ac i]∧0<=i∧i<=n∧Fr [hb,wb,tb,bb] H2 H'∧Raw H' hb wb tb bb r.words.toNat (r.oops+1).toNat ⟨fun j=>if bv r.objs+2<=j∧j<bv r.objs+2+n then if j<bv r.objs+2+i then 4 else 0 else W j,T,B,r.objs.length,bv r.objs,k+1,if 0<r.mark then r.mark-1 else r.mark,r.born,r.turn⟩,
     fun w _=>match w with
      | [.int _ i]=>(n-i).toNat
      | _=>0,⟨0,rfl,by omega,hn,Fy,?_⟩,?_⟩
    ·refine ⟨xB.hd,xB.mw.congr fun j _ _=>?_,xB.mt,xB.mb,xB.d⟩;show (if bv r.objs+2<=j∧j<bv r.objs+2+((lenOf n f-2).toNat:Int) then (0:Int) else W j)=if bv r.objs+2<=j∧j<bv r.objs+2+n then if j<bv r.objs+2+0 then 4 else 0 else W j;by_cases hj:bv r.objs+2<=j∧j<bv r.objs+2+n
     ·rw [Rj (by omega),Rj hj,Re (by omega)]
     ·rw [Re (by omega),Re hj]
    ·rintro w H4 ⟨i,rfl,Fa,IJ,Js,Ep⟩ _;refine ⟨i,rfl,?_⟩;split
     ·rename_i hi;have HL:i<n:=by omega
      rw [kZ (by omega)];simp only [af,Rs,Rh,Rf,Ri,aK,aC,aU,aW,aL,aX,aR,aD,aT,aS,aJ,aV,Ru,Rx,Ry,ak,Rm,Rn,av,aq,aF,Rq,Rp,bq,bw];have eo:(bv r.objs+2).toNat+i.toNat=(bv r.objs+2+i).toNat:=by omega
      rw [eo,ai (n:=i+1) (by omega) (by omega)];refine ⟨by omega,hi,Ep.mw.wr (by omega) (by omega),⟨i+1,rfl,by omega,by omega,Js.step (by simp),?_⟩,by simp;omega⟩;have FF:=Ep.setW (i:=bv r.objs+2+i) (by omega) 4;refine ⟨FF.hd,FF.mw.congr fun j _ _=>?_,FF.mt,FF.mb,FF.d⟩;show upd (fun j=>if bv r.objs+2<=j∧j<bv r.objs+2+n then if j<bv r.objs+2+i then 4 else 0 else W j) (bv r.objs+2+i) 4 j=if bv r.objs+2<=j∧j<bv r.objs+2+n then if j<bv r.objs+2+(i+1) then 4 else 0 else W j;unfold upd;by_cases hj:j=bv r.objs+2+i
      ·rw [Rj hj,Rj (by omega),Rj (by omega)]
      ·rw [Re hj];show (if bv r.objs+2<=j∧j<bv r.objs+2+n then if j<bv r.objs+2+i then 4 else 0 else W j)=_;by_cases C7:bv r.objs+2<=j∧j<bv r.objs+2+n
       ·rw [Rj C7,Rj C7];by_cases Oj:j<bv r.objs+2+i
        ·rw [Rj Oj,Rj (by omega)]
        ·rw [Re Oj,Re (by omega)]
       ·rw [Re C7,Re C7]
     ·rename_i hi;refine last H4 _ Ep Js (fun j hj=>?_) (fun j Fn C7=>?_)
      ·rw [Re (by omega)]
      ·rw [Rj (by omega),Rj (by omega),Re (by omega)]
   ·rename_i q9;refine last H3 _ xB Fy (fun j hj=>?_) (fun j Fn C7=>?_)
    ·rw [Re (by omega)]
    ·rw [Rj (by omega),Rj (by omega)]
end
def gz (words oops:Int):RH:=⟨words,oops,0,0,0,[]⟩
theorem uA {words oops:Int} (h0:0<=words) (h1:words<=1048576) (h2:0<=oops) (h3:oops<=65536):WFH (gz words oops) :=
 ⟨h0,h1,h2,h3,by simp [gz],by simp [gz],⟨by simp [gz],by simp [gz]⟩⟩
section
variable {H:ae}{hb wb tb bb nw nt:Nat}{p:PV}{W T B:Int->Int}{low:Int}{r:RH}{Q:QT}
theorem tG {words oops:Int} (hk:dG H) (l8:¬ (0<=words∧words<=1048576∧0<=oops∧oops<=65536)->Q (.tuple #[.pointer none,ac 1]) H)
  (h:(0<=words∧words<=1048576∧0<=oops∧oops<=65536)->∀ hb F H',dd H' hb F (gz words oops)->Fr [] H H'->(∀ b∈F,H.size<=b)->Q (.tuple #[Cv hb,ac 0]) H'):ag PP 90 #[ac words,ac oops] Q H:=by
 apply A0;dsimp only [bf,bK,ah,aZ,aO,bl,ac,bm,Bh,ce,ax,bt,ao,am,bg,bE,az,bi,bn,aI];refine lC ⟨_,rfl,?_⟩;by_cases h1:0<=words∧words<=1048576
 ·simp only [af,Rs,Rh,Rf,Ri,aK,aC,aU,aW,aL,aX,aR,aD,aT,aS,aJ,aV,Ru,Rx,Ry,ak,Rm,Rn,av,aq,aF,Rq,Rp,bq,bw,h1,decide_true];refine lC ⟨_,rfl,?_⟩;by_cases h2:0<=oops∧oops<=65536
  ·simp only [af,Rs,Rh,Rf,Ri,aK,aC,aU,aW,aL,aX,aR,aD,aT,aS,aJ,aV,Ru,Rx,Ry,ak,Rm,Rn,av,aq,aF,Rq,Rp,bq,bw,h2,decide_true];have e1:IntKind.wrap .i64 (oops+1)=oops+1:=ai (by omega) (by omega);have hg:aP<H.size:=by
    have h0:=hk.1;unfold aj at h0;rcases Sf aP H.size with h1 | h1
    ·exact h1
    ·simp only [Sd h1] at h0;cases h0
   have hU:aY PP 44=some (1,8,some (ac 0)):=by kernel_rfl
   have w9:aY PP 109=some (1,8,some (ac 0)):=by kernel_rfl
   simp only [e1];have mk:∀ (T:TypeId) (n:Int) (K:Option Addr->Nat->Nat->ae->Prop) (G:ae),aY PP T=some (1,8,some (ac 0))->0<=n->n<=1048576 ->
     (∀ e,K (some ⟨G.size,0,none⟩) n.toNat n.toNat (G.push (.cells (Array.replicate n.toNat (ac 0)) e))) ->
     cc PP (Instr.makeSlice T (ac n) (ac n)) (fun v H3=>∃ a:Option Addr,∃ l:Nat,∃ c:Nat,v=.slice a l c∧K a l c H3) G :=
    fun T n K G hT g0 g1 hK=>ef hT rfl g0 (Sc _) (by omega) (by decide) fun e=>⟨_,_,_,rfl,hK e⟩
   have fin:∀ (G:ae) (wb tb bb:Nat) (e:TypeId),Fr [] H G->dN G wb words.toNat (fun _=>0)->dN G tb (oops+1).toNat (fun _=>0)->dN G bb (oops+1).toNat (fun _=>0)->wb≠tb->wb≠bb->tb≠bb->H.size<=wb->H.size<=tb->H.size<=bb ->
     ∃ hb wb' tb' bb',[Value.pointer (some ⟨G.size,0,none⟩)]=[Cv hb]∧Fr [] H (G.push (.cells #[.slice (some ⟨wb,0,none⟩) words.toNat words.toNat,.slice (some ⟨tb,0,none⟩) (oops+1).toNat (oops+1).toNat,.slice (some ⟨bb,0,none⟩) (oops+1).toNat (oops+1).toNat,ac 0,ac 0,ac 1,ac 0,ac 0,ac 0] e))∧H.size<=hb∧H.size<=wb'∧H.size<=tb'∧H.size<=bb' ∧
      Raw (G.push (.cells #[.slice (some ⟨wb,0,none⟩) words.toNat words.toNat,.slice (some ⟨tb,0,none⟩) (oops+1).toNat (oops+1).toNat,.slice (some ⟨bb,0,none⟩) (oops+1).toNat (oops+1).toNat,ac 0,ac 0,ac 1,ac 0,ac 0,ac 0] e)) hb wb' tb' bb' words.toNat (oops+1).toNat ⟨fun _=>0,fun _=>0,fun _=>0,0,0,1,0,0,0⟩:=by
    intro G wb tb bb e hf m1 m2 m3 n1 n2 n3 g1 g2 g3
    have:=m1.lt
    have:=m2.lt
    have:=m3.lt
    have:=hf.1;have nd:[G.size,wb,tb,bb,aP].Nodup:=by
     simp only [SE,Rk,Sa,Sx,Ta,List.nodup_nil,Ry,not_false_eq_true];exact ⟨⟨by omega,by omega,by omega,by omega⟩,⟨n1,n2,by omega⟩,⟨n3,by omega⟩,by omega⟩
    exact ⟨G.size,wb,tb,bb,rfl,hf.more,hf.1,g1,g2,g3,⟨bW.new _ _ _,m1.push _,m2.push _,m3.push _,nd⟩⟩
   have ET:∀ (G:ae) (o:Obj),Fr [] H G->Fr [] H (G.push o):=fun G o hG=>hG.more;have s5:∀ (G:ae) (o:Obj),(G.push o).size=G.size+1:=fun G o=>by simp
   refine ⟨fun w H'=>∃ hb wb tb bb,w=[Cv hb]∧Fr [] H H'∧H.size<=hb∧H.size<=wb∧H.size<=tb∧H.size<=bb∧Raw H' hb wb tb bb words.toNat (oops+1).toNat ⟨fun _=>0,fun _=>0,fun _=>0,0,0,1,0,0,0⟩,?A,?B,?C,?D⟩
   case A =>
    refine mk 44 words _ H hU h1.1 h1.2 fun e=>?_;refine ⟨mk 109 (oops+1) _ _ w9 (by omega) (by omega) fun e2=>?_,mk 109 (oops+1) _ _ w9 (by omega) (by omega) fun e2=>?_⟩
    ·refine mk 109 (oops+1) _ _ w9 (by omega) (by omega) fun e3=>?_;exact fin _ _ _ _ _ (((Fr.refl _ _).more).more.more) (((dN.new _ _ _).push _).push _) ((dN.new _ _ _).push _) (dN.new _ _ _) (by (try simp only [RA]);omega) (by (try simp only [RA]);omega) (by (try simp only [RA]);omega) (by (try simp only [RA]);omega) (by (try simp only [RA]);omega) (by (try simp only [RA]);omega)
    ·refine mk 109 (oops+1) _ _ w9 (by omega) (by omega) fun e3=>?_;exact fin _ _ _ _ _ (((Fr.refl _ _).more).more.more) (((dN.new _ _ _).push _).push _) (dN.new _ _ _) ((dN.new _ _ _).push _) (by (try simp only [RA]);omega) (by (try simp only [RA]);omega) (by (try simp only [RA]);omega) (by (try simp only [RA]);omega) (by (try simp only [RA]);omega) (by (try simp only [RA]);omega)
   case B =>
    refine mk 109 (oops+1) _ H w9 (by omega) (by omega) fun e=>?_;refine ⟨mk 44 words _ _ hU h1.1 h1.2 fun e2=>?_,mk 109 (oops+1) _ _ w9 (by omega) (by omega) fun e2=>?_⟩
    ·refine mk 109 (oops+1) _ _ w9 (by omega) (by omega) fun e3=>?_;exact fin _ _ _ _ _ (((Fr.refl _ _).more).more.more) ((dN.new _ _ _).push _) (((dN.new _ _ _).push _).push _) (dN.new _ _ _) (by (try simp only [RA]);omega) (by (try simp only [RA]);omega) (by (try simp only [RA]);omega) (by (try simp only [RA]);omega) (by (try simp only [RA]);omega) (by (try simp only [RA]);omega)
    ·refine mk 44 words _ _ hU h1.1 h1.2 fun e3=>?_;exact fin _ _ _ _ _ (((Fr.refl _ _).more).more.more) (dN.new _ _ _) (((dN.new _ _ _).push _).push _) ((dN.new _ _ _).push _) (by (try simp only [RA]);omega) (by (try simp only [RA]);omega) (by (try simp only [RA]);omega) (by (try simp only [RA]);omega) (by (try simp only [RA]);omega) (by (try simp only [RA]);omega)
   case C =>
    refine mk 109 (oops+1) _ H w9 (by omega) (by omega) fun e=>?_;refine ⟨mk 44 words _ _ hU h1.1 h1.2 fun e2=>?_,mk 109 (oops+1) _ _ w9 (by omega) (by omega) fun e2=>?_⟩
    ·refine mk 109 (oops+1) _ _ w9 (by omega) (by omega) fun e3=>?_;exact fin _ _ _ _ _ (((Fr.refl _ _).more).more.more) ((dN.new _ _ _).push _) (dN.new _ _ _) (((dN.new _ _ _).push _).push _) (by (try simp only [RA]);omega) (by (try simp only [RA]);omega) (by (try simp only [RA]);omega) (by (try simp only [RA]);omega) (by (try simp only [RA]);omega) (by (try simp only [RA]);omega)
    ·refine mk 44 words _ _ hU h1.1 h1.2 fun e3=>?_;exact fin _ _ _ _ _ (((Fr.refl _ _).more).more.more) (dN.new _ _ _) ((dN.new _ _ _).push _) (((dN.new _ _ _).push _).push _) (by (try simp only [RA]);omega) (by (try simp only [RA]);omega) (by (try simp only [RA]);omega) (by (try simp only [RA]);omega) (by (try simp only [RA]);omega) (by (try simp only [RA]);omega)
   case D =>
    rintro w H1 ⟨hb,wb,tb,bb,rfl,hf,g1,g2,g3,g4,hr⟩ _;refine ⟨_,rfl,?_⟩;simp only [af,Rs,Rh,Rf,Ri,aK,aC,aU,aW,aL,aX,aR,aD,aT,aS,aJ,aV,Ru,Rx,Ry,ak,Rm,Rn,av,aq,aF,Rq,Rp,bq,bw,hr.c1];refine ⟨fun w H'=>∃ i:Int,w=[ac i]∧0<=i∧i<=oops+1∧Fr [] H H'∧Raw H' hb wb tb bb words.toNat (oops+1).toNat ⟨fun _=>0,fun k=>if k<i then -1 else 0,fun _=>0,0,0,1,0,0,0⟩,
     fun w _=>match w with
      | [.int _ i]=>(oops+1-i).toNat
      | _=>0,⟨0,rfl,by omega,by omega,hf,?_⟩,?_⟩
    ·refine ⟨hr.hd,hr.mw,hr.mt.congr fun i h0 _=>?_,hr.mb,hr.d⟩;show (0:Int)=if i<0 then -1 else 0;rw [Re (by omega)]
    ·rintro w H2 ⟨i,rfl,Fa,IJ,g9,Eh⟩ _;refine ⟨i,rfl,?_⟩;split
     ·rename_i hi;simp only [af,Rs,Rh,Rf,Ri,aK,aC,aU,aW,aL,aX,aR,aD,aT,aS,aJ,aV,Ru,Rx,Ry,ak,Rm,Rn,av,aq,aF,Rq,Rp,bq,bw,Eh.c1];rw [ai (n:=i+1) (by omega) (by omega)];have xB:=Eh.setT (i:=i) Fa (-1);refine ⟨by omega,by omega,Eh.mt.wr Fa (by omega),⟨i+1,rfl,by omega,by omega,?_,?_⟩,by simp;omega⟩
      ·exact ⟨by rw [d6];exact g9.1,fun b er hn=>by rw [cV (by simp;omega)];exact g9.2 b er hn⟩
      ·refine ⟨xB.hd,xB.mw,xB.mt.congr fun j h0 _=>?_,xB.mb,xB.d⟩;show upd (fun k=>if k<i then -1 else 0) i (-1) j=if j<i+1 then -1 else 0;unfold upd;by_cases hj:j=i
       ·rw [Rj hj,Rj (by omega)]
       ·rw [Re hj];show (if j<i then (-1:Int) else 0)=_;by_cases C7:j<i
        ·rw [Rj C7,Rj (by omega)]
        ·rw [Re C7,Re (by omega)]
     ·rename_i hi;have Fv:i=oops+1:=by omega
      subst Fv;have hw:=uA h1.1 h1.2 h2.1 h2.2;refine h (by omega) hb [hb,wb,tb,bb] H2 ⟨wb,tb,bb,_,_,_,_,rfl,Eh.phs (hk.fr g9 (by simp)) hw ?_ rfl rfl rfl rfl rfl rfl rfl⟩ g9 (by simp;omega);refine { tab:=fun k h0 h1=>?_,bor:=by simp [gz],cls:=by simp [gz],shp:=by simp [gz],wrd:=by simp [gz],byt:=by simp [gz],byr:=by simp [gz],low1:=by simp,low2:=by simp [gz];omega,low3:=fun k h0 h1=>by simp at h1;omega }
      have:k<=oops:=h1;show (if k<oops+1 then (-1:Int) else 0)=_;rw [Rj (by omega)];rfl
  ·simp only [af,Rs,Rh,Rf,Ri,aK,aC,aU,aW,aL,aX,aR,aD,aT,aS,aJ,aV,Ru,Rx,Ry,ak,Rm,Rn,av,aq,aF,Rq,Rp,bq,bw,h2,decide_false];exact l8 (by omega)
 ·simp only [af,Rs,Rh,Rf,Ri,aK,aC,aU,aW,aL,aX,aR,aD,aT,aS,aJ,aV,Ru,Rx,Ry,ak,Rm,Rn,av,aq,aF,Rq,Rp,bq,bw,h1,decide_false];exact l8 (by omega)
theorem BL (hR:PHs H hb wb tb bb W T B low r) (h:∀ a l c F H',bZ 1 H' a l c (au r.all) F->Fr [] H H'->(∀ b∈F,H.size<=b)->F≠[]->Q (.slice a l c) H'):ag PP 216 #[Cv hb] Q H:=by
 apply xR;dsimp only [bf,bK,ah,aZ,aM,aO,bl,ac,bm,dq,ax,bt,ao,am,bg,bE,az,aI];have IN:=hR.wf.o0;have C3:=hR.wf.o1;have w9:aY PP 109=some (1,8,some (ac 0)):=by kernel_rfl
 refine lO hR ⟨_,rfl,?_⟩;simp only [af,Rs,Rh,Rf,Ri,aK,aC,aU,aW,aL,aX,aR,aD,aT,aS,aJ,aV,Ru,Rx,Ry,ak,Rm,Rn,av,aq,aF,Rq,Rp,bq,bw,hR.c3];have hcount:(r.objs.length:Int)<=1048576:=by
  have h1:=ee hR.wf.objs;have h2:=bX hR.wf.objs hR.wf.w0;have h3:=hR.wf.w1;omega
 refine ef w9 rfl (Sc _) (by omega) (by omega) (by decide) fun e=>?_;have q9:Fr [] H (H.push (.cells (Array.replicate (r.objs.length:Int).toNat (ac 0)) e)):=Fr.push _ _ _;have l9:aj (H.push (.cells (Array.replicate (r.objs.length:Int).toNat (ac 0)) e)) ⟨hb,1,none⟩=some (.slice (some ⟨tb,0,none⟩) (r.oops+1).toNat (r.oops+1).toNat):=(dc hR.hd.lt).trans hR.c1;simp only [af,Rs,Rh,Rf,Ri,aK,aC,aU,aW,aL,aX,aR,aD,aT,aS,aJ,aV,Ru,Rx,Ry,ak,Rm,Rn,av,aq,aF,Rq,Rp,bq,bw,l9];refine ⟨fun w H'=>∃ a l c F,∃ i:Int,w=[.slice a l c,ac i]∧0<=i∧i<=r.oops+1∧bZ 1 H' a l c (au (r.upto i.toNat)) F∧Fr [] H H'∧(∀ b∈F,H.size<=b)∧F≠[],fun w _=>match w with
  | [_,.int _ i]=>(r.oops+1-i).toNat
  | _=>0,⟨_,_,_,_,0,rfl,by omega,by omega,bZ.newMem _ _ _,q9,by simp,by simp⟩,?_⟩
 rintro w H1 ⟨a,l,c,F,i,rfl,Fa,IJ,ho,hf,hF,c9⟩ _;refine ⟨a,l,c,i,rfl,?_⟩;have LN:=hR.mt.fr hf (by simp);have hl:=ho.len;simp only [au,RZ] at hl;have Mj:=r.upto_len i.toNat;split
 ·rename_i hi;simp only [af,Rs,Rh,Rf,Ri,aK,aC,aU,aW,aL,aX,aR,aD,aT,aS,aJ,aV,Ru,Rx,Ry,ak,Rm,Rn,av,aq,aF,Rq,Rp,bq,bw,LN.cell Fa (by omega)];rw [ai (n:=i+1) (by omega) (by omega)];have ht:=hR.sim.tab i Fa (by omega);have GM:=r.upto_succ i.toNat;have ei:(i.toNat:Int)=i:=So Fa;have e1:(i+1).toNat=i.toNat+1:=by omega
  rw [ei] at GM;refine ⟨by omega,by omega,?_⟩;split
  ·rename_i hp;have hs:(aG r.objs i).isSome=true:=by
    cases ho:aG r.objs i with
    | none=>rw [ht,ho] at hp;simp at hp
    | some o=>rfl
   refine bD w9 rfl (by kernel_rfl) ho rfl (by simp [dw]) (by omega) (by decide) (by decide) fun a' c' F' H2 h1 h2 h3=>⟨_,_,_,rfl,?_⟩;have p5:=Up.fresh hf h2 hF;refine ⟨⟨_,_,_,F',i+1,rfl,by omega,by omega,?_,p5.1,p5.2,fun e=>by subst e;rcases h1.2.2 with ⟨_,hc,_⟩ | ⟨b,cs,_,Pp,_⟩;(have:=h1.2.1;omega);cases Pp⟩,by simp;omega⟩;rw [e1,GM,Rj hs,bJ];exact h1
  ·rename_i hp;have hs:¬ (aG r.objs i).isSome=true:=by
    cases ho:aG r.objs i with
    | none=>simp
    | some o =>
     rw [ht,ho] at hp;exact absurd (hR.in_ (aN ho).1).1 hp
   refine ⟨⟨_,_,_,F,i+1,rfl,by omega,by omega,?_,hf,hF,c9⟩,by simp;omega⟩;rw [e1,GM,Re hs,SN];exact ho
 ·rename_i hi;have e:i=r.oops+1:=by omega
  subst e;exact h a l c F H1 ho hf hF c9
end
section
variable {H:ae}{hb wb tb bb nw nt:Nat}{p:PV}{W T B:Int->Int}{low:Int}{r:RH}{Q:QT}
theorem zg (hR:Raw H hb wb tb bb nw nt p){k:Int} (h0:0<=k) (h1:k<nt) (h2:0<=p.T k) (h3:p.T k<nw) (h4:0<=p.count) (h5:p.count<=1000000000)
  (h:∀ H',Raw H' hb wb tb bb nw nt { p with W:=upd p.W (p.T k) 0,T:=upd p.T k (-1),low:=if k<p.low then k else p.low,count:=p.count-1 }->Fr [hb,wb,tb,bb] H H'->Q (.tuple #[]) H'):ag PP 199 #[Cv hb,ac k] Q H:=by
 apply vB;dsimp only [aM,aO,bl,ac,bm,ao,bi,bn,aI];have e1:IntKind.wrap .i64 (p.count-1)=p.count-1:=ai (by omega) (by omega);have r1:=hR.setW (i:=p.T k) h2 0;have r2:=r1.setT (i:=k) h0 (-1);have r3:=r2.set5 (if k<p.low then k else p.low);have r4:=r3.set3 (p.count-1);simp only [af,Rs,Rh,Rf,Ri,aK,aC,aU,aW,aL,aX,aR,aD,aT,aS,aJ,aV,Ru,Rx,Ry,ak,Rm,Rn,av,aq,aF,Rq,Rp,bq,bw,hR.c0,hR.c1,hR.tabc h0 h1,r1.c1,r2.c5,r3.c3,e1];refine ⟨h0,h1,h2,h3,hR.mw.wr h2 h3,h0,h1,r1.mt.wr h0 h1,r2.wrh (by decide),r3.wrh (by decide),h _ r4 ?_⟩;exact (((Fr.refl _ _).step (by simp)).step (by simp)).step (by simp) |>.step (by simp)
theorem vS (hw:WFH r) (hs:SimH W T B low r) (keep:RO->Bool):KeepSt W r.words r.oops keep [] r.objs W T low :=
 { wf:=by simpa using hw.objs,regK:=by simp [bS],regR:=fun _ _ _ _ _=>rfl,tab:=fun k h0 h1=>by rw [hs.tab k h0 h1];rfl,low1:=hs.low1,low2:=hs.low2,low3:=fun k h0 h1=>hs.low3 k h0 h1 }
theorem wG (hs:SimH W T B low r){keep:RO->Bool}{W' T':Int->Int}{low' tn:Int} (h:KeepSt W r.words r.oops keep r.objs [] W' T' low') :
  SimH W' T' B low' { r with objs:=bS 0 (r.objs.filter keep),turn:=tn }:=by
 have key:∀ x∈bS 0 (r.objs.filter keep),∃ o∈r.objs,x.oop=o.oop∧x.fmt=o.fmt∧x.born=o.born∧x.cls=o.cls∧x.slots=o.slots∧x.len=o.len∧∀ i,0<=i->i<o.len->W' (x.place+i)=W (o.place+i):=by
  intro x hx;obtain ⟨o,h1,h2,h3⟩:=h.regK x hx;exact ⟨o,h1,by rw [h2],by rw [h2],by rw [h2],by rw [h2],by rw [h2],by rw [h2];rfl,h3⟩
 have e:bS 0 (r.objs.filter keep)++[]=bS 0 (r.objs.filter keep):=SN _;refine { tab:=fun k h0 h1=>by have:=h.tab k h0 h1;rw [e] at this;exact this,bor:=fun x hx=>?_,cls:=fun x hx=>?_,shp:=fun x hx=>?_,wrd:=fun x hx hf j hj=>?_,byt:=fun x hx hf j hj=>?_,byr:=fun x hx hf j h0 h1=>?_,low1:=h.low1,low2:=h.low2,low3:=fun k h0 h1=>by have:=h.low3 k h0 h1;rw [e] at this;exact this }
 all_goals obtain ⟨o,ho,k1,k2,k3,k4,k5,k6,k7⟩:=key x hx
 ·rw [k1,k3];exact hs.bor o ho
 ·have:=k7 0 (Sc _) (by have:=o.len_pos;omega);rw [Int.add_zero,Int.add_zero] at this;rw [this,k4];exact hs.cls o ho
 ·rw [k7 1 (by omega) (by have:=o.len_pos;omega),k5,k2];exact hs.shp o ho
 ·have D4:o.len=2+(o.slots.length:Int):=by unfold RO.len lenOf;rw [Re (by omega)]
  rw [k5] at hj ⊢;rw [TF,k7 (2+(j:Int)) (by omega) (by omega),←TF];exact hs.wrd o ho (k2 ▸ hf) j hj
 ·have pe:o.fmt=1:=k2 ▸ hf;have D4:o.len=2+((o.slots.length:Int)+3) / 4:=by unfold RO.len lenOf;rw [Rj pe]
  rw [k5] at hj ⊢;rw [TF,k7 (2+((j / 4:Nat):Int)) (by omega) (by omega),←TF];exact hs.byt o ho pe j hj
 ·have pe:o.fmt=1:=k2 ▸ hf
  have:=k7 (j-x.place) (by omega) (by omega);rw [show x.place+(j-x.place)=j by omega] at this;rw [this];exact hs.byr o ho pe _ (by omega) (by omega)
theorem uM (hR:Raw H hb wb tb bb nw nt p){pl n f:Int} (h0:0<=pl) (h1:pl+1<nw) (hw:nw<=1048576) (he:p.W (pl+1)=2*n+f) (hf:f=0∨f=1) (h:Q (.tuple #[ac n,ac f]) H):ag PP 113 #[Cv hb,ac pl] Q H:=by
 apply sm;dsimp only [bk,aM,aO,bl,bm,ao,aI];rw [ai (n:=pl+1) (by omega) (by omega)];simp only [af,Rs,Rh,Rf,Ri,aK,aC,aU,aW,aL,aX,aR,aD,aT,aS,aJ,aV,Ru,Rx,Ry,ak,Rm,Rn,av,aq,aF,Rq,Rp,bq,bw,hR.c0,hR.word (i:=pl+1) (by omega) (by omega)];refine ⟨by omega,by omega,?_⟩;rw [he,Ap,yH];have e1:(2*n+f) / 2=n:=by omega
 have e2:(2*n+f) % 2=f:=by omega
 rw [e1,e2];exact h
theorem pT (hR:Raw H hb wb tb bb nw nt p){pl n f:Int} (h0:0<=pl) (h1:pl+1<nw) (hw:nw<=1048576) (he:p.W (pl+1)=2*n+f) (hf:f=0∨f=1) (hn:0<=n) (Dl:n<=8192) (h:Q (ac (lenOf n f)) H):ag PP 200 #[Cv hb,ac pl] Q H:=by
 apply wK;dsimp only [aH,aA,ac,am];exact uM hR h0 h1 hw he hf ⟨_,_,rfl,jH hn (by omega) ⟨_,rfl,h⟩⟩
def oM (hb:Nat) (r:RH):Prop:=∀ {H:ae}{wb tb bb:Nat}{W T B:Int->Int}{low:Int}{Q:QT},PHs H hb wb tb bb W T B low r->(∀ a l c F H',bZ 1 H' a l c (au (r.objs.map (·.oop))) F->Fr [] H H'->(∀ b∈F,H.size<=b)->Q (.slice a l c) H')->ag PP 198 #[Cv hb] Q H
theorem Ai {F:aB} (hR:dd H hb F r) (Mk:oM hb r){a2:Option Addr}{l2 c2:Nat}{ks:List Int} (hk:Rd 1 H a2 l2 (au ks)) (hd:∀ p,a2=some p->p.block∉F) (C5:l2<=1099511627776)
  (h:∀ H',dd H' hb F (r.keep ks).2->Fr F H H'->Q (jQ (r.keep ks).1) H'):ag PP 167 #[Cv hb,.slice a2 l2 c2] Q H:=by
 have p4:=hR;obtain ⟨wb,tb,bb,W,T,B,low,rfl,hR⟩:=hR;apply yj;dsimp only [mJ,bK,aH,cG,ah,aA,eH,aZ,aM,aO,bl,ac,bm,ce,yw,ax,bt,ao,am,sy,bE,az,bi,bn,aI];have ll:=hR.wf;have Pq:=ll.w0;have CW:=ll.w1;have IN:=ll.o0;have C3:=ll.o1;have c9:=hR.raw.ne;have GL:=bX ll.objs ll.w0;have FG:=ee ll.objs;have w9:aY PP 109=some (1,8,some (ac 0)):=by kernel_rfl
 have hU:aY PP 44=some (1,8,some (ac 0)):=by kernel_rfl
 have DI:l2=ks.length:=by have:=hk.1;simpa [au] using this.symm
 refine lO hR ⟨_,rfl,?_⟩;simp only [af,Rs,Rh,Rf,Ri,aK,aC,aU,aW,aL,aX,aR,aD,aT,aS,aJ,aV,Ru,Rx,Ry,ak,Rm,Rn,av,aq,aF,Rq,Rp,bq,bw,hR.c1];refine ef w9 rfl (by omega) (Sc _) (by omega) (by decide) fun e=>?_;simp only [Ro];have Jt:∀ b∈[hb,wb,tb,bb],b<H.size:=p4.lt;have Ho:H.size∉[hb,wb,tb,bb]:=fun hm=>absurd (Jt _ hm) (by omega);simp only [af,Rs,Rh,Rf,Ri,aK,aC,aU,aW,aL,aX,aR,aD,aT,aS,aJ,aV,Ru,Rx,Ry,ak,Rm,Rn,av,aq,aF,Rq,Rp,bq,bw];refine ⟨fun w H'=>∃ i:Int,w=[ac i]∧0<=i∧i<=l2∧PHs H' hb wb tb bb W T B low r∧Fr [] H H'∧dN H' H.size (r.oops+1).toNat (fun k=>if k∈ks.take i.toNat then 1 else 0)∧∀ k∈ks.take i.toNat,aG r.objs k≠none,fun w _=>match w with
  | [.int _ i]=>(l2-i).toNat
  | _=>0,⟨0,rfl,by omega,by omega,?_,Fr.push _ _ _,?_,by simp⟩,?_⟩
 ·obtain ⟨wb',tb',bb',W',T',B',low',e1,h1⟩:=p4.fr (Fr.push [] H (.cells (Array.replicate (r.oops+1).toNat (ac 0)) e)) (bL.nil_right _) (by simp);exact { hR with hd:=hR.hd.push _,mw:=hR.mw.push _,mt:=hR.mt.push _,mb:=hR.mb.push _,kinds:=h1.kinds }
 ·exact (dN.new _ _ _).congr fun k _ _=>by simp
 rintro w H1 ⟨i,rfl,Fa,IJ,q7,cp,DA,be⟩ _;refine ⟨i,rfl,?_⟩;split
 ·rename_i hi;have Dw:=hk.fr' cp (by simp);obtain ⟨pa,GB,al,an⟩:=Dw.int Fa (by omega);subst GB;simp only [af,Rs,Rh,Rf,Ri,aK,aC,aU,aW,aL,aX,aR,aD,aT,aS,aJ,aV,Ru,Rx,Ry,ak,Rm,Rn,av,aq,aF,Rq,Rp,bq,bw,al];refine ⟨Fa,hi,oW q7 ?_⟩;have lp:ks.take (i+1).toNat=ks.take i.toNat++[ks.getD i.toNat 0]:=by
   rw [show (i+1).toNat=i.toNat+1 by omega,RP];simp [an]
  unfold m7;cases ho:aG r.objs (ks.getD i.toNat 0) with
  | none =>
   refine ⟨_,_,rfl,?_⟩;rw [Rj (by decide)];have hmem:ks.getD i.toNat 0∈ks:=by
    have:ks.getD i.toNat 0=ks[i.toNat]:=by simp [an]
    rw [this];exact RG an
   have GN:r.keep ks=((0,0,20),r):=by unfold RH.keep;rw [Rj ⟨_,hmem,ho⟩]
   rw [GN] at h;exact h H1 ⟨wb,tb,bb,W,T,B,low,rfl,q7⟩ cp.of_nil
  | some o =>
   have Lc:=ll.objs.good o (aN ho).1;have C8:=(aN ho).2;have IP:=Lc.oop1;have Ol:=Lc.oop2;rw [C8] at IP Ol;refine ⟨_,_,rfl,?_⟩;simp only [af,Rs,Rh,Rf,Ri,aK,aC,aU,aW,aL,aX,aR,aD,aT,aS,aJ,aV,Ru,Rx,Ry,ak,Rm,Rn,av,aq,aF,Rq,Rp,bq,bw,ne_eq,not_true_eq_false,if_false];rw [ai (n:=i+1) (by omega) (by omega)];refine ⟨by omega,by omega,DA.wr (by omega) (by omega),⟨i+1,rfl,by omega,by omega,?_,?_,?_,?_⟩,by simp;omega⟩
   ·have Ju:Fr [H.size] H1 (bc H1 ⟨H.size,(ks.getD i.toNat 0).toNat,none⟩ (ac 1)):=Fr.set (by simp);have Ld:∀ b∈[hb,wb,tb,bb],b∉[H.size]:=fun b er hn=>by simp at hn;subst hn;exact Ho er
    have Pr:aP<H.size:=by
     have h0:=hR.kinds.1;unfold aj at h0;rcases Sf aP H.size with h1 | h1
     ·exact h1
     ·simp only [Sd h1] at h0;cases h0
    exact { q7 with hd:=q7.hd.fr Ju (Ld _ (by simp)),mw:=q7.mw.fr Ju (Ld _ (by simp)),mt:=q7.mt.fr Ju (Ld _ (by simp)),mb:=q7.mb.fr Ju (Ld _ (by simp)),kinds:=q7.kinds.fr Ju (by simp;omega) }
   ·exact ⟨by rw [d6];exact cp.1,fun b er hn=>by rw [cV (by simp;omega)];exact cp.2 b er hn⟩
   ·refine (DA.set (i:=ks.getD i.toNat 0) (by omega) 1).congr fun k _ _=>?_;unfold upd;rw [lp];by_cases GO:k=ks.getD i.toNat 0
    ·rw [Rj GO,Rj (by simp [GO])]
    ·rw [Re GO];simp only [Rl,Rg,GO,Sx]
   ·rw [lp];intro k Er;rcases Rl.1 Er with Er | Er
    ·exact be k Er
    ·simp only [Rg] at Er;rw [Er,ho];simp
 ·rename_i hi;have p8:i.toNat=ks.length:=by omega
  have Dp:ks.take i.toNat=ks:=by rw [p8,Sl]
  rw [Dp] at DA be;have GN:r.keep ks=(((r.objs.length:Int)-((r.keepO ks).length:Int),bv r.objs-bv (r.keepO ks),0),{ r with objs:=r.keepO ks,turn:=IntKind.wrap .i64 (r.turn+1) }):=by
   unfold RH.keep;rw [Re];rintro ⟨k,Dw,EF⟩;exact be k Dw EF
  have DP:=eu ll ks;rw [GN] at h DP;simp only [af,Rs,Rh,Rf,Ri,aK,aC,aU,aW,aL,aX,aR,aD,aT,aS,aJ,aV,Ru,Rx,Ry,ak,Rm,Rn,av,aq,aF,Rq,Rp,bq,bw,q7.c3,q7.c4];refine Mk q7 fun ab lb cb Fb H2 C0 g9 Om=>?_;simp only [af,Rs,Rh,Rf,Ri,aK,aC,aU,aW,aL,aX,aR,aD,aT,aS,aJ,aV,Ru,Rx,Ry,ak,Rm,Rn,av,aq,aF,Rq,Rp,bq,bw];have hkeepf:∃ kf:RO->Bool,kf=fun o=>decide (o.oop∈ks):=⟨_,rfl⟩;obtain ⟨kf,Ic⟩:=hkeepf;have Dk:r.keepO ks=bS 0 (r.objs.filter kf):=by rw [Ic];rfl
  have Ml:lb=r.objs.length:=by have:=C0.1;simpa [au] using this.symm
  have w6:Fr [] H H2:=cp.trans g9;have Mm:∀ b∈Fb,b∉[hb,wb,tb,bb]:=fun b er hn=>absurd (Jt b hn) (by have:=Om b er;have:=cp.1;omega);have hsbF:H.size∉Fb:=fun hm=>by have:=Om _ hm;have:=DA.lt;omega
  have b9:∀ {H'},Fr [hb,wb,tb,bb] H2 H'->Fr [hb,wb,tb,bb] H H':=fun hf=>(w6.of_nil).trans hf;refine ⟨fun w H'=>∃(j:Nat) (W' T':Int->Int) (low':Int),w=[ac (bz 0 ((r.objs.take j).filter kf)),ac j]∧j<=r.objs.length∧KeepSt W r.words r.oops kf (r.objs.take j) (r.objs.drop j) W' T' low' ∧
    Raw H' hb wb tb bb r.words.toNat (r.oops+1).toNat ⟨W',T',B,((bS 0 ((r.objs.take j).filter kf)).length:Int)+((r.objs.length-j:Nat):Int),bv r.objs,low',r.mark,r.born,r.turn⟩∧Fr [hb,wb,tb,bb] H2 H',fun w _=>match w with
   | [_,.int _ i]=>(r.objs.length-i).toNat
   | _=>0,⟨0,W,T,low,by simp [bz],by omega,?_,?_,Fr.refl _ _⟩,?_⟩
  ·have:=vS ll hR.sim kf;simpa using this
  ·have Dg:=q7.raw.keep g9 (bL.nil_right _);simpa [bS] using Dg
  rintro w H3 ⟨j,W',T',low',rfl,hj,lc,xB,ly⟩ _;refine ⟨_,_,rfl,?_⟩;have Mn:=C0.fr ly Mm;have K0:dN H3 H.size (r.oops+1).toNat (fun k=>if k∈ks then 1 else 0):=(DA.fr g9 (by simp)).fr ly Ho;split
  ·rename_i Dx;have Dx:j<r.objs.length:=by omega
   obtain ⟨pa,GB,al,an⟩:=(Mn.rd).int (i:=(j:Int)) (by omega) (by omega);have ho:r.objs.drop j=r.objs[j] :: r.objs.drop (j+1):=Sj Dx;have Fx:r.objs[j]∈r.objs:=RG Dx;have Mo:(r.objs.map (·.oop)).getD (j:Int).toNat 0=r.objs[j].oop:=by simp [Dx]
   rw [Mo] at al;have lp:r.objs.take (j+1)=r.objs.take j++[r.objs[j]]:=by rw [RP];simp [Dx]
   generalize hoe:r.objs[j]=o at *;have hg:=ll.objs.good o Fx;have IP:=hg.oop1;have Ol:=hg.oop2;have Mp:=hg.pl;have hg4:=hg.fits;have hg5:=o.len_pos;have hg6:=hg.many;rw [ho] at lc;obtain ⟨e1,e2,e3,e4⟩:=lc.ends;have hT:T' o.oop=o.place:=by
    rw [lc.tab o.oop (by omega) (by omega),fJ,gM,Rj rfl];have hn:aG (bS 0 ((r.objs.take j).filter kf)) o.oop=none:=db.2 fun x hx=>(e3 x hx).2.2;rw [hn];rfl
   have Ps:W' (o.place+1)=2*(o.slots.length:Int)+o.fmt:=by
    rw [lc.regR o (by simp) 1 (by omega) (by omega)];exact hR.sim.shp o Fx
   subst GB;have ej:IntKind.wrap .i64 ((j:Int)+1)=((j+1:Nat):Int):=by rw [ai (by omega) (by omega)];omega
   simp only [af,Rs,Rh,Rf,Ri,aK,aC,aU,aW,aL,aX,aR,aD,aT,aS,aJ,aV,Ru,Rx,Ry,ak,Rm,Rn,av,aq,aF,Rq,Rp,bq,bw,al,xB.c1,xB.tabc (i:=o.oop) (by omega) (by omega),K0.cell (i:=o.oop) (by omega) (by omega),hT,ej];refine ⟨by omega,by omega,by omega,by omega,by omega,by omega,?_⟩;by_cases GO:o.oop∈ks
   ·have l0:kf o=true:=by rw [Ic];simpa using GO
    simp only [GO,if_true];rw [Re (by decide)];have b8:o.len=lenOf o.slots.length o.fmt:=rfl;refine pT xB Mp (by omega) (by omega) Ps hg.fmt (by omega) (by omega) ?_;rw [←b8];have e5:IntKind.wrap .i64 (o.place+o.len)=o.place+o.len:=ai (by omega) (by omega);have e6:IntKind.wrap .i64 (bz 0 ((r.objs.take j).filter kf)+o.len)=bz 0 ((r.objs.take j).filter kf)+o.len:=ai (by omega) (by omega);simp only [af,Rs,Rh,Rf,Ri,aK,aC,aU,aW,aL,aX,aR,aD,aT,aS,aJ,aV,Ru,Rx,Ry,ak,Rm,Rn,av,aq,aF,Rq,Rp,bq,bw,xB.c0,e5,e6];refine ⟨by omega,by omega,by omega,by omega,by omega,by omega,?_⟩;refine ql hU xB.mw e1 (by omega) (by omega) Mp (by omega) (by omega) (by omega) fun H4 HN E5 Ej=>?_;have Ep:Raw H4 hb wb tb bb r.words.toNat (r.oops+1).toNat ⟨fun i=>if bz 0 ((r.objs.take j).filter kf)<=i∧i<bz 0 ((r.objs.take j).filter kf)+(((o.place+o.len).toNat-o.place.toNat:Nat):Int) then W' (i-bz 0 ((r.objs.take j).filter kf)+o.place) else W' i,T',B,((bS 0 ((r.objs.take j).filter kf)).length:Int)+((r.objs.length-j:Nat):Int),bv r.objs,low',r.mark,r.born,r.turn⟩:=⟨xB.hd.of_eq (Ej _ c9.1.1),HN,xB.mt.of_eq (Ej _ c9.2.1.1.symm),xB.mb.of_eq (Ej _ c9.2.1.2.1.symm),xB.d⟩;have p3:Fr [hb,wb,tb,bb] H2 H4:=ly.trans ⟨by omega,fun b _ hn=>Ej b fun e=>hn (by simp [e])⟩;simp only [af,Rs,Rh,Rf,Ri,aK,aC,aU,aW,aL,aX,aR,aD,aT,aS,aJ,aV,Ru,Rx,Ry,ak,Rm,Rn,av,aq,aF,Rq,Rp,bq,bw,Ep.c1];have FF:=Ep.setT (i:=o.oop) (by omega) (bz 0 ((r.objs.take j).filter kf));have Ie:=lc.stay l0 (W':=fun i=>if bz 0 ((r.objs.take j).filter kf)<=i∧i<bz 0 ((r.objs.take j).filter kf)+(((o.place+o.len).toNat-o.place.toNat:Nat):Int) then W' (i-bz 0 ((r.objs.take j).filter kf)+o.place) else W' i) fun i=>by
     have:(((o.place+o.len).toNat-o.place.toNat:Nat):Int)=o.len:=by omega
     rw [this]
    have D9:(r.objs.take (j+1)).filter kf=(r.objs.take j).filter kf++[o]:=by rw [lp,SR];simp [l0]
    refine ⟨by omega,by omega,Ep.mt.wr (by omega) (by omega),⟨j+1,_,_,_,?_,by omega,by rw [lp];exact Ie,?_,p3.step (by simp)⟩,by simp;omega⟩
    ·rw [D9,eO]
    ·rw [D9,dl,Rz];have hc:((bS 0 ((r.objs.take j).filter kf)).length:Int)+((r.objs.length-j:Nat):Int)=((bS 0 ((r.objs.take j).filter kf)).length+([({ o with place:=bz 0 ((r.objs.take j).filter kf) }:RO)].length:Nat):Nat)+((r.objs.length-(j+1):Nat):Int):=by
      simp only [List.length_singleton];omega
     have:=FF;simp only [hc] at this;exact this
   ·have l0:kf o=false:=by rw [Ic];simpa using GO
    simp only [GO,if_false];rw [Rj trivial];have D9:(r.objs.take (j+1)).filter kf=(r.objs.take j).filter kf:=by rw [lp,SR];simp [l0]
    have Fz:((bS 0 ((r.objs.take j).filter kf)).length:Int)<=r.objs.length:=by
     rw [iM];have h1:=Ss kf (r.objs.take j);have h2:=List.length_take_le j r.objs;rw [R5] at h1;omega
    refine zg xB (by omega) (by omega) (by show 0<=T' o.oop;rw [hT];exact Mp) (by show T' o.oop<_;rw [hT];omega) (by simp only;omega) (by simp only;omega) fun H4 Ep p3=>?_;have Ie:=lc.drop l0;refine ⟨rfl,⟨j+1,_,_,_,by rw [D9],by omega,by rw [lp];exact Ie,?_,ly.trans p3⟩,by simp;omega⟩;rw [D9];have hc:((bS 0 ((r.objs.take j).filter kf)).length:Int)+((r.objs.length-j:Nat):Int)-1=((bS 0 ((r.objs.take j).filter kf)).length:Int)+((r.objs.length-(j+1):Nat):Int):=by omega
    have:=Ep;simp only [hc,hT] at this;exact this
  ·rename_i Dx;have Jv:j=r.objs.length:=by omega
   subst Jv;have IQ:r.objs.take r.objs.length=r.objs:=Sl;have Hl:r.objs.drop r.objs.length=[]:=Tr;rw [IQ,Hl] at lc;rw [IQ] at xB;rw [IQ];rw [←Dk] at xB;have Mq:bz 0 (r.objs.filter kf)=bv (r.keepO ks):=by rw [Dk,fL]
   rw [Mq];have Jw:=ls ll ks;have Pt:=bX Jw ll.w0;have hkc:=ee Jw;have CI:bv (r.keepO ks)<=bv r.objs:=by
    rcases Sg (r.keepO ks) with he | ⟨m,x,he⟩
    ·rw [he];simpa [bv] using GL.1
    ·simp only [Sr] at he;have hx:x∈r.keepO ks:=by rw [he];simp
     rw [Dk] at hx;obtain ⟨o,g1,g2,g3⟩:=lK _ 0 lc.wfd (fun o ho=>(lc.wfd.good o ho).pl) x hx;have Jb:x.len=o.len:=by rw [g2];rfl
     have:=jt ll.objs (Sb.1 g1).1;rw [he,cW];omega
   have DN:((r.keepO ks).length:Int)<=r.objs.length:=by
    rw [Dk,iM]
    have:=Ss kf r.objs;omega
   simp only [af,Rs,Rh,Rf,Ri,aK,aC,aU,aW,aL,aX,aR,aD,aT,aS,aJ,aV,Ru,Rx,Ry,ak,Rm,Rn,av,aq,aF,Rq,Rp,bq,bw,xB.c0,xB.c4];refine ⟨by omega,by omega,by omega,by omega,?_⟩;refine jO hU xB.mw (by omega) (by omega) fun H4 HN E5 Ej=>?_;have Ep:Raw H4 hb wb tb bb r.words.toNat (r.oops+1).toNat ⟨fun i=>if bv (r.keepO ks)<=i∧i<bv (r.keepO ks)+(((bv r.objs).toNat-(bv (r.keepO ks)).toNat:Nat):Int) then 0 else W' i,T',B,((r.keepO ks).length:Int)+((r.objs.length-r.objs.length:Nat):Int),bv r.objs,low',r.mark,r.born,r.turn⟩:=⟨xB.hd.of_eq (Ej _ c9.1.1),HN,xB.mt.of_eq (Ej _ c9.2.1.1.symm),xB.mb.of_eq (Ej _ c9.2.1.2.1.symm),xB.d⟩;have p3:Fr [hb,wb,tb,bb] H2 H4:=ly.trans ⟨by omega,fun b _ hn=>Ej b fun e=>hn (by simp [e])⟩;have FF:=Ep.set4 (bv (r.keepO ks));have On:=FF.set8 (IntKind.wrap .i64 (r.turn+1));simp only [af,Rs,Rh,Rf,Ri,aK,aC,aU,aW,aL,aX,aR,aD,aT,aS,aJ,aV,Ru,Rx,Ry,ak,Rm,Rn,av,aq,aF,Rq,Rp,bq,bw,FF.c8,On.c3];have e7:IntKind.wrap .i64 ((r.objs.length:Int)-(((r.keepO ks).length:Int)+((r.objs.length-r.objs.length:Nat):Int)))=(r.objs.length:Int)-((r.keepO ks).length:Int):=by rw [ai (by omega) (by omega)];omega
   have e8:IntKind.wrap .i64 (bv r.objs-bv (r.keepO ks))=bv r.objs-bv (r.keepO ks):=ai (by omega) (by omega);rw [e7,e8];have DQ:Fr [hb,wb,tb,bb] H (bc (bc H4 ⟨hb,4,none⟩ (ac (bv (r.keepO ks)))) ⟨hb,8,none⟩ (ac (IntKind.wrap .i64 (r.turn+1)))):=((b9 p3).step (by simp)).step (by simp);refine ⟨Ep.wrh (by decide),FF.wrh (by decide),h _ ⟨wb,tb,bb,_,_,_,_,rfl,On.phs (hR.kinds.fr DQ p4.gk) DP (r:={ r with objs:=r.keepO ks,turn:=IntKind.wrap .i64 (r.turn+1) }) ?_ rfl rfl (by simp) rfl rfl rfl rfl⟩ DQ⟩;have Mr:KeepSt W r.words r.oops kf r.objs [] (fun i=>if bv (r.keepO ks)<=i∧i<bv (r.keepO ks)+(((bv r.objs).toNat-(bv (r.keepO ks)).toNat:Nat):Int) then 0 else W' i) T' low' :=
    { wf:=lc.wf,regK:=fun x hx=>by
       obtain ⟨o,g1,g2,g3⟩:=lc.regK x hx;refine ⟨o,g1,g2,fun i h0 h1=>?_⟩;have De:x∈r.keepO ks:=by rw [Dk];exact hx
       have:=jt Jw De;have Jb:x.len=o.len:=by rw [g2];rfl
       rw [Re (by omega)];exact g3 i h0 h1
      regR:=fun y hy=>by cases hy
      tab:=lc.tab,low1:=lc.low1,low2:=lc.low2,low3:=lc.low3 }
   have:=wG hR.sim Mr (tn:=IntKind.wrap .i64 (r.turn+1));rw [←Dk] at this;exact this
end
end Go.Proofs.YtcfmnlapccgllaaGreatDoor
namespace Kw
section
open Go Go.Proofs Go.Shelf Go.Sort Go.RowKit Go.Lib
variable {P:Program}{α:Type} [Inhabited α]
theorem pQ {enc:α->Value}{w:World}{b:Nat}{d:Array α}{cs:Array Value}{t:TypeId}{fr:Nat × Nat} (hb:w.heap[b]?=some (.cells cs t fr)) :
  (putRow enc w b 0 d).heap[b]?=some (.cells (putCells enc 0 d cs) t fr)∧(putRow enc w b 0 d).heap.size=w.heap.size∧∀ b',b'≠b->(putRow enc w b 0 d).heap[b']?=w.heap[b']?:=by
 refine ⟨?_,by simp [putRow,mapBlock],fun b' hn=>?_⟩
 ·simp only [putRow,mapBlock,R1,if_true,hb,SM];rfl
 ·simp only [putRow,mapBlock,R1];rw [Re (S4 hn)]
theorem iA {enc:α->Value}{w:World}{b m:Nat}{d:Array α}{os:Array Obj}{cs:Array Value}{t:TypeId}{fr:Nat × Nat} (hb:w.heap[b]?=some (.cells cs t fr)) :
  (sortWorld enc w b 0 m d os).heap[b]?=some (.cells (putCells enc 0 d cs) t fr)∧Fr [b] w.heap (sortWorld enc w b 0 m d os).heap:=by
 have h:=pQ (enc:=enc) (w:=Sort.ahead w m) (d:=d) (b:=b) (cs:=cs) (t:=t) (fr:=fr) hb;have an:b<w.heap.size:=(Rt.1 hb).1;have hs:(Sort.ahead w m).heap.size=w.heap.size:=rfl;unfold sortWorld Sort.grow;refine ⟨?_,?_,fun b' er hn=>?_⟩
 ·simp only;rw [Sy (by rw [h.2.1];exact an)];exact h.1
 ·simp only [S8];rw [h.2.1];exact TO _ _
 ·simp only;rw [Sy (by rw [h.2.1];exact er)];exact h.2.2 b' (by simpa using hn)
theorem mz {ρ:Ren} (L:SlLaysF.n6 P ρ) (enc:α->Int) (cf:α->α->Int) (hO:SWO (ltOf cf)) (hT:∀ x y,(ltOf cf) x y=false->(ltOf cf) y x=false->x=y){g:Nat}{cb:Array Value}
  (hfn:∃ fn,P.funcs[ρ.f 6]?=some fn∧fn.body.isSome=true) (eg:∀ args w,(callFunc g args).run P w=.ok (.enter g args) w){b l c:Nat}{H:ae}{d:List α}{Q:Value->ae->Prop} (ho:bZ 1 H (some ⟨b,0,none⟩) l c (au (d.map enc)) [b]) (s5:l<4611686018427387904)
  (r0:∀ x y H',Fr [b] H H'->ag P g (#[.int .i64 (enc x),.int .i64 (enc y)]++cb) (fun v H''=>v=.int .i64 (cf x y)∧H''=H') H')
  (h:∀ H',bZ 1 H' (some ⟨b,0,none⟩) l c (au ((d.mergeSort fun x y=>!(ltOf cf) y x).map enc)) [b]->Fr [b] H H'->Q (.tuple #[]) H') :
  ag P (ρ.f 6) #[.slice (some ⟨b,0,none⟩) l c,.func (.func g) #[] cb] Q H:=by
 refine ⟨hfn,?_⟩;intro w hw;subst hw;rcases ho.2.2 with ⟨h0,_,_⟩ | ⟨b',cs,EH,_,⟨t,Fc⟩,C1,lp⟩
 ·cases h0
 cases EH;have hl:l=d.length:=by have:=ho.1;simpa [au] using this.symm
 subst hl;have Hl:(d.toArray).size=d.length:=by simp
 have CI:d.length<=c:=ho.2.1;have al:∀ j,j<d.length->cs[j]?=some (.int .i64 (enc d.toArray[j]!)):=by
  intro j hj;have h1:(cs.toList.take (d.length*1))[j]?=(au (d.map enc))[j]?:=by rw [lp]
  rw [SU (by omega)] at h1;rw [←SS,h1];simp [au,hj]
 have hH:Go.Sort.Holds (fun x=>Value.int .i64 (enc x)) w b 0 d.toArray:=by
  intro j hj;rw [Hl] at hj;refine ⟨?_,?_⟩
  ·rw [Rm,←al j hj];unfold World.cell?;simp only [Fc];rfl
  ·unfold World.frozen?;simp only [Fc];simp
 have Dm:=Any.slices_SortFunc L (fun x=>Value.int .i64 (enc x)) (fun _=>rfl) cf hO g cb b 0 c d.toArray w eg (fun m os dk hdk x y=>?_) hH (Rt.1 Fc).1 (by simpa using s5)
 ·rw [Hl] at Dm;refine Dm.mono ?_;rintro e w' ⟨rfl,d',n,os,hp,hs,rfl⟩;have Eg:d'=(d.mergeSort fun x y=>!(ltOf cf) y x).toArray:=by
   have h1:=sorted_unique_holds hO hT d.toArray d' (by simpa using hp) (by simpa using hs);rw [←h1]
  subst Eg;have hh:=iA (enc:=fun x=>Value.int .i64 (enc x)) (m:=n) (os:=os) (d:=(d.mergeSort fun x y=>!(ltOf cf) y x).toArray) Fc;refine ⟨_,rfl,h _ ⟨by simp [au,Sh],CI,.inr ⟨b,_,rfl,rfl,⟨t,hh.1⟩,by simp [putCells,C1],?_⟩⟩ hh.2,rfl,rfl,rfl,?_⟩
  ·apply SH
   ·simp [au,putCells,Sh];omega
   ·intro j h1 h2;have hj:j<d.length:=by simpa [au,Sh] using h2
    have C7:j<(d.mergeSort fun x y=>!(ltOf cf) y x).length:=by rw [Sh];exact hj
    simp only [Tm,au,SI,Array.getElem_toList,putCells,Array.getElem_mapIdx,RL,Rx,Rm,RX,Sh,hj,if_true,Tt]
    congr 2
    rw [List.getElem!_toArray,Tw,RB C7];rfl
  ·refine ⟨by show w.drawn<=w.drawn+n;omega,hh.2.1,fun b' ds er=>?_⟩;have cx:b'<w.heap.size:=(Rt.1 er).1;have c9:b'≠b:=fun e=>by subst e;rw [Fc] at er;cases er
   exact (hh.2.2 b' cx (by simpa using c9)).trans er
 ·have hh:=iA (enc:=fun x=>Value.int .i64 (enc x)) (m:=m) (os:=os) (d:=dk) Fc;refine ((r0 x y _ hh.2).2 _ rfl).mono ?_;rintro e w' ⟨v,rfl,⟨rfl,Hq⟩,h1,h2,h3,h4,h5⟩;refine ⟨rfl,w'.drawn-(sortWorld (fun x=>Value.int .i64 (enc x)) w b 0 m dk os).drawn,#[],?_⟩;rw [Sort.grow_empty];cases w';simp only at Hq h1 h2 h3 h4;subst Hq;subst h1;subst h2;subst h3;rename_i dr;have e:dr=(sortWorld (fun x=>Value.int .i64 (enc x)) w b 0 m dk os).drawn+(dr-(sortWorld (fun x=>Value.int .i64 (enc x)) w b 0 m dk os).drawn):=by omega
  unfold World.drewN;show World.mk _ _ _ _ _=World.mk _ _ _ _ _
  congr 1
end
end Kw
namespace Go.Proofs
open Go.Shelf
def Tryz.sortL_ren:Go.Shelf.Ren:=⟨fun | 6=>217 | 15=>215 | 14=>238 | 28=>237 | 29=>222 | 20=>251 | 21=>252 | 22=>253 | 23=>254 | 24=>255 | 25=>256 | 26=>257 | 27=>258 | 46=>260 | 47=>246 | 48=>247 | 49=>261 | 50=>262 | 57=>263 | n=>n,fun | 22=>109 | 24=>3 | 25=>170 | 3=>3 | 39=>179 | 0=>0 | 53=>256 | 55=>243 | 4=>4 | 46=>265 | 45=>264 | 50=>199 | 5=>5 | 9=>9 | 66=>273 | 70=>277 | 76=>286 | 77=>83 | n=>n,fun | n=>n⟩
theorem Tryz.sortL:Go.Proofs.SlLaysF.n6 Tryz.prog Tryz.sortL_ren:={
 mixed:=by kernel_rfl
 f6:=⟨Tryz.f217.name,by decide,Tryz.func217.trans (congrArg some (by kernel_rfl))⟩
 f14:=⟨Tryz.f238.name,by decide,Tryz.func238.trans (congrArg some (by kernel_rfl))⟩
 f15:=Tryz.func215.trans (congrArg some (by kernel_rfl))
 f20:=⟨Tryz.f251.name,by decide,Tryz.func251.trans (congrArg some (by kernel_rfl))⟩
 f21:=⟨Tryz.f252.name,by decide,Tryz.func252.trans (congrArg some (by kernel_rfl))⟩
 f22:=⟨Tryz.f253.name,by decide,Tryz.func253.trans (congrArg some (by kernel_rfl))⟩
 f23:=⟨Tryz.f254.name,by decide,Tryz.func254.trans (congrArg some (by kernel_rfl))⟩
 f24:=⟨Tryz.f255.name,by decide,Tryz.func255.trans (congrArg some (by kernel_rfl))⟩
 f25:=⟨Tryz.f256.name,by decide,Tryz.func256.trans (congrArg some (by kernel_rfl))⟩
 f26:=⟨Tryz.f257.name,by decide,Tryz.func257.trans (congrArg some (by kernel_rfl))⟩
 f27:=⟨Tryz.f258.name,by decide,Tryz.func258.trans (congrArg some (by kernel_rfl))⟩
 f28:=Tryz.func237.trans (congrArg some (by kernel_rfl))
 f29:=Tryz.func222.trans (congrArg some (by kernel_rfl))
 f46:=⟨Tryz.f260.name,by decide,Tryz.func260.trans (congrArg some (by kernel_rfl))⟩
 f47:=Tryz.func246.trans (congrArg some (by kernel_rfl))
 f48:=Tryz.func247.trans (congrArg some (by kernel_rfl))
 f49:=⟨Tryz.f261.name,by decide,Tryz.func261.trans (congrArg some (by kernel_rfl))⟩
 f50:=⟨Tryz.f262.name,by decide,Tryz.func262.trans (congrArg some (by kernel_rfl))⟩
 f57:=⟨Tryz.f263.name,by decide,Tryz.func263.trans (congrArg some (by kernel_rfl))⟩
 t0:=Tryz.underlying0
 a0:=Tryz.isAgg0
 z0:=Tryz.sizeOf0
 v0:=Tryz.zeroValue0
 t3:=Tryz.underlying3
 a3:=Tryz.isAgg3
 z3:=Tryz.sizeOf3
 v3:=Tryz.zeroValue3
 t4:=Tryz.underlying4
 a4:=Tryz.isAgg4
 z4:=Tryz.sizeOf4
 v4:=Tryz.zeroValue4
 t5:=Tryz.underlying5
 a5:=Tryz.isAgg5
 z5:=Tryz.sizeOf5
 v5:=Tryz.zeroValue5
 t9:=Tryz.underlying9
 a9:=Tryz.isAgg9
 z9:=Tryz.sizeOf9
 v9:=Tryz.zeroValue9
 t22:=Tryz.underlying109
 a22:=Tryz.isAgg109
 z22:=Tryz.sizeOf109
 v22:=Tryz.zeroValue109
 a24:=Tryz.isAgg3
 z24:=Tryz.sizeOf3
 t25:=Tryz.underlying170
 a25:=Tryz.isAgg170
 z25:=Tryz.sizeOf170
 v25:=Tryz.zeroValue170
 t39:=Tryz.underlying179
 a39:=Tryz.isAgg179
 z39:=Tryz.sizeOf179
 v39:=Tryz.zeroValue179
 t45:=Tryz.underlying264
 a45:=Tryz.isAgg264
 z45:=Tryz.sizeOf264
 v45:=Tryz.zeroValue264
 t46:=Tryz.underlying265
 a46:=Tryz.isAgg265
 z46:=Tryz.sizeOf265
 v46:=Tryz.zeroValue265
 t50:=Tryz.underlying199
 a50:=Tryz.isAgg199
 z50:=Tryz.sizeOf199
 v50:=Tryz.zeroValue199
 t53:=Tryz.underlying256
 a53:=Tryz.isAgg256
 z53:=Tryz.sizeOf256
 v53:=Tryz.zeroValue256
 t55:=Tryz.underlying243
 a55:=Tryz.isAgg243
 z55:=Tryz.sizeOf243
 v55:=Tryz.zeroValue243
 t66:=Tryz.underlying273
 a66:=Tryz.isAgg273
 z66:=Tryz.sizeOf273
 v66:=Tryz.zeroValue273
 t70:=Tryz.underlying277
 a70:=Tryz.isAgg277
 z70:=Tryz.sizeOf277
 v70:=Tryz.zeroValue277
 t76:=Tryz.underlying286
 a76:=Tryz.isAgg286
 z76:=Tryz.sizeOf286
 v76:=Tryz.zeroValue286
 t77:=Tryz.underlying83
 a77:=Tryz.isAgg83
 z77:=Tryz.sizeOf83
 v77:=Tryz.zeroValue83 }
def Tryz.sortI_ren:Go.Shelf.Ren:=⟨fun | 189=>197 | 125=>215 | 257=>214 | 128=>237 | 129=>222 | 294=>228 | 295=>229 | 296=>230 | 297=>231 | 298=>232 | 299=>233 | 216=>234 | 300=>235 | 301=>236 | 328=>245 | 329=>246 | 330=>247 | 331=>248 | 332=>249 | 215=>250 | 343=>259 | n=>n,fun | 28=>109 | 3=>3 | 46=>179 | 0=>0 | 51=>256 | 53=>243 | 4=>4 | 183=>265 | 182=>264 | 131=>199 | 5=>5 | 9=>9 | 218=>273 | 222=>277 | 228=>286 | 229=>83 | n=>n,fun | n=>n⟩
theorem Tryz.sortI:Go.Proofs.Lays.n189 Tryz.prog Tryz.sortI_ren:={
 mixed:=by kernel_rfl
 f125:=Tryz.func215.trans (congrArg some (by kernel_rfl))
 f128:=Tryz.func237.trans (congrArg some (by kernel_rfl))
 f129:=Tryz.func222.trans (congrArg some (by kernel_rfl))
 f189:=Tryz.func197.trans (congrArg some (by kernel_rfl))
 f215:=Tryz.func250.trans (congrArg some (by kernel_rfl))
 f216:=Tryz.func234.trans (congrArg some (by kernel_rfl))
 f257:=Tryz.func214.trans (congrArg some (by kernel_rfl))
 f294:=Tryz.func228.trans (congrArg some (by kernel_rfl))
 f295:=Tryz.func229.trans (congrArg some (by kernel_rfl))
 f296:=Tryz.func230.trans (congrArg some (by kernel_rfl))
 f297:=Tryz.func231.trans (congrArg some (by kernel_rfl))
 f298:=Tryz.func232.trans (congrArg some (by kernel_rfl))
 f299:=Tryz.func233.trans (congrArg some (by kernel_rfl))
 f300:=Tryz.func235.trans (congrArg some (by kernel_rfl))
 f301:=Tryz.func236.trans (congrArg some (by kernel_rfl))
 f328:=Tryz.func245.trans (congrArg some (by kernel_rfl))
 f329:=Tryz.func246.trans (congrArg some (by kernel_rfl))
 f330:=Tryz.func247.trans (congrArg some (by kernel_rfl))
 f331:=Tryz.func248.trans (congrArg some (by kernel_rfl))
 f332:=Tryz.func249.trans (congrArg some (by kernel_rfl))
 f343:=Tryz.func259.trans (congrArg some (by kernel_rfl))
 t0:=Tryz.underlying0
 a0:=Tryz.isAgg0
 z0:=Tryz.sizeOf0
 v0:=Tryz.zeroValue0
 t3:=Tryz.underlying3
 a3:=Tryz.isAgg3
 z3:=Tryz.sizeOf3
 v3:=Tryz.zeroValue3
 t4:=Tryz.underlying4
 a4:=Tryz.isAgg4
 z4:=Tryz.sizeOf4
 v4:=Tryz.zeroValue4
 t5:=Tryz.underlying5
 a5:=Tryz.isAgg5
 z5:=Tryz.sizeOf5
 v5:=Tryz.zeroValue5
 t9:=Tryz.underlying9
 a9:=Tryz.isAgg9
 z9:=Tryz.sizeOf9
 v9:=Tryz.zeroValue9
 t28:=Tryz.underlying109
 a28:=Tryz.isAgg109
 z28:=Tryz.sizeOf109
 v28:=Tryz.zeroValue109
 t46:=Tryz.underlying179
 a46:=Tryz.isAgg179
 z46:=Tryz.sizeOf179
 v46:=Tryz.zeroValue179
 t51:=Tryz.underlying256
 a51:=Tryz.isAgg256
 z51:=Tryz.sizeOf256
 v51:=Tryz.zeroValue256
 t53:=Tryz.underlying243
 a53:=Tryz.isAgg243
 z53:=Tryz.sizeOf243
 v53:=Tryz.zeroValue243
 t131:=Tryz.underlying199
 a131:=Tryz.isAgg199
 z131:=Tryz.sizeOf199
 v131:=Tryz.zeroValue199
 t182:=Tryz.underlying264
 a182:=Tryz.isAgg264
 z182:=Tryz.sizeOf264
 v182:=Tryz.zeroValue264
 t183:=Tryz.underlying265
 a183:=Tryz.isAgg265
 z183:=Tryz.sizeOf265
 v183:=Tryz.zeroValue265
 t218:=Tryz.underlying273
 a218:=Tryz.isAgg273
 z218:=Tryz.sizeOf273
 v218:=Tryz.zeroValue273
 t222:=Tryz.underlying277
 a222:=Tryz.isAgg277
 z222:=Tryz.sizeOf277
 v222:=Tryz.zeroValue277
 t228:=Tryz.underlying286
 a228:=Tryz.isAgg286
 z228:=Tryz.sizeOf286
 v228:=Tryz.zeroValue286
 t229:=Tryz.underlying83
 a229:=Tryz.isAgg83
 z229:=Tryz.sizeOf83
 v229:=Tryz.zeroValue83 }
end Go.Proofs
namespace Go.Proofs.YtcfmnlapccgllaaGreatDoor
section
open Kw Go.Sort
theorem vo {H:ae}{hb:Nat}{r:RH}{Q:QT}{F:aB} (Mk:oM hb r) (hR:dd H hb F r){a2:Option Addr}{l2 c2:Nat}{ks:List Int} (hk:Rd 1 H a2 l2 (au ks)) (hd:∀ p,a2=some p->p.block∉F) (C5:l2<=1099511627776)
  (h:∀ H',dd H' hb F (r.keep ks).2->Fr F H H'->Q (jQ (r.keep ks).1) H'):ag PP 167 #[Cv hb,.slice a2 l2 c2] Q H:=Ai hR Mk hk hd C5 h
def eN (r:RH) (k:Int):Int:=match aG r.objs k with
 | some o=>o.place
 | none=>-1
abbrev gt (r:RH):Type:={ k:Int // aG r.objs k≠none∨k=0 }
instance (r:RH):Inhabited (gt r):=⟨⟨0,.inr rfl⟩⟩
theorem pJ {r:RH} (hw:WFH r){x y:gt r} (h:eN r x.1=eN r y.1):x=y:=by
 have h0:∀ z:gt r,aG r.objs z.1=none->z.1=0:=fun z hz=>z.2.resolve_left fun hn=>hn hz;have hp:∀ z o,aG r.objs z=some o->o∈r.objs∧o.oop=z∧0<=o.place:=fun z o ho=>⟨(aN ho).1,(aN ho).2,(hw.objs.good o (aN ho).1).pl⟩;apply Subtype.ext;unfold eN at h;cases hx:aG r.objs x.1 with
 | none =>
  cases hy:aG r.objs y.1 with
  | none=>rw [h0 x hx,h0 y hy]
  | some o=>rw [hx,hy] at h;have:=(hp _ o hy).2.2;simp only at h;omega
 | some o =>
  cases hy:aG r.objs y.1 with
  | none=>rw [hx,hy] at h;have:=(hp _ o hx).2.2;simp only at h;omega
  | some o' =>
   rw [hx,hy] at h;simp only at h;obtain ⟨k1,k2,k3⟩:=hp _ o hx;obtain ⟨k4,k5,k6⟩:=hp _ o' hy;refine RE fun c9=>?_
   have:=o.len_pos
   have:=o'.len_pos;rcases apart hw.objs k1 k4 (by rw [k2,k5];exact c9) with h1 | h1 <;> omega
def sY (r:RH) (x y:gt r):Int:=eN r x.1-eN r y.1
theorem jC {r:RH} (x y:gt r):ltOf (sY r) x y=decide (eN r x.1<eN r y.1):=by
 unfold ltOf sY;by_cases h:eN r x.1<eN r y.1
 ·simp [h];omega
 ·simp [h];omega
theorem qc {r:RH} (hw:WFH r){d:List (gt r)} (hd:d.map (·.1)=r.all):(d.mergeSort fun x y=>!(ltOf (sY r)) y x).map (·.1)=r.objs.map (·.oop):=by
 have hmem:∀ o∈r.objs,aG r.objs o.oop≠none∨o.oop=0:=fun o ho=>.inl (by rw [cA hw.objs ho];simp);obtain ⟨t,ht⟩:∃ t:List (gt r),t.map (·.1)=r.objs.map (·.oop):=⟨r.objs.attach.map fun o=>⟨o.1.oop,hmem o.1 o.2⟩,by
  simp only [Tl];exact List.attach_map_val (f:=fun o:RO=>o.oop) (l:=r.objs)⟩
 have CI:∀ x y:gt r,(!(ltOf (sY r)) y x)=decide (eN r x.1<=eN r y.1):=fun x y=>by
  rw [jC];by_cases h:eN r y.1<eN r x.1
  ·simp [h]
  ·simp [h];omega
 rw [←ht]
 congr 1
 have Ms:(fun x y:gt r=>!(ltOf (sY r)) y x)=fun x y=>decide (eN r x.1<=eN r y.1):=by funext x y;exact CI x y
 rw [Ms];have hnd:d.Nodup:=by
  have h1:(r.all).Nodup:=by
   unfold RH.all RH.upto;exact (TP.map (fun (i:Nat)=>(i:Int)) fun a b E9 h=>E9 (by omega)).filter _
  rw [←hd] at h1;rw [SA,SL] at h1;exact SA.2 (h1.imp fun h e=>h (congrArg _ e))
 have Pu:t.Nodup:=by
  have h1:(r.objs.map (·.oop)).Nodup:=by
   rw [SA,SL];exact hw.objs.pw.imp fun h=>h.1
  rw [←ht] at h1;rw [SA,SL] at h1;exact SA.2 (h1.imp fun h e=>h (congrArg _ e))
 have DR:d.Perm t:=by
  rw [Tf hnd Pu];intro x;have e1:x∈d↔x.1∈r.all:=by
   rw [←hd,RN];constructor
   ·exact fun h=>⟨x,h,rfl⟩
   ·rintro ⟨y,hy,he⟩;rw [←Subtype.ext he];exact hy
  have e2:x∈t↔x.1∈r.objs.map (·.oop):=by
   rw [←ht,RN];constructor
   ·exact fun h=>⟨x,h,rfl⟩
   ·rintro ⟨y,hy,he⟩;rw [←Subtype.ext he];exact hy
  rw [e1,e2,RH.mem_all hw,RN];constructor
  ·intro h;cases ho:aG r.objs x.1 with
   | none=>exact absurd ho h
   | some o=>exact ⟨o,(aN ho).1,(aN ho).2⟩
  ·rintro ⟨o,ho,he⟩;rw [←he,cA hw.objs ho];simp
 have hU:=List.pairwise_mergeSort (le:=fun x y:gt r=>decide (eN r x.1<=eN r y.1)) (fun a b c h1 h2=>by simp at *;omega) (fun a b=>by simp;omega) d;have w9:t.Pairwise fun x y=>decide (eN r x.1<=eN r y.1)=true:=by
  have h1:(r.objs.map fun o=>eN r o.oop).Pairwise (·<=·):=by
   rw [SL];have h2:∀ o∈r.objs,eN r o.oop=o.place:=fun o ho=>by unfold eN;rw [cA hw.objs ho]
   refine List.Pairwise.imp_of_mem ?_ hw.objs.pw;intro a b ha hb E9;rw [h2 a ha,h2 b hb]
   have:=E9.2
   have:=a.len_pos;omega
  have h2:(t.map fun x=>eN r x.1)=r.objs.map fun o=>eN r o.oop:=by
   have:=congrArg (List.map (eN r)) ht;rw [Tl,Tl] at this;exact this
  rw [←h2,SL] at h1;exact h1.imp fun h=>by simpa using h
 exact List.Perm.eq_of_pairwise (fun a b _ _ h1 h2=>pJ hw (by simp at h1 h2;omega)) hU w9 ((List.mergeSort_perm d _).trans DR)
theorem te (hb:Nat) (r:RH):oM hb r:=by
 intro H wb tb bb W T B low Q hR h;have hw:=hR.wf;have IN:=hw.o0;have C3:=hw.o1;apply yv;dsimp only [bf,cG,eH,aQ,ax,am,bg,az];have Pr:aP<H.size:=by
  have h0:=hR.kinds.1;unfold aj at h0;rcases Sf aP H.size with h1 | h1
  ·exact h1
  ·simp only [Sd h1] at h0;cases h0
 have ET:Fr [] H (H.push (.cells #[Cv hb] 45)):=Fr.push _ _ _;obtain ⟨wb',tb',bb',W',T',B',low',e,If⟩:=hR.rep.fr ET (bL.nil_right _) (by simp);have q7:PHs (H.push (.cells #[Cv hb] 45)) hb wb tb bb W T B low r:={ hR with hd:=hR.hd.push _,mw:=hR.mw.push _,mt:=hR.mt.push _,mb:=hR.mb.push _,kinds:=If.kinds };simp only [af,Rs,Rh,Rf,Ri,aK,aC,aU,aW,aL,aX,aR,aD,aT,aS,aJ,aV,Ru,Rx,Ry,ak,Rm,Rn,av,aq,aF,Rq,Rp,bq,bw,RR,R3,R7,RX,RF,RV,R2,RT,RU];refine BL q7 fun a l c F H1 ho hf hF Pv=>?_;simp only [af,Rs,Rh,Rf,Ri,aK,aC,aU,aW,aL,aX,aR,aD,aT,aS,aJ,aV,Ru,Rx,Ry,ak,Rm,Rn,av,aq,aF,Rq,Rp,bq,bw];have an:=ho.lt;have GA:aj H1 ⟨H.size,0,none⟩=some (Cv hb):=((bW.new H #[Cv hb] 45).fr hf (by simp)).cell 0;have b8:=ho.len;simp only [au,RZ] at b8;have Mj:=r.upto_len (r.oops+1).toNat
 let d:List (gt r):=r.all.attach.map fun k=>⟨k.1,.inl ((RH.mem_all hw).1 k.2)⟩
 have hd:d.map (·.1)=r.all:=by
  simp only [d,Tl];exact List.attach_map_val (f:=fun k:Int=>k) (l:=r.all) |>.trans (List.map_id _)
 rcases ho.2.2 with ⟨ha,hc,IR⟩ | ⟨b,cs,ha,IR,_⟩
 ·exact absurd IR Pv
 ·subst ha;subst IR;have E6:b≠H.size:=by
   have:=hF b (by simp);simp only [RA] at this;omega
  have Pw:∀ x∈[hb,wb,tb,bb],x∉[b]:=fun x hx hn=>by
   simp only [Rg] at hn;have h1:=hF b (by simp);have h2:=hR.rep.lt x hx;simp only [RA] at h1;omega
  have s5:l<4611686018427387904:=by
   have h1:r.all.length<=(r.oops+1).toNat:=Mj;omega
  refine mz (α:=gt r) Tryz.sortL (fun x=>x.1) (sY r) ?_ ?_ ⟨_,Tryz.func217,rfl⟩ (enters_of Tryz.func218 (by kernel_rfl) rfl) (d:=d) (by rw [hd];exact ho) s5 (fun x y H2 g9=>?_) fun H2 Gl g9=>?_
  ·refine ⟨fun x=>?_,fun x y z h1 h2=>?_,fun x y z h1 h2=>?_⟩
   ·rw [jC];simp
   ·rw [jC] at *;simp at *;omega
   ·rw [jC] at *;simp at *;omega
  ·intro x y h1 h2;rw [jC] at h1 h2;simp at h1 h2;exact pJ hw (by omega)
  ·have Dg:Raw H2 hb wb tb bb r.words.toNat (r.oops+1).toNat _:=(q7.raw.keep hf (bL.nil_right _)).keep g9 Pw;have Jx:aj H2 ⟨H.size,0,none⟩=some (Cv hb):=(((bW.new H #[Cv hb] 45).fr hf (by simp)).fr g9 (by simp;omega)).cell 0;have Jy:∀ z:gt r,0<=z.1∧z.1<=r.oops∧T z.1=eN r z.1∧-1<=eN r z.1∧eN r z.1<=r.words:=by
    intro z;have hz:0<=z.1∧z.1<=r.oops:=by
     rcases z.2 with h1 | h1
     ·cases ho:aG r.objs z.1 with
      | none=>exact absurd ho h1
      | some o =>
       have hg:=hw.objs.good o (aN ho).1;have h2:=hg.oop1;have h3:=hg.oop2;rw [(aN ho).2] at h2 h3;omega
     ·omega
    refine ⟨hz.1,hz.2,hR.sim.tab z.1 hz.1 hz.2,?_⟩;unfold eN;have Pq:=hw.w0;cases ho:aG r.objs z.1 with
    | none=>simp;omega
    | some o =>
     have hg:=hw.objs.good o (aN ho).1;have h2:=hg.pl;have h3:=hg.fits;have h4:=o.len_pos;simp only;omega
   obtain ⟨x1,x2,x3,x4,x5⟩:=Jy x;obtain ⟨y1,y2,y3,y4,y5⟩:=Jy y;have CW:=hw.w1;show ag PP 218 #[ac x.1,ac y.1,.pointer (some ⟨H.size,0,none⟩)] _ H2;apply vP;dsimp only [aM,aO,aQ,bl,ac,bm,ao,aI];simp only [af,Rs,Rh,Rf,Ri,aK,aC,aU,aW,aL,aX,aR,aD,aT,aS,aJ,aV,Ru,Rx,Ry,ak,Rm,Rn,av,aq,aF,Rq,Rp,bq,bw,Jx,Dg.c1,Dg.tabc (i:=x.1) (by omega) (by omega),Dg.tabc (i:=y.1) (by omega) (by omega)];refine ⟨by omega,by omega,by omega,by omega,?_⟩;rw [x3,y3,ai (by omega) (by omega)];rfl
  ·have hs:=qc hw hd;rw [hs] at Gl;refine ⟨rfl,h _ _ _ [b] H2 Gl ⟨?_,fun x hx _=>?_⟩ (fun x hx=>?_)⟩
   ·exact Rr (ET.trans hf).1 g9.1
   ·rw [g9.2 x (RC hx (ET.trans hf).1) (fun hn=>by
     simp only [Rg] at hn
     have:=hF b (by simp);simp only [RA] at this;omega),(ET.trans hf).2 x hx (by simp)]
   ·have:=hF x hx;simp only [RA] at this;omega
end
end Go.Proofs.YtcfmnlapccgllaaGreatDoor
namespace Go.Proofs.YtcfmnlapccgllaaGreatDoor
open Kw
section
variable {Q:QT}{H:ae}
variable {a b c d A B D P:Option Addr}{i j k m n x y z I J K M N:Int}{l o r s u v L O R S U V:Nat}{t w T W:ByteArray}{e E g:Bool}{q:Option Nat}{p X Y Z:Value}{F G:Addr}
theorem Bw (h:az (bf H.size) fun b=>az (bg H #[am a] 33) fun a=>aQ a b fun c=>bK 41 #[am c] a fun a c=>ah a (Q (bk 0 2) c) (aQ c b fun a=>ao a fun a=>aQ c a fun a=>aA 42 #[.func (.func 26) #[am a] #[],ac i,ac j,ac k,.func (.func 43) #[] #[am (some b)]] c fun a b c=>ah (b != 0) (Q (bk 0 b) c) (aA 45 #[ac a] c fun a b c=>Q (bk a b) c))):ag PP 9 #[.pointer a,ac i,ac j,ac k] Q H :=
 okF Tryz.func9 rfl h
theorem zG (h:bK 41 #[am a] H fun c d=>ah c (Q (ac 2) d) (bK 48 #[ax b l o,.func (.func 49) #[] #[]] d fun c d=>ah c (Q (ac 10) d) (ao a fun c=>aO d (c.add 2) fun _ c _=>ah (bA (aI ((c:Int)+(l:Int))) 65536) (Q (ac 22) d) (ao a fun c=>aO d (c.add 2) fun c e f=>bE (Builtin.append_ #[44,44] 44 #[ax c e f,ax b l o]) d fun b c d e=>ao a fun a=>bi e (a.add 2) (ax b c d) fun a=>Q (ac 0) a)))):ag PP 11 #[.pointer a,.slice b l o] Q H :=
 okF Tryz.func11 rfl h
theorem u0 (h:bK 41 #[am a] H fun b c=>ah b (Q (am none) c) (ao a fun a=>aQ c a fun a=>Q (am a) c)):ag PP 13 #[.pointer a] Q H :=
 okF Tryz.func13 rfl h
theorem yZ (h:dU 90 #[ac i,ac j] H fun a b c=>ah (b != 0) (Q (bn #[am none,ac b]) c) (az (ac 0) fun b=>Q (bn #[am (some (bf c.size)),b]) (bg c #[am a,b,ax none 0 0,bx false,am none,b,b,b] 97))):ag PP 23 #[ac i,ac j] Q H :=
 okF Tryz.func23 rfl h
theorem zO (h:bK 41 #[am a] H fun b c=>ah b (Q (ac 2) c) (ao a fun b=>aQ c b fun b=>aA 98 #[am b,ac i] c fun _ b c=>ah (b != 0) (Q (ac b) c) (ao a fun a=>bi c (a.add 1) (ac i) fun a=>Q (ac 0) a))):ag PP 29 #[.pointer a,ac i] Q H :=
 okF Tryz.func29 rfl h
theorem zR (h:bK 41 #[am a] H fun b c=>ah b (Q (ac 2) c) (ah (aZ i 0) (Q (ac 28) c) (ao a fun b=>aO c (b.add 2) fun _ b _=>ah (bA i (b:Int)) (Q (ac 28) c) (ao a fun b=>aO c (b.add 2) fun b _ d=>ao a fun e=>aO c (e.add 2) fun _ e _=>az (aI ((e:Int)-i)) fun e=>((0:Int)<=e∧e<=(d:Int))∧ao a fun a=>bi c (a.add 2) (ax b (Int.toNat e) d) fun a=>True∧Q (ac 0) a)))):ag PP 30 #[.pointer a,ac i] Q H :=
 okF Tryz.func30 rfl h
theorem AL (h:ah (ch a) (Q (bx true) H) (ao a fun a=>aQ H a fun a=>Q (bx (ch a)) H)):ag PP 41 #[.pointer a] Q H :=
 okF Tryz.func41 rfl h
theorem zc {g0:Array Value}{h0:Array Value}{g4:Array Value}{h4:Array Value}(h:aA l (g0++#[ac i,ac j,ac k]++h0) H fun a b c=>ah (b == 23) (bK o (g4++#[]++h4) c fun c d=>ah c (aA l (g0++#[ac i,ac j,ac k]++h0) d fun a b c=>Q (bk a b) c) (Q (bk a b) d)) (Q (bk a b) c)):ag PP 42 #[.func (.func l) g0 h0,ac i,ac j,ac k,.func (.func o) g4 h4] Q H :=
 okF Tryz.func42 rfl h
theorem zh (h:aQ H F fun a=>cd 44 #[am a] H fun _ _ a b=>Q (bx (a == 0)) b):ag PP 43 #[.pointer (some F)] Q H :=
 okF Tryz.func43 rfl h
theorem z8 (h:bK 41 #[am a] H fun b c=>ah b (Q (bn #[ac 0,ac 0,ac 2]) c) (ao a fun b=>pj c (b.add 3) fun b=>ah b (Q (bn #[ac 0,ac 0,ac 25]) c) (ao a fun b=>aQ c b fun d=>cG 107 #[am a] c fun a c e f=>((aj f b=some (am d)∧True)∧True)∧cd 106 #[am d,ax a c e] f fun a b c d=>True∧Q (bn #[ac a,ac b,ac c]) d))):ag PP 44 #[.pointer a] Q H :=
 okF Tryz.func44 rfl h
theorem A3 (h:aH 50 #[ac i] H fun a b=>Q (bx (a == 0)) b):ag PP 49 #[ac i] Q H :=
 okF Tryz.func49 rfl h
theorem zt (h:bK 41 #[am a] H fun b c=>ah b (Q (ac 2) c) (ao a fun b=>aQ c b fun b=>ao a fun a=>aM c (a.add 1) fun a=>aH 14 #[am b,ac a,ac i,ac j] c fun a b=>True∧Q (ac a) b)):ag PP 65 #[.pointer a,ac i,ac j] Q H :=
 okF Tryz.func65 rfl h
theorem wF (h:iI 166 #[am a,ax b l o] H fun b c d e f=>ah (e != 0) (Q (bn #[ac 0,ac 0,ac e]) f) (cd 167 #[am a,ax b c d] f fun a b c d=>Q (bn #[ac a,ac b,ac c]) d)):ag PP 106 #[.pointer a,.slice b l o] Q H :=
 okF Tryz.func106 rfl h
theorem xM (h:ao a fun b=>aM H (b.add 1) fun b=>aA 45 #[ac b] H fun b c d=>ah (c != 0) (ao a fun a=>aO d (a.add 2) fun a b c=>Q (ax a b c) d) (ao a fun a=>az (bg d #[ac b] 31) fun b=>aO b (a.add 2) fun a c e=>bE (Builtin.append_ #[44,44] 44 #[ax (some (bf d.size)) 1 1,ax a c e]) b fun a b c d=>Q (ax a b c) d)):ag PP 107 #[.pointer a] Q H :=
 okF Tryz.func107 rfl h
theorem vF (h:bK 41 #[am a] H fun b c=>ah b (Q (ax none 0 0) c) (ao a fun a=>aO c (a.add 2) fun a b d=>cG 178 #[ax a b d] c fun a b c d=>cG 177 #[ax a b c] d fun a b c d=>Q (ax a b c) d)):ag PP 120 #[.pointer a] Q H :=
 okF Tryz.func120 rfl h
def Bs (a:Option Addr) (b:Option Addr) (l:Nat) (o:Nat) (Q:QT) (H:ae):Prop :=
 az (ax none 0 0) fun c=>ah (ch a) (∀ a:ae,fT H.size H a->Q (bn #[c,ac 2]) a) (az (H.push (.map #[] 0)) fun d=>az (bf d.size) fun e=>az (eS (some H.size)) fun f=>bi (bg d #[eS none] 138) e f fun d=>az (bg d #[c] 109) fun g=>az (bf g.size) fun i=>az (bf d.size) fun d=>az (am (some e)) fun j=>az (am (some d)) fun k=>bi (bg g #[.nilFunc] 236) i (.func (.func 194) #[] #[j,k]) fun g=>∃ m:List Value->ae->Prop,∃ n:List Value->ae->Nat,az (ac 0) fun p=>m [p] g∧(∀ g q,m g q->∀ r:Nat->Value,∃ s,g=[ac s]∧az (am a) fun a=>ah (aZ s (l:Int)) (bm s l b fun b=>aM q (bl b s 1) fun b=>jr 195 #[a,ac b] q fun a b c=>ah b (vv c i (fun b d e=>eH b (d++#[ac a]++e) c fun a=>bt m n [ac (aI (s+1))] a g q)∨aj c i=some .nilFunc∧False) (bt m n [ac (aI (s+1))] c g q)) (Cr [] q fun g m n q=>aO q d fun t u v=>az (bx false) fun w=>ah (bA (u:Int) 0) (aO q d fun e x y=>aO q d fun z A B=>az (aI ((A:Int)-1)) fun C=>bm C x e fun D=>az (bl D C 1) fun D=>aM q D fun E=>aO q d fun F G I=>aO q d fun J K L=>az (aI ((K:Int)-1)) fun M=>((0:Int)<=M∧M<=(I:Int))∧az (ax F (Int.toNat M) I) fun N=>bi q d N fun d=>az (ac E) fun E=>vu 196 #[a,E] d fun d O P R=>∀ S:FuncId,az (bn #[]) fun T=>az (fW PP 166 0) fun U=>pi d (O++#[.func (.yield (R.size+1)) #[] #[]]++P) (fun _ a=>il (R.size+1) (fun a=>bt g m [] a n q) (fun a=>∀ b:ae,fT H.size a b->Q (bn #[c,p]) b) [] a) ((R.push (.deferred (some []))).push (.loop (gg S #[a,ax b l o,T,T,c,p,j,k,am (some i),T,r 10,r 11,r 12,E,T,T,T,a,w,f,.func (.func 194) #[] #[j,k],ax b l o,ac (l:Int),ac s,w,r 25,r 26,r 27,r 28,r 29,r 30,r 31,r 32,r 33,r 34,r 35,r 36,r 37,ax t u v,ac (u:Int),bx true,ax e x y,ax z A B,ac (A:Int),ac C,am (some D),E,ax F G I,ax J K L,ac (K:Int),ac M,N,a,E,.func (.func d) O P,T,T,T,T,T,T,T,T,T,T,T,T,T,T,T,T,T,T,T,T] U.1 U.2.1 U.2.2 R.size)))) (gE q e fun a=>sy (Builtin.len_ #[138] 3 #[eS a]) q fun a b=>bE (Instr.makeSlice 109 p (ac a)) b fun a b c d=>gE d e fun e=>mJ (Instr.range 138 (eS e)) (fun d e=>Bi [ax a b c] e fun a b c e f g i=>mJ (Instr.next d false 0) (fun j k=>az (ax f g i) fun f=>j=bn #[w]∧eH 197 #[f] k (fun a=>∀ b:ae,fT H.size a b->Q (bn #[f,p]) b)∨(∃ g i:Value,j=bn #[bx true,g,i]∧mJ (Instr.entry d) (fun d g=>∃ i,∃ j:Value,d=bn #[ac i,j]∧bE (Builtin.append_ #[109,109] 109 #[f,ax (some (bf g.size)) 1 1]) (bg g #[ac i] 3) fun d f g i=>bt a b [ax d f g] i c e) k)) e) d))))
theorem wQ {p1:Option Addr}{a2:Option Addr}{l2:Nat}{c2:Nat} (h:Bs p1 a2 l2 c2 Q H):ag PP 166 #[.pointer p1,.slice a2 l2 c2] Q H :=
 nz good Tryz.func166 rfl (Ls:=fun | 7=>some [(23,3)] | 13=>some [] | 21=>some [(15,109)] | _=>none) (mk:=true) (by kernel_rfl) h
def dR (l:Nat) (F:Addr) (i:Int) (Q:QT) (H:ae):Prop :=
 ∃ a:Loop,H[l]?=some (.loop a)∧a.state=.ready∧az (H.setIfInBounds l (.loop { a with state:=.busy })) fun a=>vv a F (fun b c d=>eH b (c++#[ac i]++d) a fun a=>∃ b:Loop,a[l]?=some (.loop b)∧Q (bx true) (a.setIfInBounds l (.loop { b with state:=.ready,pending:=none })))∨aj a F=some .nilFunc∧False
theorem gA {l:Nat}{fn:FuncId}{D:Nat}{Ya:Value}{Yb:Value}{Yc:Value}{Yd:Value}{Ye:Value}{Yf:Value}{Yg:Value}{Yh:Value}{q_8:Addr}{Yj:Value}{Yk:Value}{Yl:Value}{Ym:Value}{Yn:Value}{Yo:Value}{Yp:Value}{Yq:Value}{Yr:Value}{Ys:Value}{Yt:Value}{Yu:Value}{Yv:Value}{Yw:Value}{Yx:Value}{Yy:Value}{Yz:Value}{YA:Value}{YB:Value}{YC:Value}{YD:Value}{YE:Value}{YF:Value}{YG:Value}{YH:Value}{YI:Value}{YJ:Value}{YK:Value}{YL:Value}{YM:Value}{YN:Value}{YO:Value}{YP:Value}{YQ:Value}{YR:Value}{YS:Value}{YT:Value}{YU:Value}{YV:Value}{YW:Value}{YX:Value}{YY:Value}{YZ:Value}{Y0:Value}{Y1:Value}{Y2:Value}{Y3:Value}{Y4:Value}{Y5:Value}{Y6:Value}{Y7:Value}{Y8:Value}{Y9:Value}{Za:Value}{Zb:Value}{Zc:Value}{Zd:Value}{Ze:Value}{Zf:Value}{Zg:Value}{Zh:Value}{Zi:Value}{Zj:Value}{Zk:Value}{Zl:Value}{Zm:Value}{n1:Int} (hl:H[l]?=some (.loop (gg fn #[Ya,Yb,Yc,Yd,Ye,Yf,Yg,Yh,.pointer (some q_8),Yj,Yk,Yl,Ym,Yn,Yo,Yp,Yq,Yr,Ys,Yt,Yu,Yv,Yw,Yx,Yy,Yz,YA,YB,YC,YD,YE,YF,YG,YH,YI,YJ,YK,YL,YM,YN,YO,YP,YQ,YR,YS,YT,YU,YV,YW,YX,YY,YZ,Y0,Y1,Y2,Y3,Y4,Y5,Y6,Y7,Y8,Y9,Za,Zb,Zc,Zd,Ze,Zf,Zg,Zh,Zi,Zj,Zk,Zl,Zm] (fW PP 166 0).1 (fW PP 166 0).2.1 (fW PP 166 0).2.2 D))) (h:dR l q_8 n1 Q H):eP PP l #[ac n1] Q H :=
 mq good hl (by kernel_rfl) (by kernel_rfl) (Ls:=fun _=>none) (Ls':=fun _=>none) (by kernel_rfl) h
theorem yk (h:gE H F fun a=>sy (Instr.lookup 138 (eS a) (ac i) false) H fun a b=>ah (a == 0) (gE b F fun a=>je (Instr.mapUpdate 138 (eS a) (ac i) (ac 1)) b fun a=>aO a G fun b c d=>bE (Builtin.append_ #[109,109] 109 #[ax b c d,ax (some (bf a.size)) 1 1]) (bg a #[ac i] 3) fun a b c d=>bi d G (ax a b c) fun a=>Q (bn #[]) a) (Q (bn #[]) b)):ag PP 194 #[ac i,.pointer (some F),.pointer (some G)] Q H :=
 okF Tryz.func194 rfl h
theorem yp (h:aA 147 #[ac i] H fun b c d=>ah (c != 0) (Q (bn #[ac 0,bx false]) d) (aA 98 #[am a,ac b] d fun _ a c=>Q (bn #[ac b,bx (a == 0)]) c)):ag PP 195 #[.pointer a,ac i] Q H :=
 okF Tryz.func195 rfl h
theorem wB (h:az (bg H #[am a] 45) fun a=>Q (.func (.func 213) #[] #[am (some (bf H.size)),am (some (bf a.size))]) (bg a #[ac i] 3)):ag PP 196 #[.pointer a,ac i] Q H :=
 okF Tryz.func196 rfl h
theorem xH (h:aQ H F fun a=>aM H G fun b=>aA 98 #[am a,ac b] H fun a b c=>az (bn #[]) fun d=>ah (b != 0) (Q d c) (sx (fun b=>aQ c F fun e=>jr 195 #[am e,ac a] c fun a c e=>ah c (eP PP l #[ac a] (fun a c=>∃ e,a=bx e∧ah (!e) (Q d c) (b [] c)) e) (b [] e)) fun a=>aQ a F fun b=>aM a G fun c=>cd 174 #[am b,ac c] a fun a b c e=>ah (c != 0) (Q d e) (ah (b != 0) (Q d e) (ce [ac 0] e fun b c e f g=>ah (aZ g a) (aQ f F fun a=>aM f G fun i=>aA 179 #[am a,ac i,ac g] f fun a i j=>ah (i != 0) (Q d j) (aQ j F fun i=>jr 195 #[am i,ac a] j fun a i j=>az (ac (aI (g+1))) fun g=>ah i (eP PP l #[ac a] (fun a i=>∃ j,a=bx j∧ah (!j) (Q d i) (bt b c [g] i e f)) j) (bt b c [g] j e f))) (Q d f))))):ag PP 213 #[.func (.yield l) #[] #[],.pointer (some F),.pointer (some G)] Q H :=
 okL Tryz.func213 rfl (fun | 1004=>some [] | 7=>some [(50,3)] | _=>none) h
end
end Go.Proofs.YtcfmnlapccgllaaGreatDoor
namespace Kw
section
open Go Go.Proofs Go.Shelf Go.Sort Go.RowKit
variable {P:Program}
theorem me {ρ:Ren} (L:Lays.n189 P ρ) (hfn:∃ fn,P.funcs[ρ.f 189]?=some fn∧fn.body.isSome=true){b l c:Nat}{H:ae}{zs:List Int}{Q:Value->ae->Prop} (ho:bZ 1 H (some ⟨b,0,none⟩) l c (au zs) [b]) (s5:l<4611686018427387904)
  (h:∀ H',bZ 1 H' (some ⟨b,0,none⟩) l c (au (zs.mergeSort fun x y=>decide (x<=y))) [b]->Fr [b] H H'->Q (.tuple #[]) H'):ag P (ρ.f 189) #[.slice (some ⟨b,0,none⟩) l c] Q H:=by
 refine ⟨hfn,?_⟩;intro w hw;subst hw;rcases ho.2.2 with ⟨h0,_,_⟩ | ⟨b',cs,EH,_,⟨t,Fc⟩,C1,lp⟩
 ·cases h0
 cases EH;have hl:l=zs.length:=by have:=ho.1;simpa [au] using this.symm
 subst hl;have CI:zs.length<=c:=ho.2.1;have an:b<w.heap.size:=(Rt.1 Fc).1;have hH:Go.Sort.Holds (Value.int .i64) w b 0 zs.toArray:=by
  intro j hj;have hj:j<zs.length:=by simpa using hj
  refine ⟨?_,?_⟩
  ·rw [Rm];have h1:(cs.toList.take (zs.length*1))[j]?=(au zs)[j]?:=by rw [lp]
   rw [SU (by omega)] at h1;unfold World.cell?;simp only [Fc];show cs[j]?=_;rw [←SS,h1];simp [au,hj]
  ·unfold World.frozen?;simp only [Fc];simp
 refine (Any.slices_Sort_int L b 0 c zs w hH an s5).mono ?_;rintro e w' ⟨rfl,n,os,rfl⟩;have hp:(putRow (Value.int .i64) (Sort.ahead w n) b 0 (zs.mergeSort fun x y=>decide (x<=y)).toArray).heap[b]?=some (.cells (putCells (Value.int .i64) 0 (zs.mergeSort fun x y=>decide (x<=y)).toArray cs) t (0,0)):=by
  simp only [putRow,mapBlock,R1,if_true];show Option.map _ w.heap[b]?=_;rw [Fc];rfl
 have Ig:(putRow (Value.int .i64) (Sort.ahead w n) b 0 (zs.mergeSort fun x y=>decide (x<=y)).toArray).heap.size=w.heap.size:=by simp [putRow,mapBlock,Sort.ahead]
 have hother:∀ b',b'≠b->(putRow (Value.int .i64) (Sort.ahead w n) b 0 (zs.mergeSort fun x y=>decide (x<=y)).toArray).heap[b']?=w.heap[b']?:=fun b' hn=>by
  simp only [putRow,mapBlock,R1];rw [Re (S4 hn)];rfl
 have p5:Fr [b] w.heap (grow (putRow (Value.int .i64) (Sort.ahead w n) b 0 (zs.mergeSort fun x y=>decide (x<=y)).toArray) os).heap:=by
  refine ⟨?_,fun b' er hn=>?_⟩
  ·simp only [Sort.grow,S8];rw [Ig];exact TO _ _
  ·simp only [Sort.grow];rw [Sy (by rw [Ig];exact er)];exact hother b' (by simpa using hn)
 have Jz:(grow (putRow (Value.int .i64) (Sort.ahead w n) b 0 (zs.mergeSort fun x y=>decide (x<=y)).toArray) os).heap[b]?=some (.cells (putCells (Value.int .i64) 0 (zs.mergeSort fun x y=>decide (x<=y)).toArray cs) t (0,0)):=by
  simp only [Sort.grow];rw [Sy (by rw [Ig];exact an)];exact hp
 refine ⟨_,rfl,h _ ⟨by simp [au,Sh],CI,.inr ⟨b,_,rfl,rfl,⟨t,Jz⟩,by simp [putCells,C1],?_⟩⟩ p5,rfl,rfl,rfl,?_,p5.1,fun b' ds er=>?_⟩
 ·apply SH
  ·simp [au,putCells,Sh];omega
  ·intro j h1 h2;have hj:j<zs.length:=by simpa [au,Sh] using h2
   have C7:j<(zs.mergeSort fun x y=>decide (x<=y)).length:=by rw [Sh];exact hj
   simp only [Tm,au,SI,Array.getElem_toList,putCells,Array.getElem_mapIdx,RL,Rx,Rm,RX,Sh,hj,if_true,Tt]
   congr 1
   rw [List.getElem!_toArray,Tw,RB C7];rfl
 ·show w.drawn<=w.drawn+n;omega
 ·have cx:b'<w.heap.size:=(Rt.1 er).1;have c9:b'≠b:=fun e=>by subst e;rw [Fc] at er;cases er
  exact (p5.2 b' cx (by simpa using c9)).trans er
end
end Kw
namespace Kw
open Go
def dL (P:Program) (t:TypeId):Option (TypeDesc × Option Value) :=
 match P.underlying t with
 | some (.map k e)=>match P.underlying k,P.info? e with
  | some d,some i=>some (d,i.zero)
  | _,_=>none
 | _=>none
inductive Key
 | str (s:ByteArray)
 | int (n:Int)
deriving DecidableEq
def Key.v:Key->Value
 | .str s=>.string s
 | .int n=>.int .i64 n
def Key.of:TypeDesc->Key->Prop
 | .string,.str _=>True
 | .int _,.int _=>True
 | _,_=>False
def vC (ents:Array MapEntry) (clock:Nat):Prop:=(ents.toList.map (·.born)).Nodup∧∀ e∈ents.toList,e.born<clock
def cR (H:ae) (r:Nat) (es:List (Key × Value)):Prop:=∃(ents:Array MapEntry) (clock:Nat),H[r]?=some (.map ents clock)∧ents.toList.map (fun e=>(e.key,e.val))=es.map (fun p=>(p.1.v,p.2))∧vC ents clock
theorem cR.new (H:ae):cR (H.push (.map #[] 0)) H.size []:=⟨#[],0,by simp,rfl,by simp [vC]⟩
theorem cR.lt {H:ae}{r:Nat}{es:List (Key × Value)} (h:cR H r es):r<H.size:=by
 obtain ⟨ents,clock,hr,_⟩:=h;exact (Rt.1 hr).1
theorem cR.of_eq {H H':ae}{r:Nat}{es:List (Key × Value)} (h:cR H r es) (he:H'[r]?=H[r]?):cR H' r es:=by
 obtain ⟨ents,clock,hr,h2⟩:=h;exact ⟨ents,clock,he.trans hr,h2⟩
theorem cR.fr {H H':ae}{G:aB}{r:Nat}{es:List (Key × Value)} (h:cR H r es) (hf:Fr G H H') (hn:r∉G):cR H' r es:=h.of_eq (hf.2 r h.lt hn)
def cT:List (Key × Value)->Key->Option Value
 | [],_=>none
 | p :: l,k=>if k=p.1 then some p.2 else cT l k
theorem nE (a b:ByteArray):(a == b)=true↔a=b:=by
 obtain ⟨x⟩:=a;obtain ⟨y⟩:=b;show (x == y)=true↔_;simp
theorem qv {d:TypeDesc}{k k':Key} (h:k.of d) (h':k'.of d):Instr.sameNow d k.v k'.v=some (decide (k=k')):=by
 cases d <;> cases k <;> cases k' <;> simp_all [Key.of,Key.v,Instr.sameNow] <;> (rw [Sk];simp [nE])
def fx:List (Key × Value)->Key->Option Nat
 | [],_=>none
 | p :: l,k=>if k=p.1 then some 0 else (fx l k).map (·+1)
theorem eE {es:List (Key × Value)}{k:Key}:fx es k=none↔cT es k=none:=by
 induction es with
 | nil=>simp [fx,cT]
 | cons p l ih =>
  unfold fx cT;by_cases h:k=p.1
  ·simp [h]
  ·rw [Re h,Re h];simpa using ih
theorem kE {d:TypeDesc}{k:Key} (hk:k.of d):∀ (ents:List MapEntry) (es:List (Key × Value)) (i:Nat),ents.map (fun e=>(e.key,e.val))=es.map (fun p=>(p.1.v,p.2))->(∀ p∈es,p.1.of d) ->
  Instr.findNow d k.v ents i=some (match fx es k,cT es k with
   | some j,some v=>some (i+j,v)
   | _,_=>none)
 | [],[],i,_,_=>rfl
 | [],_ :: _,_,h,_=>by simp at h
 | _ :: _,[],_,h,_=>by simp at h
 | e :: ents,p :: es,i,h,ho=>by
  simp only [R6,List.cons.injEq,Prod.mk.injEq] at h;obtain ⟨⟨h1,h2⟩,h3⟩:=h;unfold Instr.findNow;rw [h1,qv hk (ho p (by simp))];unfold fx cT;by_cases Fi:k=p.1
  ·simp [Fi,h2]
  ·have ih:=kE hk ents es (i+1) h3 fun q hq=>ho q (by simp [hq]);simp only [Fi,decide_false,if_false];rw [ih];cases h4:fx es k with
   | none=>simp
   | some j =>
    cases h5:cT es k with
    | none=>exact absurd (eE.2 h5) (by rw [h4];simp)
    | some v=>simp;omega
section
variable {P:Program}{H:ae}
theorem gK {t:TypeId}{d:TypeDesc}{k:Key}{e:Bool}{Q:Unit->ae->Prop} (hu:P.underlying t=some d) (hk:k.of d) (h:Q () H):cc P (Instr.checkKey e 10000 t k.v) Q H:=by
 unfold Instr.checkKey;refine ay (bu hu ?_);cases d <;> cases k <;> simp_all [Key.of,Key.v] <;> exact h
theorem ix {t:TypeId}{d:TypeDesc}{k:Key}{ents:Array MapEntry}{es:List (Key × Value)}{Q:Option (Nat × Value)->ae->Prop} (hu:P.underlying t=some d) (hk:k.of d) (he:ents.toList.map (fun e=>(e.key,e.val))=es.map fun p=>(p.1.v,p.2)) (ho:∀ p∈es,p.1.of d)
  (h:Q (match fx es k,cT es k with
   | some j,some v=>some (j,v)
   | _,_=>none) H):cc P (Instr.findKey t k.v ents.toList) Q H:=by
 unfold Instr.findKey;refine ay (bu hu ?_);rw [kE hk _ _ 0 he ho];cases h4:fx es k with
 | none=>rw [h4] at h;exact h
 | some j =>
  cases h5:cT es k with
  | none=>rw [h4,h5] at h;exact h
  | some v=>rw [h4,h5] at h;show Q (some (0+j,v)) H;rw [Rm];exact h
theorem eM {T:TypeId}{d:TypeDesc}{z:Option Value} (h:dL P T=some (d,z)):∃ k e i,P.underlying T=some (.map k e)∧P.underlying k=some d∧P.info? e=some i∧i.zero=z:=by
 unfold dL at h;split at h
 ·rename_i k e hu;split at h
  ·rename_i d' i h1 h2;cases h;exact ⟨k,e,i,hu,h1,h2,rfl⟩
  ·cases h
 ·cases h
theorem gS {T:TypeId}{d:TypeDesc}{z:Value}{r:Nat}{k:Key}{es:List (Key × Value)}{ok:Bool}{Q:Value->ae->Prop} (hi:dL P T=some (d,some z)) (hk:k.of d) (ho:∀ p∈es,p.1.of d) (hm:cR H r es)
  (h:Q (if ok then .tuple #[(cT es k).getD z,.bool (cT es k).isSome] else (cT es k).getD z) H):cc P (Instr.lookup T (.map (some r)) k.v ok) Q H:=by
 obtain ⟨kt,et,i,hu,Dz,Fv,hz⟩:=eM hi;obtain ⟨ents,clock,hr,he,ui⟩:=hm;unfold Instr.lookup;refine ay (bu hu ?_);refine ay ?_;refine (⟨_,hr,rfl,?_⟩:∃ o,H[r]?=some o∧cQ o=false∧_);refine ay (dQ ?_);refine ay (gK Dz hk ?_);refine ay (ix Dz hk he ho ?_);cases h5:cT es k with
 | none =>
  rw [eE.2 h5];rw [h5] at h;exact ay (eb Fv hz h)
 | some v =>
  cases h4:fx es k with
  | none=>rw [eE.1 h4] at h5;cases h5
  | some j=>rw [h5] at h;exact h
theorem gq {α β:Type} (f:α->β):∀ (l:List α) (j:Nat),(l.eraseIdx j).map f=(l.map f).eraseIdx j
 | [],_=>rfl
 | _ :: _,0=>rfl
 | x :: l,j+1=>by simp [gq f l j]
def iC:List (Key × Value)->Key->Value->List (Key × Value)
 | [],k,v=>[(k,v)]
 | p :: l,k,v=>if k=p.1 then (k,v) :: l else p :: iC l k v
def mH:List (Key × Value)->Key->List (Key × Value)
 | [],_=>[]
 | p :: l,k=>if k=p.1 then l else p :: mH l k
theorem fk (es:List (Key × Value)) (k k':Key) (v:Value):cT (iC es k v) k'=if k'=k then some v else cT es k':=by
 induction es with
 | nil=>simp [iC,cT]
 | cons p l ih =>
  unfold iC;by_cases h:k=p.1
  ·rw [Rj h];unfold cT;by_cases h2:k'=k
   ·simp [h2]
   ·simp only [h2,if_false];rw [Re (fun e=>h2 (e.trans h.symm))]
  ·rw [Re h];unfold cT;by_cases h2:k'=p.1
   ·rw [Rj h2,Rj h2,Re (fun e=>h (e.symm.trans h2))]
   ·rw [Re h2,Re h2];exact ih
theorem iK {es:List (Key × Value)}{k:Key}{v:Value} (h:fx es k=none):iC es k v=es++[(k,v)]:=by
 induction es with
 | nil=>rfl
 | cons p l ih =>
  unfold fx at h;unfold iC;by_cases hk:k=p.1
  ·rw [Rj hk] at h;cases h
  ·rw [Re hk] at h ⊢;rw [ih (by simpa using h)];rfl
theorem np {es:List (Key × Value)}{k:Key}{v:Value}{j:Nat} (h:fx es k=some j):iC es k v=es.set j (k,v)∧j<es.length:=by
 induction es generalizing j with
 | nil=>cases h
 | cons p l ih =>
  unfold fx at h;unfold iC;by_cases hk:k=p.1
  ·rw [Rj hk] at h ⊢;cases h;simp
  ·rw [Re hk] at h ⊢;cases h4:fx l k with
   | none=>rw [h4] at h;cases h
   | some i =>
    rw [h4] at h;cases h
    have:=ih h4;exact ⟨by rw [this.1];rfl,by simp;exact this.2⟩
theorem sO {es:List (Key × Value)}{k:Key}{j:Nat} (h:fx es k=some j):mH es k=es.eraseIdx j:=by
 induction es generalizing j with
 | nil=>cases h
 | cons p l ih =>
  unfold fx at h;unfold mH;by_cases hk:k=p.1
  ·rw [Rj hk] at h ⊢;cases h;rfl
  ·rw [Re hk] at h ⊢;cases h4:fx l k with
   | none=>rw [h4] at h;cases h
   | some i =>
    rw [h4] at h;cases h;rw [ih h4];rfl
theorem td {es:List (Key × Value)}{k:Key} (h:fx es k=none):mH es k=es:=by
 induction es with
 | nil=>rfl
 | cons p l ih =>
  unfold fx at h;unfold mH;by_cases hk:k=p.1
  ·rw [Rj hk] at h;cases h
  ·rw [Re hk] at h ⊢;rw [ih (by simpa using h)]
theorem kh {k:Key}{Q:Value->ae->Prop} (h:Q k.v H):cc P (Instr.keyThatStays k.v k.v) Q H:=by
 unfold Instr.keyThatStays
 have:Instr.sameBits 10000 k.v k.v=true:=by
  cases k with
  | str s=>show (s == s)=true;rw [nE]
  | int n=>simp [Key.v,Instr.sameBits]
 rw [Rj this];exact h
theorem xv {es:List (Key × Value)}{k:Key}{j:Nat} (h:fx es k=some j):∃ v,es[j]?=some (k,v):=by
 induction es generalizing j with
 | nil=>cases h
 | cons p l ih =>
  unfold fx at h;by_cases hk:k=p.1
  ·rw [Rj hk] at h;cases h;exact ⟨p.2,by simp [hk]⟩
  ·rw [Re hk] at h;cases h4:fx l k with
   | none=>rw [h4] at h;cases h
   | some i =>
    rw [h4] at h;cases h;simpa using ih h4
theorem co {T:TypeId}{d:TypeDesc}{z:Option Value}{r:Nat}{k:Key}{v:Value}{es:List (Key × Value)}{Q:Unit->ae->Prop} (hi:dL P T=some (d,z)) (hk:k.of d) (ho:∀ p∈es,p.1.of d) (hm:cR H r es)
  (h:∀ H',cR H' r (iC es k v)->Fr [r] H H'->Q () H'):cc P (Instr.mapUpdate T (.map (some r)) k.v v) Q H:=by
 obtain ⟨kt,et,i,hu,Dz,Fv,hz⟩:=eM hi;obtain ⟨ents,clock,hr,he,ui⟩:=hm;have Mt:r<H.size:=(Rt.1 hr).1;have Dh:∀ o:Obj,Fr [r] H (H.setIfInBounds r o)∧(H.setIfInBounds r o)[r]?=some o:=fun o =>
  ⟨⟨by simp,fun b _ hn=>by rw [Td,Re (by simp only [Rg] at hn;exact fun e=>hn e.symm)]⟩,by simp [Mt]⟩
 unfold Instr.mapUpdate;refine ay (bu hu ?_);refine ay ?_;refine (⟨_,hr,rfl,?_⟩:∃ o,H[r]?=some o∧cQ o=false∧_);refine ay (gK Dz hk ?_);refine ay (ix Dz hk he ho ?_);cases h4:fx es k with
 | none =>
  refine (⟨⟨_,hr,rfl⟩,?_⟩:(∃ o',H[r]?=some o'∧cQ o'=false)∧_);refine h _ ⟨_,_,(Dh _).2,?_,?_⟩ (Dh _).1
  ·rw [iK h4];simp [he]
  ·refine ⟨?_,fun e hmem=>?_⟩
   ·rw [TI,Su,SC];refine ⟨ui.1,by simp,fun a ha b hb E9=>?_⟩;obtain ⟨e,hmem,rfl⟩:=RN.1 ha
    have:=ui.2 e hmem;simp only [R6,S0,Rg] at hb;omega
   ·rw [TI] at hmem;rcases Rl.1 hmem with hmem | hmem
    ·have:=ui.2 e hmem;omega
    ·simp only [Rg] at hmem;subst hmem;exact Nat.lt_succ_self _
 | some j =>
  cases h5:cT es k with
  | none=>rw [eE.2 h5] at h4;cases h4
  | some w =>
   have Hr:=np (v:=v) h4;have b8:ents.size=es.length:=by have:=congrArg List.length he;simpa using this
   have Dx:j<ents.size:=by omega
   obtain ⟨u,FH⟩:=xv h4;have Mu:ents[j].key=k.v:=by
    have h6:(ents.toList.map fun e=>(e.key,e.val))[j]?=(es.map fun p=>(p.1.v,p.2))[j]?:=by rw [he]
    rw [Sq,Sq,FH] at h6;simp [Dx] at h6;exact h6.1
   refine ay ?_;have hg:((ents[j]?).map (·.key)).getD k.v=k.v:=by simp [Dx,Mu]
   rw [hg];refine kh ?_;refine (⟨⟨_,hr,rfl⟩,?_⟩:(∃ o',H[r]?=some o'∧cQ o'=false)∧_);have Px:vC (ents.modify j fun e=>{ e with key:=k.v,val:=v }) clock:=by
    have s6:(ents.modify j fun e=>{ e with key:=k.v,val:=v }).toList.map (·.born)=ents.toList.map (·.born):=by
     apply List.ext_getElem?;intro q;rw [Sq,Sq,SS,SS,R1];split
     ·rename_i e;subst e;cases ents[j]? <;> rfl
     ·rfl
    refine ⟨by rw [s6];exact ui.1,fun e hmem=>?_⟩
    have:e.born∈ents.toList.map (·.born):=by rw [←s6];exact RN.2 ⟨e,hmem,rfl⟩
    obtain ⟨e',h1,h2⟩:=RN.1 this;rw [←h2];exact ui.2 e' h1
   refine h _ ⟨_,clock,(Dh _).2,?_,Px⟩ (Dh _).1;rw [Hr.1];apply List.ext_getElem?;intro q;rw [Sq,Sq,SS,R1,List.getElem?_set];have h6:(ents.toList.map fun e=>(e.key,e.val))[q]?=(es.map fun p=>(p.1.v,p.2))[q]?:=by rw [he]
   rw [Sq,Sq,SS] at h6;by_cases Mv:j=q
   ·subst Mv;simp [Dx,Hr.2]
   ·rw [Re Mv,Re Mv];exact h6
theorem rq {T:TypeId}{d:TypeDesc}{z:Option Value}{a1 T0:TypeId}{r:Nat}{k:Key}{es:List (Key × Value)}{Q:Value->ae->Prop} (hi:dL P T=some (d,z)) (hk:k.of d) (ho:∀ p∈es,p.1.of d) (hm:cR H r es)
  (h:∀ H',cR H' r (mH es k)->Fr [r] H H'->Q (.tuple #[]) H'):cc P (Builtin.delete_ #[T,a1] T0 #[.map (some r),k.v]) Q H:=by
 obtain ⟨kt,et,i,hu,Dz,Fv,hz⟩:=eM hi;obtain ⟨ents,clock,hr,he,ui⟩:=hm;have Mt:r<H.size:=(Rt.1 hr).1;have Dh:∀ o:Obj,Fr [r] H (H.setIfInBounds r o)∧(H.setIfInBounds r o)[r]?=some o:=fun o =>
  ⟨⟨by simp,fun b _ hn=>by rw [Td,Re (by simp only [Rg] at hn;exact fun e=>hn e.symm)]⟩,by simp [Mt]⟩
 unfold Builtin.delete_;refine ay (bu hu ?_);refine ay ?_;refine (⟨_,hr,rfl,?_⟩:∃ o,H[r]?=some o∧cQ o=false∧_);refine ay (gK Dz hk ?_);refine ay (ix Dz hk he ho ?_);cases h4:fx es k with
 | none =>
  refine ay ?_;refine (⟨⟨_,hr,rfl⟩,?_⟩:(∃ o',H[r]?=some o'∧cQ o'=false)∧_);refine h _ ⟨ents,clock,(Dh _).2,?_,ui⟩ (Dh _).1;rw [td h4];exact he
 | some j =>
  cases h5:cT es k with
  | none=>rw [eE.2 h5] at h4;cases h4
  | some v =>
   refine ay ?_;refine (⟨⟨_,hr,rfl⟩,?_⟩:(∃ o',H[r]?=some o'∧cQ o'=false)∧_);have b9:(ents.eraseIdxIfInBounds j).toList.Sublist ents.toList:=by
    rw [Array.eraseIdxIfInBounds];split
    ·rw [Array.toList_eraseIdx];exact List.eraseIdx_sublist _ _
    ·exact TJ _
   refine h _ ⟨_,clock,(Dh _).2,?_,ui.1.sublist (b9.map _),fun e hmem=>ui.2 e (b9.subset hmem)⟩ (Dh _).1;rw [sO h4];have b8:ents.size=es.length:=by have:=congrArg List.length he;simpa using this
   have Dx:=(np (v:=v) h4).2;rw [Array.eraseIdxIfInBounds,dif_pos (by omega),Array.toList_eraseIdx,gq,gq,he]
theorem rE {T T0:TypeId}{d:TypeDesc}{z:Option Value}{r:Nat}{es:List (Key × Value)}{Q:Value->ae->Prop} (hi:dL P T=some (d,z)) (hm:cR H r es) (h:Q (.int .i64 (es.length:Int)) H):cc P (Builtin.len_ #[T] T0 #[.map (some r)]) Q H:=by
 obtain ⟨kt,et,i,hu,Dz,Fv,hz⟩:=eM hi;obtain ⟨ents,clock,hr,he,ui⟩:=hm;unfold Builtin.len_;refine ay (bu hu ?_);refine ay ?_;refine (⟨_,hr,rfl,?_⟩:∃ o,H[r]?=some o∧cQ o=false∧_);have b8:ents.size=es.length:=by have:=congrArg List.length he;simpa using this
 show Q (goInt ents.size) H;rw [b8];exact h
def fz (H:ae) (b r:Nat) (es done:List (Key × Value)):Prop:=∃(ents:Array MapEntry) (clock:Nat) (seen:Array Nat) (ds rest:List MapEntry),H[r]?=some (.map ents clock)∧ents.toList.map (fun e=>(e.key,e.val))=es.map (fun p=>(p.1.v,p.2))∧vC ents clock ∧
 H[b]?=some (.mapIter (some r) clock seen clock)∧seen.toList=ds.map (·.born)∧(ds++rest).Perm ents.toList∧ds.map (fun e=>(e.key,e.val))=done.map (fun p=>(p.1.v,p.2))
theorem Key.v_inj {k k':Key} (h:k.v=k'.v):k=k':=by
 cases k <;> cases k' <;> simp_all [Key.v]
theorem qR {l l':List (Key × Value)} (h:(l.map fun p=>(p.1.v,p.2)).Perm (l'.map fun p=>(p.1.v,p.2))):l.Perm l':=by
 induction l generalizing l' with
 | nil=>have:=h.length_eq;simp at this;have:l'=[]:=RM this.symm;rw [this]
 | cons p l ih =>
  have hmem:(p.1.v,p.2)∈l'.map (fun p=>(p.1.v,p.2)):=h.subset (by simp);obtain ⟨q,hq,he⟩:=RN.1 hmem;simp only [Prod.mk.injEq] at he;have Py:q=p:=Prod.ext (Key.v_inj he.1) he.2;subst Py;obtain ⟨s,t,rfl⟩:=TC hq;refine (List.Perm.cons q (ih ?_)).trans (TQ.symm);have h2:(q :: l).map (fun p=>(p.1.v,p.2)) |>.Perm ((q :: (s++t)).map fun p=>(p.1.v,p.2)):=h.trans (TG _ TQ)
  simpa using List.Perm.cons_inv h2
theorem fz.len {b r:Nat}{es done:List (Key × Value)} (h:fz H b r es done):done.length<=es.length:=by
 obtain ⟨ents,clock,seen,ds,rest,_,he,_,_,_,hp,hd⟩:=h;have h1:=hp.length_eq;have h2:=congrArg List.length he;have h3:=congrArg List.length hd;simp only [RZ,Rz] at h1 h2 h3;omega
theorem fz.fr {H':ae}{G:aB}{b r:Nat}{es done:List (Key × Value)} (h:fz H b r es done) (hf:Fr G H H') (hb:b∉G) (hr:r∉G):fz H' b r es done:=by
 obtain ⟨ents,clock,seen,ds,rest,h1,h2,h3,h4,h5⟩:=h;exact ⟨ents,clock,seen,ds,rest,(hf.2 r (Rt.1 h1).1 hr).trans h1,h2,h3,(hf.2 b (Rt.1 h4).1 hb).trans h4,h5⟩
theorem fz.map {b r:Nat}{es done:List (Key × Value)} (h:fz H b r es done):cR H r es:=by
 obtain ⟨ents,clock,seen,ds,rest,h1,h2,h3,_⟩:=h;exact ⟨ents,clock,h1,h2,h3⟩
theorem oL {T:TypeId}{d:TypeDesc}{z:Option Value}{r:Nat}{es:List (Key × Value)}{Q:Value->ae->Prop} (hi:dL P T=some (d,z)) (hm:cR H r es)
  (h:∀ H',fz H' H.size r es []->Fr [] H H'->Q (.pointer (some ⟨H.size,0,none⟩)) H'):cc P (Instr.range T (.map (some r))) Q H:=by
 obtain ⟨kt,et,i,hu,Dz,Fv,hz⟩:=eM hi;obtain ⟨ents,clock,hr,he,ui⟩:=hm;have an:r<H.size:=(Rt.1 hr).1;unfold Instr.range;refine ay ?_;refine ay (bu hu ?_);refine ay ?_;refine (⟨_,hr,rfl,?_⟩:∃ o,H[r]?=some o∧cQ o=false∧_);show Q (.pointer (some ⟨H.size,0,none⟩)) (H.push (.mapIter (some r) clock #[] clock));refine h _ ⟨ents,clock,#[],[],ents.toList,?_,he,ui,by simp,rfl,by simp,rfl⟩ (Fr.push [] H _);rw [SX,Re (by omega)];exact hr
theorem qh {T0:TypeId}{b r:Nat}{es done:List (Key × Value)}{Q:Value->ae->Prop} (hm:fz H b r es done) (h0:done.Perm es->Q (.tuple #[.bool false]) H)
  (h1:∀ p H',p∈es->fz H' b r es (done++[p])->Fr [b] H H'->Q (.tuple #[.bool true,p.1.v,p.2]) H'):cc P (Instr.next (.pointer (some ⟨b,0,none⟩)) false T0) Q H:=by
 obtain ⟨ents,clock,seen,ds,rest,hr,he,ui,hb,hs,hp,hd⟩:=hm;have s6:b<H.size:=(Rt.1 hb).1;have Pz:b≠r:=fun e=>by subst e;rw [hr] at hb;cases hb
 unfold Instr.next;refine ay ?_;refine (⟨_,hb,rfl,?_⟩:∃ o,H[b]?=some o∧cQ o=false∧_);refine ay ?_;refine (⟨_,hr,rfl,?_⟩:∃ o,H[r]?=some o∧cQ o=false∧_);refine dQ ?_;have Mw:(!seen.isEmpty && !ents.isEmpty && ents.all fun x=>decide (x.born ≥ clock))=false:=by
  by_cases C4:ents.isEmpty=true
  ·simp [C4]
  ·have p6:0<ents.size:=by
    rcases TD ents.size with h | h
    ·exact absurd (by simp [Array.isEmpty,h]) C4
    ·exact h
   have:ents.all (fun x=>decide (x.born ≥ clock))=false:=by
    rw [Bool.eq_false_iff];intro be;have h2:=(Array.all_eq_true.1 be) 0 p6;have h3:=ui.2 ents[0] (by simp);have h4:ents[0].born ≥ clock:=by simpa using h2
    omega
   rw [this,Bool.and_false]
 simp only [Mw,RY,if_false,ge_iff_le];obtain ⟨left,Hs⟩:∃ left:Array MapEntry,left=ents.filter fun e=>!seen.contains e.born:=⟨_,rfl⟩;rw [←Hs];have Le:∀ e,e∈left.toList↔e∈rest:=by
  intro e;rw [Hs,Array.toList_filter,Sb];have hnd:((ds++rest).map (·.born)).Nodup:=(TG _ hp).nodup_iff.2 ui.1;rw [Su,SC] at hnd;constructor
  ·rintro ⟨h2,h3⟩;rcases Rl.1 (hp.symm.subset h2) with h4 | h4
   ·exfalso
    have:e.born∈seen:=by rw [←Array.mem_toList_iff,hs];exact RN.2 ⟨e,h4,rfl⟩
    simp [this] at h3
   ·exact h4
  ·intro h2;refine ⟨hp.subset (by simp [h2]),?_⟩
   have:e.born∉seen:=fun D5=>by
    rw [←Array.mem_toList_iff,hs] at D5;obtain ⟨e',h4,h5⟩:=RN.1 D5;exact hnd.2.2 _ (RN.2 ⟨e',h4,rfl⟩) _ (RN.2 ⟨e,h2,rfl⟩) h5
   simp [this]
 have Mx:left.filter (fun e=>decide (e.born<clock))=left:=by
  rw [Array.filter_eq_self];intro e hmem;have h2:=(Le e).1 (by simpa using hmem);exact SB (ui.2 e (hp.subset (by simp [h2])))
 have GP:left.filter (fun e=>decide (clock<=e.born))=#[]:=by
  rw [Array.filter_eq_empty_iff];intro e hmem;have h2:=(Le e).1 (by simpa using hmem)
  have:=ui.2 e (hp.subset (by simp [h2]));simp;omega
 rw [Mx,GP];have key:∀ (cands:Array (Option MapEntry)) (i:Nat),(i<cands.size)->(cands=if left.isEmpty then #[none] else left.map some)->cc P (match cands[i]? with
   | some (some e)=>do
    setObj b (.mapIter (some r) clock (seen.push e.born) clock)
    pure (.tuple #[.bool true,e.key,e.val])
   | some none=>pure (.tuple #[.bool false])
   | none => stuck "Next: no such candidate") Q H := by
  intro cands i hi hc;by_cases C4:left.isEmpty=true
  ·rw [Rj C4] at hc;subst hc;simp only [RX,RF,RV,Rm,Nat.lt_one_iff] at hi;subst hi;refine h0 ?_;have JA:rest=[]:=by
    cases rest with
    | nil=>rfl
    | cons e rest =>
     have:=(Le e).2 (by simp);simp [Array.isEmpty_iff.1 C4] at this
   subst JA;rw [SN] at hp;have h2:=TG (fun e:MapEntry=>(e.key,e.val)) hp;rw [hd,he] at h2;exact qR h2
  ·rw [Re C4] at hc;subst hc;have p8:i<left.size:=by simpa using hi
   have hmem:left[i]∈rest:=(Le _).1 (by simp);obtain ⟨s,t,lc⟩:=TC hmem;have GK:(left.map some)[i]?=some (some left[i]):=by simp [p8]
   rw [GK];have D5:left[i]∈ents.toList:=hp.subset (by simp [hmem]);have My:(left[i].key,left[i].val)∈es.map (fun p=>(p.1.v,p.2)):=by rw [←he];exact RN.2 ⟨_,D5,rfl⟩
   obtain ⟨p,PA,JB⟩:=RN.1 My;simp only [Prod.mk.injEq] at JB;refine ay ?_;refine (⟨⟨_,hb,rfl⟩,?_⟩:(∃ o',H[b]?=some o'∧cQ o'=false)∧_);show Q (.tuple #[.bool true,left[i].key,left[i].val]) (H.setIfInBounds b (.mapIter (some r) clock (seen.push left[i].born) clock));rw [←JB.1,←JB.2];refine h1 p _ PA ⟨ents,clock,seen.push left[i].born,ds++[left[i]],s++t,?_,he,ui,by simp [s6],?_,?_,?_⟩ ⟨by simp,fun b' _ hn=>?_⟩
   ·rw [Se Pz];exact hr
   ·rw [TI,hs,Su];rfl
   ·refine List.Perm.trans ?_ hp;rw [lc,R9];exact List.Perm.append_left ds (by simpa using (TQ (l₁:=s) (l₂:=t) (a:=left[i])).symm)
   ·rw [Su,Su,hd];simp [JB.1,JB.2]
   ·rw [Se (fun e=>hn (by simp [e]))]
 have hcands:(if left.isEmpty=true then #[none] else #[])++Array.map some (left++#[])=if left.isEmpty then #[none] else left.map some:=by
  by_cases C4:left.isEmpty=true
  ·rw [Rj C4,Rj C4,Array.isEmpty_iff.1 C4];simp
  ·rw [Re C4,Re C4];simp
 have p6:0<(if left.isEmpty=true then #[none] else left.map some).size:=by
  split
  ·simp
  ·rename_i C4;rcases TD left.size with h | h
   ·exact absurd (by simp [Array.isEmpty,h]) C4
   ·simpa using h
 obtain ⟨cands,hc⟩:∃ c:Array (Option MapEntry),c=if left.isEmpty then #[none] else left.map some:=⟨_,rfl⟩;rw [←hc] at hcands p6;simp only [hcands];refine ay ?_;show if (Question.mapNext cands.size).forced then _ else ∀ t,_;split
 ·exact key _ 0 p6 hc
 ·intro t;exact key _ _ (Nat.mod_lt _ p6) hc
theorem oT {b r:Nat}{es done:List (Key × Value)}{p:Key × Value}{Q:Value->ae->Prop} (hm:fz H b r es (done++[p])) (h:Q (.tuple #[p.1.v,p.2]) H):cc P (Instr.entry (.pointer (some ⟨b,0,none⟩))) Q H:=by
 obtain ⟨ents,clock,seen,ds,rest,hr,he,ui,hb,hs,hp,hd⟩:=hm;unfold Instr.entry;refine ay ?_;refine (⟨_,hb,rfl,?_⟩:∃ o,H[b]?=some o∧cQ o=false∧_);refine dQ ?_;obtain ⟨ds',e,PB⟩:∃ ds' e,ds=ds'++[e]:=by
  rcases Sg ds with h0 | ⟨m,x,h0⟩
  ·subst h0;simp at hd
  ·exact ⟨m,x,by simpa using h0⟩
 subst PB;have JC:seen.back?=some e.born:=by
  have:seen=(ds'.map (·.born)++[e.born]).toArray:=by
   apply Array.ext';rw [hs];simp
  rw [this];simp
 simp only [JC];refine ay ?_;refine (⟨_,hr,rfl,?_⟩:∃ o,H[r]?=some o∧cQ o=false∧_);refine dQ ?_;simp only [bne_self_eq_false,RY,if_false];have D5:e∈ents.toList:=hp.subset (by simp);have JD:ents.find? (fun x=>x.born == e.born)=some e:=by
  rw [←Array.find?_toList]
  have:∀ (l:List MapEntry),(l.map (·.born)).Nodup->e∈l->l.find? (fun x=>x.born == e.born)=some e:=by
   intro l
   induction l with
   | nil=>intro _ h;cases h
   | cons x l ih =>
    intro hnd hmem;rw [S6];by_cases hx:x.born=e.born
    ·rcases Rk.1 hmem with rfl | hmem
     ·simp
     ·exfalso;rw [R6] at hnd
      have:=(SE.1 hnd).1;exact this (by rw [hx];exact RN.2 ⟨e,hmem,rfl⟩)
    ·have:(x.born == e.born)=false:=by simpa using hx
     rw [this];rcases Rk.1 hmem with rfl | hmem
     ·exact absurd rfl hx
     ·rw [R6] at hnd;exact ih (SE.1 hnd).2 hmem
  exact this _ ui.1 D5
 rw [JD];rw [Su,Su] at hd;have h2:=(List.append_inj_right' hd rfl);simp only [R6,S0,List.cons.injEq,Prod.mk.injEq,Ry] at h2;show Q (.tuple #[e.key,e.val]) H;rw [h2.1,h2.2];exact h
end
end Kw
namespace Go.Proofs.YtcfmnlapccgllaaGreatDoor
open Kw
theorem kJ {l:Nat}{args:Array Value}{Q Q':Value->ae->Prop}{H:ae} (h:eP PP l args Q H) (hq:∀ v H',Q v H'->Q' v H'):eP PP l args Q' H:=fun w hw=>by
 obtain ⟨fn,tmps,assign,body,h1,h2⟩:=h w hw;exact ⟨fn,tmps,assign,body,h1,h2.mono fun e w' ⟨v,he,hv,hs⟩=>⟨v,he,hq _ _ hv,hs⟩⟩
theorem Fr.setObj (H:ae) (l:Nat) (o:Obj):Fr [l] H (H.setIfInBounds l o):=⟨by simp,fun b _ hn=>Se (fun e=>hn (by simp [e]))⟩
theorem fT.fr {n:Nat}{H0 H H':ae} (h:fT n H H') (hf:Fr [] H0 H) (hn:n=H0.size):Fr [] H0 H' :=
 ⟨by rw [h.1];exact hf.1,fun b hb _=>by
  rcases h.2 b with h1 | ⟨h1,_⟩
  ·rw [h1];exact hf.2 b hb (by simp)
  ·omega⟩
theorem fT.own {n k:Nat}{H H':ae}{a:Option Addr}{l c:Nat}{xs:List Value}{F:aB} (h:fT n H H') (ho:bZ k H a l c xs F):bZ k H' a l c xs F:=by
 refine ho.keep fun b hb=>?_;rcases ho.2.2 with ⟨_,_,rfl⟩ | ⟨b',cs,_,rfl,⟨t,hB⟩,_⟩
 ·simp at hb
 ·simp only [Rg] at hb;subst hb;rcases h.2 b with h1 | ⟨_,h1,_⟩
  ·exact h1
  ·rw [hB] at h1;cases h1
section
variable {H:ae}{hb:Nat}{F:aB}{r:RH}{Q:QT}
theorem jy (hR:dd H hb F r){k:Int} (h:Q (two (r.clsAt k)) H):ag PP 98 #[Cv hb,ac k] Q H:=by
 obtain ⟨_,_,_,_,_,_,_,_,hR⟩:=hR;exact wM hR h
theorem tY (hR:dd H hb F r){k i:Int} (h:Q (two (r.at k i)) H):ag PP 179 #[Cv hb,ac k,ac i] Q H:=by
 obtain ⟨_,_,_,_,_,_,_,_,hR⟩:=hR;exact Cj hR h
theorem oy (hR:dd H hb F r){k:Int} (h:Q (jQ (r.size k)) H):ag PP 174 #[Cv hb,ac k] Q H:=by
 obtain ⟨_,_,_,_,_,_,_,_,hR⟩:=hR;exact Ad hR h
theorem sJ (hR:dd H hb F r) (h:Q (ac r.mark) H):ag PP 119 #[Cv hb] Q H:=by
 obtain ⟨_,_,_,_,_,_,_,_,hR⟩:=hR;exact vd hR h
theorem oF (hR:dd H hb F r){w:Int} (h1:bd r w≠0->Q (.tuple #[ac (bd r w),.bool true]) H) (h2:bd r w=0->∀ x:Int,Q (.tuple #[ac x,.bool false]) H):ag PP 195 #[Cv hb,ac w] Q H:=by
 apply yp;dsimp only [bx,ah,aA,ac,am,bn];refine kI hR.kinds ?_;unfold qA;unfold bd at h1 h2;by_cases hk:bT w=3
 ·rw [Rj hk];refine ⟨_,_,rfl,?_⟩;rw [show ((0:Int) != 0)=false from rfl];simp only [Rh];refine jy hR ?_;have hw:=bN w;cases ho:aG r.objs (w / 4) with
  | none =>
   refine ⟨_,_,rfl,?_⟩;simp only [RH.clsAt,ho];exact h2 (by rw [ho];simp) _
  | some o =>
   refine ⟨_,_,rfl,?_⟩;simp only [RH.clsAt,ho];simp only [hk,ho,Tk,and_self,if_true] at h1;exact h1 (by omega)
 ·rw [Re hk];refine ⟨_,_,rfl,?_⟩;rw [show ((10:Int) != 0)=true from rfl];simp only [Rs];exact h2 (by rw [Re (fun h=>hk h.1)]) _
def cO (r:RH) (ws:List Int):List Int:=(ws.map (bd r)).filter fun x=>decide (x≠0)
def jb (r:RH) (o:RO):List Int:=cO r (o.cls :: if o.fmt=0 then o.slots else [])
theorem dA (r:RH) (l m:List Int):cO r (l++m)=cO r l++cO r m:=by simp [cO]
theorem fo (r:RH) (w:Int):cO r [w]=if bd r w=0 then [] else [bd r w]:=by
 by_cases h:bd r w=0 <;> simp [cO,h]
theorem jl {r:RH}{ws:List Int}{k:Int}:k∈cO r ws↔∃ w∈ws,bd r w=k∧k≠0:=by
 simp only [cO,Sb,RN,decide_eq_true_eq];constructor
 ·rintro ⟨⟨w,h1,h2⟩,h3⟩;exact ⟨w,h1,h2,h3⟩
 ·rintro ⟨w,h1,h2,h3⟩;exact ⟨⟨w,h1,h2⟩,h3⟩
theorem vE {l:Nat}{q0 q1:Addr}{k:Int}{o:RO}{J:List Int->ae->Prop} (ho:aG r.objs k=some o)
  (hJ:∀ pre H',J pre H'->dd H' hb F r∧aj H' q0=some (Cv hb)∧aj H' q1=some (ac k))
  (hy:∀ pre x H',(∃ suf,jb r o=pre++x :: suf)->J pre H'->eP PP l #[ac x] (fun v H''=>v=.bool true∧J (pre++[x]) H'') H')
  (h0:J [] H) (h:∀ H',J (jb r o) H'->Q (.tuple #[]) H'):ag PP 213 #[.func (.yield l) #[] #[],.pointer (some q0),.pointer (some q1)] Q H:=by
 apply xH;dsimp only [bx,ah,jr,cd,aA,aZ,aM,aQ,ac,sx,ce,bt,am,az,bn,aI];obtain ⟨hR,c0,c1⟩:=hJ _ _ h0;have hg:=hR.wf.objs.good o (aN ho).1;have DS:=hg.many;refine ⟨_,c0,_,c1,jy hR ⟨_,_,rfl,?_⟩⟩;have Em:r.clsAt k=(o.cls,0):=by simp [RH.clsAt,ho]
 have s5:r.size k=((o.slots.length:Int),o.fmt,0):=by simp [RH.size,ho]
 rw [Em];simp only [show ((0:Int) != 0)=false from rfl,Rh];refine ⟨fun w H4=>w=[]∧J (cO r [o.cls]) H4,⟨_,c0,?_⟩,?_⟩
 ·refine oF hR (fun c9=>⟨_,_,rfl,?_⟩) fun he x=>⟨_,_,rfl,?_⟩
  ·simp only [Rs];refine kJ (hy [] _ H ?_ h0) ?_
   ·refine ⟨cO r (if o.fmt=0 then o.slots else []),?_⟩;have e:jb r o=cO r [o.cls]++cO r (if o.fmt=0 then o.slots else []):=by rw [←dA];rfl
    rw [e,fo,Re c9];rfl
   ·rintro v H3 ⟨rfl,h3⟩;refine ⟨_,rfl,?_⟩;simp only [Rq,Rh];refine ⟨trivial,?_⟩;rw [fo,Re c9];exact h3
  ·simp only [Rh];refine ⟨trivial,?_⟩;rw [fo,Rj he];exact h0
 ·rintro w H4 ⟨rfl,h4⟩ _;obtain ⟨GQ,c04,c14⟩:=hJ _ _ h4;refine ⟨rfl,_,c04,_,c14,oy GQ ⟨_,_,_,rfl,?_⟩⟩;rw [s5];simp only [show ((0:Int) != 0)=false from rfl,Rh];have e:jb r o=cO r [o.cls]++cO r (if o.fmt=0 then o.slots else []):=by rw [←dA];rfl
  by_cases hf:o.fmt=0
  ·have w7:(o.fmt != 0)=false:=by simp [hf]
   rw [w7];simp only [Rh];rw [Rj hf] at e;refine ⟨fun w H6=>∃ i:Nat,w=[ac i]∧i<=o.slots.length∧J (cO r [o.cls]++cO r (o.slots.take i)) H6,fun w _=>match w with
    | [.int _ i]=>(o.slots.length-i).toNat
    | _=>0,⟨0,rfl,RL _,by simpa [cO] using h4⟩,?_⟩
   rintro w H6 ⟨i,rfl,hi,h6⟩ _;refine ⟨_,rfl,?_⟩;rw [af];have e1:IntKind.wrap .i64 ((i:Int)+1)=((i+1:Nat):Int):=by rw [ai (by omega) (by omega)];omega
   refine ba (fun an=>?_) fun an=>?_
   ·have cx:i<o.slots.length:=by omega
    obtain ⟨Ht,c06,c16⟩:=hJ _ _ h6;have Lf:r.at k (i:Int)=(o.slots[i],0):=by
     simp only [RH.at,ho];rw [Re (by omega)];simp [cx]
    refine ⟨_,c06,_,c16,tY Ht ⟨_,_,rfl,?_⟩⟩;rw [Lf];simp only [show ((0:Int) != 0)=false from rfl,Rh];have lp:o.slots.take (i+1)=o.slots.take i++[o.slots[i]]:=by rw [RP];simp [cx]
    have JE:(((o.slots.length:Int)-((i+1:Nat):Int)).toNat)<((o.slots.length:Int)-(i:Int)).toNat:=by omega
    refine ⟨_,c06,oF Ht (fun c9=>⟨_,_,rfl,?_⟩) fun he x=>⟨_,_,rfl,?_⟩⟩
    ·simp only [Rs];refine kJ (hy _ _ H6 ?_ h6) ?_
     ·refine ⟨cO r (o.slots.drop (i+1)),?_⟩;have hd:o.slots=o.slots.take i++o.slots[i] :: o.slots.drop (i+1):=by simp
      have:cO r o.slots=cO r (o.slots.take i)++bd r o.slots[i] :: cO r (o.slots.drop (i+1)):=by
       conv=>lhs;rw [hd]
       rw [dA]
       congr 1
       rw [show o.slots[i] :: o.slots.drop (i+1)=[o.slots[i]]++o.slots.drop (i+1) from rfl,dA,fo,Re c9];rfl
      rw [e,this];simp
     ·rintro v H9 ⟨rfl,h9⟩;refine ⟨_,rfl,?_⟩;simp only [Rq,Rh];rw [e1];refine ⟨⟨i+1,rfl,cx,?_⟩,JE⟩;rw [lp,dA,fo r o.slots[i],Re c9,←R9];exact h9
    ·simp only [Rh];rw [e1];refine ⟨⟨i+1,rfl,cx,?_⟩,JE⟩;rw [lp,dA,fo r o.slots[i],Rj he,SN];exact h6
   ·have:i=o.slots.length:=by omega
    rw [this,Sl] at h6;exact h H6 (by rw [e];exact h6)
  ·have w7:(o.fmt != 0)=true:=by simp [hf]
   rw [w7];simp only [Rs];rw [Re hf] at e;exact h H4 (by rw [e];simpa [cO] using h4)
theorem zo {k:Int} (h:Q (.func (.func 213) #[] #[.pointer (some ⟨H.size,0,none⟩),.pointer (some ⟨H.size+1,0,none⟩)]) ((H.push (.cells #[Cv hb] 45)).push (.cells #[ac k] 3))):ag PP 196 #[Cv hb,ac k] Q H:=by
 apply wB;dsimp only [bf,ac,am,bg,az];simp only [RA];exact h
end
def eW (S:List Int):List (Key × Value):=S.map fun k=>(Key.int k,Value.int .i64 1)
theorem nR (S:List Int) (n:Int):cT (eW S) (.int n)=if n∈S then some (ac 1) else none:=by
 induction S with
 | nil=>rfl
 | cons x S ih =>
  unfold eW at *;simp only [R6,cT];by_cases h:n=x
  ·subst h;simp
  ·rw [Re (by simpa using h),ih];simp [h]
theorem tC {S:List Int}{n:Int} (h:n∉S):iC (eW S) (.int n) (ac 1)=eW (S++[n]):=by
 have:fx (eW S) (.int n)=none:=by rw [eE,nR,Re h]
 rw [iK this];simp [eW]
theorem su {S:List Int}:∀ p∈eW S,p.1.of (.int .i64):=by
 intro p hp;simp only [eW,RN] at hp;obtain ⟨k,_,rfl⟩:=hp;trivial
structure Vis (H:ae) (mb tb m:Nat) (S T:List Int) (G:aB):Prop where
 b1:bW H mb #[.map (some m)]
 b2:∃ a l c,bW H tb #[.slice a l c]∧bZ 1 H a l c (au T) G
 mp:cR H m (eW S)
 n1:mb≠tb
 n2:mb≠m
 n3:tb≠m
 n4:∀ x∈G,x≠mb∧x≠tb∧x≠m
theorem Vis.fr {H H':ae}{mb tb m:Nat}{S T:List Int}{G F:aB} (h:Vis H mb tb m S T G) (hf:Fr F H H') (h1:mb∉F) (h2:tb∉F) (h3:m∉F) (h4:bL G F):Vis H' mb tb m S T G:=by
 obtain ⟨a,l,c,hB,hO⟩:=h.b2;exact { h with b1:=h.b1.fr hf h1,b2:=⟨a,l,c,hB.fr hf h2,hO.fr hf h4⟩,mp:=h.mp.fr hf h3 }
theorem Vis.lt {H:ae}{mb tb m:Nat}{S T:List Int}{G:aB} (h:Vis H mb tb m S T G):∀ x∈mb :: tb :: m :: G,x<H.size:=by
 obtain ⟨a,l,c,hB,hO⟩:=h.b2;intro x hx;simp only [Rk] at hx;rcases hx with rfl | rfl | rfl | hx
 ·exact h.b1.lt
 ·exact hB.lt
 ·exact h.mp.lt
 ·exact hO.lt x hx
def d9 (p:List Int × List Int) (n:Int):List Int × List Int:=if n∈p.1 then p else (p.1++[n],p.2++[n])
section
variable {H:ae}{hb:Nat}{F:aB}{r:RH}{Q:QT}
theorem xr {mb tb m:Nat}{S T:List Int}{G:aB}{n:Int} (hV:Vis H mb tb m S T G) (hT:T.length<1000000000)
  (h:∀ H' G',Vis H' mb tb m (d9 (S,T) n).1 (d9 (S,T) n).2 G'->Up (mb :: tb :: m :: G) H (mb :: tb :: m :: G') H'->Q (.tuple #[]) H') :
  ag PP 194 #[ac n,Cv mb,Cv tb] Q H:=by
 have Gm:dL PP 138=some (.int .i64,some (ac 0)):=by kernel_rfl
 have hU:aY PP 109=some (1,8,some (ac 0)):=by kernel_rfl
 obtain ⟨a,l,c,hB,hO⟩:=hV.b2;have c1:aj H ⟨mb,0,none⟩=some (.map (some m)):=hV.b1.cell 0;apply yk;dsimp only [bf,ah,aO,gE,ac,ax,eS,bg,sy,bE,je,bi,bn];refine ⟨_,c1,gS (k:=.int n) Gm trivial su hV.mp ?_⟩;rw [nR];unfold d9 at h;by_cases hn:n∈S
 ·simp only [hn,if_true,Tq] at h ⊢;refine ⟨_,rfl,?_⟩;rw [show ((1:Int) == 0)=false from rfl];simp only [Rh];exact h H G hV (Up.refl _ _)
 ·simp only [hn,if_false,Option.getD_none] at h ⊢;refine ⟨_,rfl,?_⟩;rw [show ((0:Int) == 0)=true from rfl];simp only [Rs];refine ⟨_,c1,co (k:=.int n) Gm trivial su hV.mp fun H2 EU g9=>?_⟩;rw [tC hn] at EU;have An:bW H2 tb #[.slice a l c]:=hB.fr g9 (by simpa using hV.n3);have Hh:bW H2 mb #[.map (some m)]:=hV.b1.fr g9 (by simpa using hV.n2);have PD:bZ 1 H2 a l c (au T) G:=hO.fr g9 (fun x hx hm=>(hV.n4 x hx).2.2 (by simpa using hm));have hl:l=T.length:=by have:=hO.len;simpa [au] using this.symm
  refine ⟨_,_,_,An.cell 0,?_⟩;refine bD hU rfl (by kernel_rfl) PD rfl (by simp [dw]) (by omega) (by decide) (by decide) fun a' c' G2 H3 g1 g2 g3=>⟨_,_,_,rfl,?_⟩;have Lg:∀ x∈G,x≠mb∧x≠tb∧x≠m:=hV.n4;have ap:mb<H2.size∧tb<H2.size∧m<H2.size:=⟨Hh.lt,An.lt,EU.lt⟩;have IS:∀ x∈G2,x≠mb∧x≠tb∧x≠m:=fun x hx=>by
   rcases g2.2 x hx with h4 | h4
   ·exact Lg x h4
   ·omega
  have Mz:mb∉G:=fun hx=>(Lg _ hx).1 rfl;have MA:tb∉G:=fun hx=>(Lg _ hx).2.1 rfl;have PE:m∉G:=fun hx=>(Lg _ hx).2.2 rfl;have Ea:bW H3 tb #[.slice a l c]:=An.fr g2.1 MA;have Lh:bW H3 mb #[.map (some m)]:=Hh.fr g2.1 Mz;have IT:=EU.fr g2.1 PE;have FI:Fr [tb] H3 (bc H3 ⟨tb,0,none⟩ (.slice a' (l+1) c')):=Fr.set (by simp);refine ⟨Ea.wr (by simp),h _ G2 { b1:=Lh.fr FI (by simpa using hV.n1),b2:=⟨a',l+1,c',Ea.set 0 (.slice a' (l+1) c'),?_⟩,mp:=IT.fr FI (by simpa using (S4 hV.n3)),n1:=hV.n1,n2:=hV.n2,n3:=hV.n3,n4:=IS } ⟨?_,?_⟩⟩
  ·rw [bJ];exact g1.fr FI (fun x hx hm=>(IS x hx).2.1 (by simpa using hm))
  ·exact ((g9.mono (F':=mb :: tb :: m :: G) fun x hx=>by simp only [Rg] at hx;simp [hx]).trans (g2.1.mono fun x hx=>by simp [hx])).trans (FI.mono fun x hx=>by simp only [Rg] at hx;simp [hx])
  ·intro x hx;simp only [Rk] at hx ⊢;rcases hx with rfl | rfl | rfl | hx
   ·exact .inl (.inl rfl)
   ·exact .inl (.inr (.inl rfl))
   ·exact .inl (.inr (.inr (.inl rfl)))
   ·rcases g2.2 x hx with h4 | h4
    ·exact .inl (.inr (.inr (.inr h4)))
    ·exact .inr (Rr g9.1 h4)
structure Walk (r:RH) (ws:List Int) (S T:List Int):Prop where
 nd:S.Nodup
 ndT:T.Nodup
 sub:∀ k∈T,k∈S
 sound:∀ k∈S,Reaches r ws k
theorem nX (p:List Int × List Int) (n:Int):∃ nw,(d9 p n).1=p.1++nw∧(d9 p n).2=p.2++nw∧(n∈(d9 p n).1)∧(∀ x∈nw,x=n)∧(p.1.Nodup->(d9 p n).1.Nodup):=by
 unfold d9;by_cases h:n∈p.1
 ·exact ⟨[],by simp [h],by simp [h],by simp [h],by simp,fun hn=>by simp [h,hn]⟩
 ·refine ⟨[n],by simp [h],by simp [h],by simp [h],by simp,fun hn=>?_⟩;simp only [h,if_false];rw [SC];exact ⟨hn,by simp,fun a ha b hb e=>h (by simp only [Rg] at hb;rw [←hb,←e];exact ha)⟩
theorem nS (p:List Int × List Int) (xs:List Int):∃ nw,(xs.foldl d9 p).1=p.1++nw∧(xs.foldl d9 p).2=p.2++nw∧(∀ x∈xs,x∈(xs.foldl d9 p).1)∧(∀ x∈nw,x∈xs)∧(p.1.Nodup->(xs.foldl d9 p).1.Nodup):=by
 induction xs generalizing p with
 | nil=>exact ⟨[],by simp,by simp,by simp,by simp,fun h=>h⟩
 | cons x xs ih =>
  obtain ⟨n1,a1,a2,a3,a4,a5⟩:=nX p x;obtain ⟨n2,b1,b2,b3,b4,b5⟩:=ih (d9 p x);refine ⟨n1++n2,?_,?_,?_,?_,fun h=>b5 (a5 h)⟩
  ·rw [Tx,b1,a1,R9]
  ·rw [Tx,b2,a2,R9]
  ·intro y hy;rw [Tx];rcases Rk.1 hy with rfl | hy
   ·rw [b1];exact Sv _ a3
   ·exact b3 y hy
  ·intro y hy;rcases Rl.1 hy with hy | hy
   ·rw [a4 y hy];simp
   ·exact R0 _ (b4 y hy)
theorem Walk.fold {ws S T:List Int} (h:Walk r ws S T){xs:List Int} (hx:∀ x∈xs,Reaches r ws x):Walk r ws (xs.foldl d9 (S,T)).1 (xs.foldl d9 (S,T)).2:=by
 obtain ⟨nw,b1,b2,b3,b4,b5⟩:=nS (S,T) xs;have hnd:=b5 h.nd;simp only at b1 b2;refine { nd:=hnd,ndT:=?_,sub:=fun k hk=>?_,sound:=fun k hk=>?_ }
 ·rw [b2,SC];rw [b1,SC] at hnd;exact ⟨h.ndT,hnd.2.1,fun a ha b hb=>hnd.2.2 a (h.sub a ha) b hb⟩
 ·rw [b2] at hk;rw [b1];rcases Rl.1 hk with hk | hk
  ·exact Sv _ (h.sub k hk)
  ·exact S9 _ hk
 ·rw [b1] at hk;rcases Rl.1 hk with hk | hk
  ·exact h.sound k hk
  ·exact hx k (b4 k hk)
theorem Walk.le {ws S T:List Int} (h:Walk r ws S T) (hw:WFH r):S.length<=r.all.length∧T.length<=r.all.length:=by
 have h1:S.length<=r.all.length:=lP h.nd fun k hk=>(RH.mem_all hw).2 (h.sound k hk).there;exact ⟨h1,Rr (lP h.ndT h.sub) h1⟩
theorem kD {ws:List Int}{o:RO}{k:Int} (ho:aG r.objs k=some o) (hk:Reaches r ws k):∀ x∈jb r o,Reaches r ws x:=by
 intro x hx;obtain ⟨h1,h2⟩:=aN ho;obtain ⟨w,hw,rfl,c9⟩:=jl.1 hx;rw [←h2] at hk;rcases Rk.1 hw with rfl | hw
 ·exact .cls hk h1 c9
 ·by_cases hf:o.fmt=0
  ·rw [Rj hf] at hw;exact .slot hk h1 hf hw c9
  ·rw [Re hf] at hw;cases hw
def BA (r:RH) (S T:List Int):Prop:=∀ k∈S,k∉T->∀ o,aG r.objs k=some o->∀ x∈jb r o,x∈S
theorem Walk.closed {ws S:List Int} (h:Walk r ws S []) (hw:WFH r) (hd:BA r S []) (hr:∀ w∈ws,bd r w≠0->bd r w∈S):Closed3 r ws S:=by
 refine { sound:=h.sound,roots:=hr,cls:=fun o ho hk c9=>?_,slot:=fun o ho hk hf w LZ c9=>?_ }
 ·exact hd o.oop hk (by simp) o (cA hw.objs ho) _ (jl.2 ⟨o.cls,by simp,rfl,c9⟩)
 ·exact hd o.oop hk (by simp) o (cA hw.objs ho) _ (jl.2 ⟨w,by simp [hf,LZ],rfl,c9⟩)
end
abbrev eQ (m:Nat):Value:=.func (.func 194) #[] #[.pointer (some ⟨m+1,0,none⟩),.pointer (some ⟨m+2,0,none⟩)]
def St (H H2:ae) (S T:List Int):Prop:=∃ G,Vis H2 (H.size+1) (H.size+2) H.size S T G∧Fr [] H H2∧(∀ x∈G,H.size+4<=x)∧bW H2 (H.size+3) #[eQ H.size]
def qP (H:ae) (m:Nat):Nat:=match H[m]? with
 | some (.map es _)=>es.size
 | _=>0
def lk (H:ae) (b:Nat):Nat:=match aj H ⟨b,0,none⟩ with
 | some (.slice _ l _)=>l
 | _=>0
section
variable {H:ae}{hb:Nat}{F:aB}{r:RH}{Q:QT}
theorem St.lens {H2:ae}{S T:List Int} (h:St H H2 S T):qP H2 H.size=S.length∧lk H2 (H.size+2)=T.length:=by
 obtain ⟨G,hV,_⟩:=h;obtain ⟨ents,clock,hm,he,_⟩:=hV.mp;obtain ⟨a,l,c,hB,hO⟩:=hV.b2;constructor
 ·unfold qP;rw [hm]
  have:=congrArg List.length he;simpa [eW] using this
 ·unfold lk;rw [show aj H2 ⟨H.size+2,0,none⟩=some (.slice a l c) from hB.cell 0]
  have:=hO.len;simpa [au] using this.symm
theorem St.other {H2 H3:ae}{S T:List Int}{F:aB} (h:St H H2 S T) (hf:Fr F H2 H3) (hF:∀ b∈F,H.size+4<=b∧∀ c e f,H2[b]?≠some (Obj.cells c e f)):St H H3 S T:=by
 obtain ⟨G,hV,q9,hG,hB⟩:=h;have hn:∀ b,b<H.size+4->b∉F:=fun b hb hm=>by have:=(hF b hm).1;omega
 refine ⟨G,hV.fr hf (hn _ (by omega)) (hn _ (by omega)) (hn _ (by omega)) (fun x hx hm=>?_),?_,hG,hB.fr hf (hn _ (by omega))⟩
 ·obtain ⟨a,l,c,_,hO⟩:=hV.b2;rcases hO.2.2 with ⟨_,_,rfl⟩ | ⟨b',cs,_,rfl,⟨t,FJ⟩,_⟩
  ·cases hx
  ·simp only [Rg] at hx;subst hx;exact (hF x hm).2 _ _ _ FJ
 ·refine ⟨Rr q9.1 hf.1,fun b hb _=>?_⟩;rw [hf.2 b (RC hb q9.1) (hn b (by omega)),q9.2 b hb (by simp)]
theorem St.visitG {H2:ae}{S T:List Int}{G:aB} (hV:Vis H2 (H.size+1) (H.size+2) H.size S T G) (q9:Fr [] H H2) (hG:∀ x∈G,H.size+4<=x) (hB:bW H2 (H.size+3) #[eQ H.size]){n:Int} (hT:T.length<1000000000)
  (hq:∀ H' G',Vis H' (H.size+1) (H.size+2) H.size (d9 (S,T) n).1 (d9 (S,T) n).2 G'->Fr [] H H'->(∀ x∈G',H.size+4<=x)->bW H' (H.size+3) #[eQ H.size]->(∀ x∈G',x∈G∨H2.size<=x) ->
   Fr ((H.size+1) :: (H.size+2) :: H.size :: G) H2 H'->Q (.tuple #[]) H') :
  ag PP 194 #[ac n,.pointer (some ⟨H.size+1,0,none⟩),.pointer (some ⟨H.size+2,0,none⟩)] Q H2:=by
 refine xr hV hT fun H' G' MB hu=>hq H' G' MB ?_ (fun x hx=>?_) ?_ (fun x hx=>?_) hu.1
 ·refine ⟨Rr q9.1 hu.1.1,fun b hb _=>?_⟩;rw [hu.1.2 b (RC hb q9.1) (fun hm=>?_),q9.2 b hb (by simp)];simp only [Rk] at hm;rcases hm with rfl | rfl | rfl | hm
  ·omega
  ·omega
  ·omega
  ·have:=hG b hm;omega
 ·rcases hu.2 x (by simp [hx]) with h1 | h1
  ·simp only [Rk] at h1
   have:=MB.n4 x hx;rcases h1 with rfl | rfl | rfl | h1
   ·omega
   ·omega
   ·omega
   ·exact hG x h1
  ·have:=hB.lt;omega
 ·refine hB.fr hu.1 (fun hm=>?_);simp only [Rk] at hm;rcases hm with h1 | h1 | h1 | h1
  ·omega
  ·omega
  ·omega
  ·have:=hG _ h1;omega
 ·rcases hu.2 x (by simp [hx]) with h1 | h1
  ·simp only [Rk] at h1
   have:=MB.n4 x hx;rcases h1 with rfl | rfl | rfl | h1
   ·omega
   ·omega
   ·omega
   ·exact .inl h1
  ·exact .inr h1
theorem St.visit {H2:ae}{S T:List Int} (h:St H H2 S T){n:Int} (hT:T.length<1000000000) (hq:∀ H',St H H' (d9 (S,T) n).1 (d9 (S,T) n).2->Q (.tuple #[]) H') :
  ag PP 194 #[ac n,.pointer (some ⟨H.size+1,0,none⟩),.pointer (some ⟨H.size+2,0,none⟩)] Q H2:=by
 obtain ⟨G,hV,q9,hG,hB⟩:=h;exact St.visitG hV q9 hG hB hT fun H' G' h1 h2 h3 h4 _ _=>hq H' ⟨G',h1,h2,h3,h4⟩
theorem St.fr {H2:ae}{S T:List Int} (h:St H H2 S T):Fr [] H H2:=by obtain ⟨_,_,h,_⟩:=h;exact h
theorem St.cell {H2:ae}{S T:List Int} (h:St H H2 S T):aj H2 ⟨H.size+3,0,none⟩=some (eQ H.size):=by obtain ⟨_,_,_,_,h⟩:=h;exact h.cell 0
def eY (l:List (Key × Value)):List Int:=l.map fun p=>match p.1 with
 | .int k=>k
 | .str _=>0
theorem qF (S:List Int):eY (eW S)=S:=by
 unfold eY eW;rw [Tl];exact List.map_id' S
theorem RH.all_sorted (r:RH):r.all.Pairwise (· < ·):=by
 unfold RH.all RH.upto;refine List.Pairwise.filter _ ?_;rw [SL];exact List.pairwise_lt_range.imp fun h=>by omega
theorem ol {ws S:List Int} (hw:WFH r) (hnd:S.Nodup) (MC:∀ k,k∈S↔Reaches r ws k){out:List Int} (hp:out.Perm S):(out.mergeSort fun x y=>decide (x<=y))=r.reach ws:=by
 have hs:=List.pairwise_mergeSort (le:=fun x y:Int=>decide (x<=y)) (fun a b c h1 h2=>by simp at *;omega) (fun a b=>by simp;omega) out;have h1:(r.reach ws).Pairwise (· < ·):=(RH.all_sorted r).filter _;have h2:(r.reach ws).Nodup:=h1.imp fun h e=>by omega
 have DR:(out.mergeSort fun x y=>decide (x<=y)).Perm (r.reach ws):=by
  refine ((List.mergeSort_perm out _).trans hp).trans ?_;rw [Tf hnd h2];intro k;rw [MC,RH.mem_reach hw]
 exact List.Perm.eq_of_pairwise (fun a b _ _ h3 h4=>by simp at h3 h4;omega) hs (h1.imp fun h=>by simp;omega) DR
end
section
variable {H:ae}{hb:Nat}{F:aB}{r:RH}{Q:QT}
theorem CP {H6:ae}{S T:List Int}{k:Int}{o:RO}{X:Loop}{Kn Kr:ae->Prop}{Ke:List (Nat × (ae->Prop))} (hR:dd H hb F r) (lc:St H H6 S T){ws:List Int} (Eb:Walk r ws S T) (C8:aG r.objs k=some o) (JF:Reaches r ws k) (be:r.all.length<=65537)
  (hX:∀ {n1:Int}{Q':Value->ae->Prop}{H':ae},H'[H6.size+3]?=some (.loop X)->dR (H6.size+3) ⟨H.size+3,0,none⟩ n1 Q' H'->eP PP (H6.size+3) #[ac n1] Q' H') (EV:X.state=.ready) (FK:X.pending=none)
  (hK:∀ H8,St H H8 ((jb r o).foldl d9 (S,T)).1 ((jb r o).foldl d9 (S,T)).2->Kn H8) :
  ag PP 213 ((#[]++#[.func (.yield (H6.size+3)) #[] #[]])++#[.pointer (some ⟨H6.size,0,none⟩),.pointer (some ⟨H6.size+1,0,none⟩)]) (fun _ H7=>il (H6.size+3) Kn Kr Ke H7)
   ((((H6.push (.cells #[Cv hb] 45)).push (.cells #[ac k] 3)).push (.deferred (some []))).push (.loop X)):=by
 have hw:=hR.wf;have h4:H.size+4<=H6.size:=by obtain ⟨_,_,_,_,h⟩:=lc;have:=h.lt;omega
 show ag PP 213 #[.func (.yield (H6.size+3)) #[] #[],.pointer (some ⟨H6.size,0,none⟩),.pointer (some ⟨H6.size+1,0,none⟩)] _ _;have b0:bW ((((H6.push (.cells #[Cv hb] 45)).push (.cells #[ac k] 3)).push (.deferred (some []))).push (.loop X)) H6.size #[Cv hb]:=(((bW.new H6 _ _).push _).push _).push _;have b1:bW ((((H6.push (.cells #[Cv hb] 45)).push (.cells #[ac k] 3)).push (.deferred (some []))).push (.loop X)) (H6.size+1) #[ac k]:=by
  have:=((bW.new (H6.push (.cells #[Cv hb] 45)) #[ac k] 3).push (.deferred (some []))).push (.loop X);simpa using this
 have hl:((((H6.push (.cells #[Cv hb] 45)).push (.cells #[ac k] 3)).push (.deferred (some []))).push (.loop X))[H6.size+3]?=some (.loop X):=by
  have:H6.size+3=(((H6.push (.cells #[Cv hb] 45)).push (.cells #[ac k] 3)).push (.deferred (some []))).size:=by simp
  rw [this];exact S3
 obtain ⟨G0,gV0,gf0,gG,gB0⟩:=lc;have ET:Fr [] H6 ((((H6.push (.cells #[Cv hb] 45)).push (.cells #[ac k] 3)).push (.deferred (some []))).push (.loop X)):=(((Fr.push [] H6 _).more).more).more;have gV:=gV0.fr ET (by simp) (by simp) (by simp) (bL.nil_right _);have gf:=gf0.trans ET;have gB:=gB0.fr ET (by simp);have PF:∀ x∈G0,x<H6.size∨H6.size+4<=x:=fun x hx=>.inl (gV0.lt x (by simp [hx]));refine vE (hb:=hb) (F:=F) (r:=r) (k:=k) C8 (J:=fun pre H'=>(∃ G,Vis H' (H.size+1) (H.size+2) H.size (pre.foldl d9 (S,T)).1 (pre.foldl d9 (S,T)).2 G∧Fr [] H H'∧(∀ x∈G,H.size+4<=x)∧bW H' (H.size+3) #[eQ H.size]∧∀ x∈G,x<H6.size∨H6.size+4<=x)∧bW H' H6.size #[Cv hb]∧bW H' (H6.size+1) #[ac k]∧H'[H6.size+3]?=some (.loop X))
  (fun pre H' hJ=>⟨hR.fr hJ.1.choose_spec.2.1 (bL.nil_right F) (by simp),hJ.2.1.cell 0,hJ.2.2.1.cell 0⟩) ?_ ⟨⟨G0,gV,gf,gG,gB,PF⟩,b0,b1,hl⟩ ?_
 ·rintro pre x H' ⟨suf,he⟩ ⟨⟨G,pV,pf,pG,pB,pb⟩,k0,k1,Ei⟩;refine hX Ei ?_;unfold dR;dsimp only [bx,eH,vv,ac,az];have ME:Walk r ws (pre.foldl d9 (S,T)).1 (pre.foldl d9 (S,T)).2:=Eb.fold fun y hy=>kD C8 JF y (by rw [he];simp [hy]);have w7:∀ (Y:ae) (o:Obj),Fr [H6.size+3] Y (Y.setIfInBounds (H6.size+3) o):=fun Y o=>Fr.setObj _ _ _;have keepV:∀ {Y:ae}{o:Obj}{S' T':List Int}{G':aB},Vis Y (H.size+1) (H.size+2) H.size S' T' G'->Fr [] H Y->bW Y (H.size+3) #[eQ H.size]->(∀ x∈G',x<H6.size∨H6.size+4<=x) ->
    Vis (Y.setIfInBounds (H6.size+3) o) (H.size+1) (H.size+2) H.size S' T' G'∧Fr [] H (Y.setIfInBounds (H6.size+3) o)∧bW (Y.setIfInBounds (H6.size+3) o) (H.size+3) #[eQ H.size]:=by
   intro Y o S' T' G' hv hf hB ui;refine ⟨hv.fr (w7 Y o) (by simp;omega) (by simp;omega) (by simp;omega) (fun x hx hm=>?_),⟨by simpa using hf.1,fun b er _=>?_⟩,hB.fr (w7 Y o) (by simp;omega)⟩
   ·have h1:=Rg.1 hm;rcases ui x hx with h2 | h2 <;> omega
   ·rw [(w7 Y o).2 b (RC er hf.1) (fun hm=>by have:=Rg.1 hm;omega),hf.2 b er (by simp)]
  have Ih:=(Rt.1 Ei).1;have DI:(H'.setIfInBounds (H6.size+3) (Obj.loop { X with state:=.busy }))[H6.size+3]?=some (.loop { X with state:=.busy }):=by simp [Ih]
  have k02:=k0.fr (w7 H' (Obj.loop { X with state:=.busy })) (by simp);have k12:=k1.fr (w7 H' (Obj.loop { X with state:=.busy })) (by simp);obtain ⟨qV,qf,qB⟩:=keepV (o:=Obj.loop { X with state:=.busy }) pV pf pB pb;refine ⟨X,Ei,EV,.inl ⟨_,_,_,qB.cell 0,?_⟩⟩;show ag PP 194 #[ac x,.pointer (some ⟨H.size+1,0,none⟩),.pointer (some ⟨H.size+2,0,none⟩)] _ _;have CI:=ME.le hw;refine St.visitG qV qf pG qB (by omega) fun H3 G' v1 v2 v3 v4 v5 v6=>⟨rfl,?_⟩;have MF:∀ b,(b=H6.size∨b=H6.size+1∨b=H6.size+3)->b∉(H.size+1) :: (H.size+2) :: H.size :: G:=by
   intro b er hm;simp only [Rk] at hm;rcases hm with h1 | h1 | h1 | h1
   ·omega
   ·omega
   ·omega
   ·rcases pb b h1 with h2 | h2 <;> omega
  have l3:H3[H6.size+3]?=some (.loop { X with state:=.busy }):=(v6.2 _ (by simpa using Ih) (MF _ (.inr (.inr rfl)))).trans DI;have Lh:∀ x∈G',x<H6.size∨H6.size+4<=x:=fun x hx=>by
   rcases v5 x hx with h1 | h1
   ·exact pb x h1
   ·have:H6.size+3<(H'.setIfInBounds (H6.size+3) (Obj.loop { X with state:=.busy })).size:=by simpa using Ih
    omega
  have MG:({ ({ X with state:=.busy }:Loop) with state:=.ready,pending:=none }:Loop)=X:=by
   cases X;simp only at EV FK;subst EV;subst FK;rfl
  refine ⟨_,l3,rfl,?_⟩;rw [MG];obtain ⟨u1,u2,u3⟩:=keepV (o:=Obj.loop X) v1 v2 v4 Lh;have hl3lt:=(Rt.1 l3).1;refine ⟨⟨G',?_,u2,v3,u3,Lh⟩,(k02.fr v6 (MF _ (.inl rfl))).fr (w7 H3 _) (by simp),(k12.fr v6 (MF _ (.inr (.inl rfl)))).fr (w7 H3 _) (by simp),by simp [hl3lt]⟩;rw [TH];exact u1
 ·rintro H' ⟨⟨G,pV,pf,pG,pB,pb⟩,k0,k1,Ei⟩;refine ⟨X,Ei,by rw [EV];simp,?_⟩;rw [FK];exact hK _ (St.other ⟨G,pV,pf,pG,pB⟩ (Fr.setObj _ _ _) (by
   intro b er;have er:=Rg.1 er;subst er;exact ⟨by omega,fun c e f hc=>by rw [Ei] at hc;cases hc⟩))
theorem xG (hR:dd H hb F r){a2:Option Addr}{l2 c2:Nat}{ws:List Int} (hk:Rd 1 H a2 l2 (au ws)) (C5:l2<=1000000)
  (h:∀ a l c G H',bZ 1 H' a l c (au (r.reach ws)) G->Fr [] H H'->(∀ x∈G,H.size<=x)->Q (.tuple #[.slice a l c,ac 0]) H'):ag PP 166 #[Cv hb,.slice a2 l2 c2] Q H:=by
 have hw:=hR.wf;have Gm:dL PP 138=some (.int .i64,some (ac 0)):=by kernel_rfl
 have hU:aY PP 109=some (1,8,some (ac 0)):=by kernel_rfl
 have DI:l2=ws.length:=by have:=hk.1;simpa [au] using this.symm
 have be:r.all.length<=65537:=by
  have:=r.upto_len (r.oops+1).toNat;have h1:=hw.o1;exact Rr this (by omega)
 apply wQ;unfold Bs;dsimp only [bf,pi,mJ,bx,vu,ah,jr,eH,bA,aZ,vv,aM,aO,gE,bl,ac,bm,Cr,Bi,ax,bt,eS,ch,am,bg,sy,bE,az,bi,bn,aI];simp only [av,d6,RA,Rf,Rh,aF,RR,R3,R7,RX,RF,RV,R2,RT,RU,Nat.add_assoc,Nat.reduceAdd];have e1:H.size+1=(H.push (.map #[] 0)).size:=by simp
 have e3:H.size+3=(((H.push (.map #[] 0)).push (.cells #[.map (some H.size)] 138)).push (.cells #[.slice none 0 0] 109)).size:=by simp
 have w1:Wr ((H.push (.map #[] 0)).push (.cells #[.map none] 138)) ⟨H.size+1,0,none⟩:=by rw [e1];exact aF.2 (by simp)
 have x1:bc ((H.push (.map #[] 0)).push (.cells #[.map none] 138)) ⟨H.size+1,0,none⟩ (.map (some H.size))=(H.push (.map #[] 0)).push (.cells #[.map (some H.size)] 138):=by rw [e1,av];rfl
 rw [x1];refine ⟨w1,?_⟩;have w2:Wr ((((H.push (.map #[] 0)).push (.cells #[.map (some H.size)] 138)).push (.cells #[.slice none 0 0] 109)).push (.cells #[.nilFunc] 236)) ⟨H.size+3,0,none⟩:=by rw [e3];exact aF.2 (by simp)
 have x2:bc ((((H.push (.map #[] 0)).push (.cells #[.map (some H.size)] 138)).push (.cells #[.slice none 0 0] 109)).push (.cells #[.nilFunc] 236)) ⟨H.size+3,0,none⟩ (eQ H.size)=(((H.push (.map #[] 0)).push (.cells #[.map (some H.size)] 138)).push (.cells #[.slice none 0 0] 109)).push (.cells #[eQ H.size] 236):=by rw [e3,av];rfl
 refine ⟨w2,?_⟩;rw [x2];have Ii:St H ((((H.push (.map #[] 0)).push (.cells #[.map (some H.size)] 138)).push (.cells #[.slice none 0 0] 109)).push (.cells #[eQ H.size] 236)) [] []:=by
  have f0:Fr [] H (H.push (.map #[] 0)):=Fr.push _ _ _;refine ⟨[],{ b1:=?_,b2:=⟨none,0,0,?_,bZ.nil 1 _⟩,mp:=?_,n1:=by omega,n2:=by omega,n3:=by omega,n4:=by simp },f0.more.more.more,by simp,?_⟩
  ·have:=((bW.new (H.push (.map #[] 0)) #[.map (some H.size)] 138).push (.cells #[.slice none 0 0] 109)).push (.cells #[eQ H.size] 236);simpa using this
  ·have:=(bW.new ((H.push (.map #[] 0)).push (.cells #[.map (some H.size)] 138)) #[.slice none 0 0] 109).push (.cells #[eQ H.size] 236);simpa using this
  ·exact (cR.new H).fr (G:=[]) ((Fr.push [] _ _).more.more) (by simp)
  ·have:=bW.new (((H.push (.map #[] 0)).push (.cells #[.map (some H.size)] 138)).push (.cells #[.slice none 0 0] 109)) #[eQ H.size] 236;simpa using this
 generalize ((((H.push (.map #[] 0)).push (.cells #[.map (some H.size)] 138)).push (.cells #[.slice none 0 0] 109)).push (.cells #[eQ H.size] 236))=H0 at Ii ⊢;have Ft:bL F []:=bL.nil_right F;have MH:∀ {H2:ae}{S T:List Int},St H H2 S T->dd H2 hb F r:=fun hs=>hR.fr hs.fr Ft (by simp);refine ⟨fun w H2=>∃(i:Nat) (S:List Int),w=[ac i]∧i<=l2∧St H H2 S S∧Walk r ws S S∧∀ w∈ws.take i,bd r w≠0->bd r w∈S,fun w _=>match w with
  | [.int _ i]=>(l2-i).toNat
  | _=>0,⟨0,[],rfl,RL _,Ii,⟨by simp,by simp,by simp,by simp⟩,by simp⟩,?_⟩
 rintro w4 H2 ⟨i,S,rfl,hi,lc,Eb,Ec⟩ g5;refine ⟨_,rfl,?_⟩;rw [af];refine ba (fun an=>?_) fun an=>?_
 ·
  have cx:i<ws.length:=by omega
  obtain ⟨p,rfl,al,ap⟩:=(hk.fr' lc.fr (by simp)).int (i:=(i:Int)) (by omega) an;rw [Ro] at al ap;have hx:ws.getD i 0=ws[i]:=by simp [ap]
  rw [hx] at al;have lp:ws.take (i+1)=ws.take i++[ws[i]]:=by rw [RP];simp [ap]
  have e:IntKind.wrap .i64 ((i:Int)+1)=((i+1:Nat):Int):=by rw [ai (by omega) (by omega)];omega
  have JE:((l2:Int)-((i+1:Nat):Int)).toNat<((l2:Int)-(i:Int)).toNat:=by omega
  refine ⟨⟨by omega,an⟩,_,rfl,_,by rw [Ro,Rn];exact al,?_⟩;rw [e];refine oF (MH lc) (fun c9=>⟨_,_,rfl,?_⟩) fun he x=>⟨_,_,rfl,?_⟩
  ·simp only [Rs];refine .inl ⟨_,_,_,lc.cell,?_⟩;have CI:=Eb.le hw;refine lc.visit (by omega) fun H' JG=>⟨rfl,⟨i+1,(d9 (S,S) (bd r ws[i])).1,rfl,by omega,?_,?_,?_⟩,JE⟩
   ·have:(d9 (S,S) (bd r ws[i])).2=(d9 (S,S) (bd r ws[i])).1:=by unfold d9;split <;> rfl
    rw [this] at JG;exact JG
   ·have:=Eb.fold (xs:=[bd r ws[i]]) (by intro x hx;simp only [Rg] at hx;subst hx;exact .root (by simp) c9);simp only [Tx,List.foldl_nil] at this;have e2:(d9 (S,S) (bd r ws[i])).2=(d9 (S,S) (bd r ws[i])).1:=by unfold d9;split <;> rfl
    rw [e2] at this;exact this
   ·intro w w5 GR;obtain ⟨nw,a1,_,a3,_⟩:=nX (S,S) (bd r ws[i]);rw [lp] at w5;rcases Rl.1 w5 with w5 | w5
    ·rw [a1];exact Sv _ (Ec w w5 GR)
    ·simp only [Rg] at w5;subst w5;exact a3
  ·simp only [Rh];refine ⟨⟨i+1,S,rfl,by omega,lc,Eb,fun w w5 GR=>?_⟩,JE⟩;rw [lp] at w5;rcases Rl.1 w5 with w5 | w5
   ·exact Ec w w5 GR
   ·simp only [Rg] at w5;subst w5;exact absurd he GR
 ·
  have p8:i=ws.length:=by omega
  rw [p8,Sl] at Ec;refine ⟨fun w H5=>w=[]∧∃ S T,St H H5 S T∧Walk r ws S T∧BA r S T∧∀ w∈ws,bd r w≠0->bd r w∈S,fun _ H5=>(r.all.length-qP H5 H.size)+lk H5 (H.size+2),⟨rfl,S,S,lc,Eb,fun k h1 h2=>absurd h1 h2,Ec⟩,?_⟩;clear lc Eb Ec;rintro w15 H5 ⟨rfl,S,T,lc,Eb,Oo,Ec⟩ g16;obtain ⟨Oq,Gn⟩:=lc.lens;have Hu:=Eb.le hw;have MI:=lc;obtain ⟨G,hV,q9,hG,Ot⟩:=MI;obtain ⟨a,l,c,MJ,hO⟩:=hV.b2;have hl:l=T.length:=by have:=hO.len;simpa [au] using this.symm
  have ct:aj H5 ⟨H.size+2,0,none⟩=some (.slice a l c):=MJ.cell 0;refine ⟨rfl,_,_,_,ct,?_⟩;rw [af];refine ba (fun p6=>?_) fun p6=>?_
  ·
   have MK:0<T.length:=by omega
   obtain ⟨T0,k,rfl⟩:∃ T0 k,T=T0++[k]:=by
    rcases Sg T with h1 | ⟨m,x,h1⟩
    ·rw [h1] at MK;simp at MK
    ·exact ⟨m,x,by simpa using h1⟩
   have hlT:l=T0.length+1:=by simpa using hl
   have e2:IntKind.wrap .i64 ((l:Int)-1)=(T0.length:Int):=by rw [ai (by omega) (by omega)];omega
   have hTb:T0.length+1<=r.all.length:=by have:=Hu.2;simpa using this
   have hlec:=hO.2.1;refine ⟨_,_,_,ct,_,_,_,ct,?_⟩;rw [e2];obtain ⟨p,rfl,al,ap⟩:=hO.rd.int (i:=(T0.length:Int)) (by omega) (by omega);rw [Ro] at al;have hx:(T0++[k]).getD T0.length 0=k:=by simp
   rw [hx] at al;refine ⟨⟨by omega,by omega⟩,_,rfl,k,by rw [Ro,Rn];exact al,_,_,_,ct,_,_,_,ct,?_⟩;rw [e2];rw [Ro];refine ⟨⟨by omega,by omega⟩,MJ.wr (by simp),?_⟩;have JH:St H (bc H5 ⟨H.size+2,0,none⟩ (.slice (some p) T0.length c)) S T0:=by
    have FI:Fr [H.size+2] H5 (bc H5 ⟨H.size+2,0,none⟩ (.slice (some p) T0.length c)):=Fr.set (by simp);have PG:=hV.n4;refine ⟨G,{ b1:=hV.b1.fr FI (by simp),b2:=⟨some p,T0.length,c,MJ.set 0 _,?_⟩,mp:=hV.mp.fr FI (by simp),n1:=hV.n1,n2:=hV.n2,n3:=hV.n3,n4:=hV.n4 },?_,hG,Ot.fr FI (by simp)⟩
    ·have h1:=hO.fr FI (fun x hx hm=>(PG x hx).2.1 (by simpa using hm));refine ⟨by simp [au],by omega,?_⟩;rcases h1.2.2 with ⟨h2,_,_⟩ | ⟨b',cs,h2,h3,h4,h5,h6⟩
     ·cases h2
     ·refine .inr ⟨b',cs,h2,h3,h4,h5,?_⟩;have h7:(cs.toList.take (l*1)).take T0.length=(au (T0++[k])).take T0.length:=by rw [h6]
      have h8:(au T0).take T0.length=au T0:=RJ (by simp [au]);have h9:min T0.length (l*1)=T0.length:=by omega
      rw [List.take_take,bJ,Sn (by simp [au]),h8,h9] at h7;rw [←h7,Rn]
    ·refine ⟨Rr q9.1 FI.1,fun b hb _=>?_⟩;rw [FI.2 b (RC hb q9.1) (by simp;omega),q9.2 b hb (by simp)]
   have IU:∀ H6,H6=bc H5 ⟨H.size+2,0,none⟩ (.slice (some p) T0.length c)->H6=bc H5 ⟨H.size+2,0,none⟩ (.slice (some p) T0.length c):=fun _ h=>h;generalize hH6:bc H5 ⟨H.size+2,0,none⟩ (.slice (some p) T0.length c)=H6 at JH ⊢;clear IU;have PH:k∈S:=Eb.sub k (by simp);have JF:Reaches r ws k:=Eb.sound k PH;obtain ⟨o,C8⟩:∃ o,aG r.objs k=some o:=by
    cases ho:aG r.objs k with
    | none=>exact absurd ho JF.there
    | some o=>exact ⟨o,rfl⟩
   refine zo (H:=H6) (hb:=hb) ⟨_,_,_,rfl,fun fn26=>?_⟩;have JI:Walk r ws S T0:={ Eb with ndT:=Eb.ndT.sublist (by simp),sub:=fun x hx=>Eb.sub x (by simp [hx]) };simp only [RA,Nat.add_assoc,Nat.reduceAdd];refine CP (H:=H) (ws:=ws) hR JH JI C8 JF be (fun hl hq=>gA hl hq) rfl rfl fun H8 JJ=>?_;have GM:∀ x∈jb r o,Reaches r ws x:=kD C8 JF;obtain ⟨nw,b1,b2,b3,b4,b5⟩:=nS (S,T0) (jb r o);simp only at b1 b2;have JK:=JI.fold GM;obtain ⟨PI,PJ⟩:=JJ.lens;have hle8:=JK.le hw;refine ⟨⟨trivial,_,_,JJ,JK,fun j Fn C7 o' C2 x hx=>?_,fun w w5 c9=>?_⟩,?_⟩
   ·by_cases I4:j=k
    ·subst I4;rw [C8] at C2;cases C2;exact b3 x hx
    ·rw [b2] at C7;rw [b1] at Fn ⊢;have PL:j∈S:=by
      rcases Rl.1 Fn with h1 | h1
      ·exact h1
      ·exact absurd (S9 T0 h1) C7
     refine Sv _ (Oo j PL (fun hm=>?_) o' C2 x hx);rcases Rl.1 hm with h1 | h1
     ·exact C7 (Sv _ h1)
     ·simp only [Rg] at h1;exact I4 h1
   ·rw [b1];exact Sv _ (Ec w w5 c9)
   ·rw [PI,PJ,Oq,Gn];have l1:=congrArg List.length b1;have l2:=congrArg List.length b2;simp only [Rz,RF,RV] at l1 l2 ⊢;omega
  ·
   have DL:T=[]:=RM (by omega);subst DL;have r0:=Eb.closed hw Oo Ec;have cm:aj H5 ⟨H.size+1,0,none⟩=some (.map (some H.size)):=hV.b1.cell 0;refine ⟨_,cm,rE Gm hV.mp ⟨_,rfl,?_⟩⟩;have Ou:(eW S).length=S.length:=by simp [eW]
   have hSle:=Hu.1;refine ef hU rfl (Sc _) (by omega) (by omega) (by decide) fun e=>⟨_,_,_,rfl,?_⟩;have ET:Fr [] H5 (H5.push (.cells (Array.replicate ((eW S).length:Int).toNat (ac 0)) e)):=Fr.push _ _ _;refine ⟨_,(show _=some (Value.map (some H.size)) from (hV.b1.fr ET (by simp)).cell 0),?_⟩;refine oL Gm (hV.mp.fr ET (by simp)) fun H11 Ov Ij=>?_;have JM:H.size+3<H5.size:=Ot.lt;refine ⟨fun w HH=>∃(a:Option Addr) (l c:Nat) (G':aB) (done:List (Key × Value)),w=[.slice a l c]∧fz HH (H5.size+1) H.size (eW S) done∧bZ 1 HH a l c (au (eY done)) G'∧Fr [] H HH∧(∀ x∈G',H5.size<=x∧x≠H5.size+1)∧G'≠[]∧H5.size+2<=HH.size,fun w _=>match w with
    | [.slice _ l _]=>S.length-l
    | _=>0,⟨_,_,_,[H5.size],[],rfl,?_,?_,?_,?_,by simp,?_⟩,?_⟩
   ·simpa using Ov
   ·exact (bZ.newMem H5 ((eW S).length:Int).toNat e).fr Ij (by simp)
   ·exact (q9.trans ET).trans Ij
   ·simp
   ·have:=Ij.1;simp only [RA] at this;have h2:=Ov;obtain ⟨_,_,_,_,_,_,_,_,h3,_⟩:=h2
    have:=(Rt.1 h3).1;simp only [RA] at this;omega
   ·rintro w HH ⟨a1,l1,c1,G1,done,rfl,JN,C3,cp,IV,ML,hsz1⟩ g;refine ⟨_,_,_,rfl,?_⟩;have Ek:l1=done.length:=by have:=C3.len;simpa [au,eY] using this.symm
    have MM:=JN.len;rw [Ou] at MM;simp only [RA];refine qh JN (fun DR=>.inl ⟨rfl,?_⟩) fun p H12 hp Ik g9=>.inr ⟨_,_,rfl,?_⟩
    ·
     have My:(eY done).Perm S:=by
      have:=TG (fun p:Key × Value=>(eY [p]).headD 0) DR;have e:∀ l:List (Key × Value),l.map (fun p=>(eY [p]).headD 0)=eY l:=fun l=>by unfold eY;apply List.map_congr_left;intro p _;simp
      rw [e,e,qF] at this;exact this
     rcases C3.2.2 with ⟨_,_,h0⟩ | ⟨b,cs,h1,h2,_⟩
     ·exact absurd h0 ML
     ·subst h1;subst h2;refine me Tryz.sortI ⟨_,Tryz.func197,rfl⟩ C3 (by omega) fun H13 JO JP=>⟨rfl,fun H14 Dn=>?_⟩;rw [ol hw Eb.nd (fun k=>r0.iff) My] at JO;have hb:=IV b (by simp);have MN:Fr [] H H13:=⟨Rr cp.1 JP.1,fun x hx _=>by
       rw [JP.2 x (RC hx cp.1) (fun hm=>by have:=Rg.1 hm;have:=q9.1;omega),cp.2 x hx (by simp)]⟩
      exact h _ _ _ [b] H14 (fT.own Dn JO) (fT.fr Dn MN rfl) (fun x hx=>by have:=Rg.1 hx;have:=q9.1;omega)
    ·obtain ⟨n,hn⟩:∃ n,p.1=.int n:=by
      simp only [eW,RN] at hp;obtain ⟨k,_,rfl⟩:=hp;exact ⟨k,rfl⟩
     refine oT Ik ⟨n,p.2,by rw [hn];rfl,?_⟩;have JQ:(H5.size+1)∉G1:=fun hm=>(IV _ hm).2 rfl;have Gl:bZ 1 H12 a1 l1 c1 (au (eY done)) G1:=C3.fr g9 (fun x hx hm=>(IV x hx).2 (by simpa using hm));have w6:Fr [] H H12:=⟨Rr cp.1 g9.1,fun x hx _=>by
      rw [g9.2 x (RC hx cp.1) (fun hm=>by have:=Rg.1 hm;have:=q9.1;omega),cp.2 x hx (by simp)]⟩
     have JR:=Ik.len;rw [Ou,Rz] at JR;simp only [RF,RV] at JR;refine bD hU rfl (by kernel_rfl) Gl rfl (by simp [dw]) (by omega) (by decide) (by decide) fun a' c' G2 H3 g1 g2 g3=>⟨_,_,_,rfl,⟨a',l1+1,c',G2,done++[p],rfl,?_,?_,?_,?_,?_,?_⟩,?_⟩
     ·exact Ik.fr g2.1 JQ (fun hm=>by have:=(IV _ hm).1;have:=q9.1;omega)
     ·have:eY (done++[p])=eY done++[n]:=by simp [eY,hn]
      rw [this,bJ];exact g1
     ·refine ⟨Rr w6.1 g2.1.1,fun x hx _=>?_⟩;rw [g2.1.2 x (RC hx w6.1) (fun hm=>by have:=(IV _ hm).1;have:=q9.1;omega),w6.2 x hx (by simp)]
     ·intro x hx;rcases g2.2 x hx with h4 | h4
      ·exact IV x h4
      ·have:=g9.1;omega
     ·intro h0;subst h0;rcases g1.2.2 with ⟨_,h1,_⟩ | ⟨_,_,_,h1,_⟩
      ·have:=g1.2.1;omega
      ·cases h1
     ·have:=g9.1;have:=g2.1.1;omega
     ·omega
end
section
variable {H:ae}{Q:QT}
theorem pF {a:Option Addr}{l c:Nat}{ws:List Int}{f:Nat}{p:Int->Bool} (hk:Rd 1 H a l (au ws)) (C5:l<=1000000000)
  (hf:∀ x Q',Q' (.bool (p x)) H->ag PP f ((#[]++#[ac x])++#[]) Q' H) (h1:(∃ w∈ws,p w=true)->∀ n:Int,0<=n->Q (ac n) H) (h2:(∀ w∈ws,p w=false)->Q (ac (-1)) H):ag PP 110 #[.slice a l c,.func (.func f) #[] #[]] Q H:=by
 have hl:l=ws.length:=by have:=hk.1;simpa [au] using this.symm
 apply wX;dsimp only [bK,ah,aZ,aM,bl,ac,bm,ce,bt,aI];refine ⟨fun w H'=>H'=H∧∃ i:Nat,w=[ac i]∧i<=l∧∀ w∈ws.take i,p w=false,fun w _=>match w with
  | [.int _ i]=>(l-i).toNat
  | _=>0,⟨rfl,0,rfl,RL _,by simp⟩,?_⟩
 rintro w H1 ⟨rfl,i,rfl,hi,be⟩ _;refine ⟨_,rfl,?_⟩;rw [af];refine ba (fun an=>?_) fun an=>?_
 ·obtain ⟨q,rfl,al,ap⟩:=hk.int (i:=(i:Int)) (by omega) an;rw [Ro] at al ap;have hx:ws.getD i 0=ws[i]:=by simp [ap]
  rw [hx] at al;have lp:ws.take (i+1)=ws.take i++[ws[i]]:=by rw [RP];simp [ap]
  have e:IntKind.wrap .i64 ((i:Int)+1)=((i+1:Nat):Int):=by rw [ai (by omega) (by omega)];omega
  refine ⟨⟨by omega,an⟩,_,rfl,_,by rw [Ro,Rn];exact al,hf _ _ ⟨_,rfl,?_⟩⟩;cases hp:p ws[i] with
  | true=>exact h1 ⟨_,RG ap,hp⟩ _ (by omega)
  | false =>
   simp only [Rh];rw [e];refine ⟨⟨trivial,i+1,rfl,by omega,fun w hw=>?_⟩,by simp;omega⟩;rw [lp] at hw;rcases Rl.1 hw with hw | hw
   ·exact be w hw
   ·simp only [Rg] at hw;rw [hw];exact hp
 ·have:i=ws.length:=by omega
  rw [this,Sl] at be;exact h2 be
theorem vK {w:Int} (hk:dG H) (h:Q (.bool (!decide (d8 w))) H):ag PP 49 #[ac w] Q H:=by
 apply A3;dsimp only [bx,aH,ac];refine iy hk ⟨_,rfl,?_⟩
 have:(bT w == 0)=!decide (d8 w):=by rw [bq];unfold d8;by_cases h:bT w=0 <;> simp [h]
 rw [this];exact h
theorem mQ {a:Option Addr}{l c:Nat}{ws:List Int} (hK:dG H) (hk:Rd 1 H a l (au ws)) (C5:l<=1000000000) (h:Q (.bool (decide (∃ w∈ws,¬ d8 w))) H):ag PP 48 #[.slice a l c,.func (.func 49) #[] #[]] Q H:=by
 apply zS;dsimp only [bx,aH,ax];refine pF (p:=fun w=>!decide (d8 w)) hk C5 (fun x Q' hq=>?_) (fun he n hn=>⟨_,rfl,?_⟩) fun be=>⟨_,rfl,?_⟩
 ·show ag PP 49 #[ac x] Q' H;exact vK hK hq
 ·have:(∃ w∈ws,¬ d8 w):=by obtain ⟨w,h1,h2⟩:=he;exact ⟨w,h1,by simpa using h2⟩
  rw [SB this] at h;rw [SB (show n ≥ 0 from hn)];exact h
 ·have:¬ (∃ w∈ws,¬ d8 w):=fun ⟨w,h1,h2⟩=>by have:=be w h1;simp at this;exact h2 this
  rw [Tj this] at h;exact h
theorem ul {a:Option Addr}{l c:Nat}{ws:List Int} (hk:Rd 1 H a l (au ws)) (C5:l<=1000000000) (h:∀ a' c' F H',bZ 1 H' a' l c' (au ws) F->Fr [] H H'->(∀ x∈F,H.size<=x)->Q (.slice a' l c') H'):ag PP 178 #[.slice a l c] Q H:=by
 have hU:aY PP 44=some (1,8,some (ac 0)):=by kernel_rfl
 apply wu;dsimp only [bf,ah,ax,ch,bg,bE];cases a with
 | none =>
  have h0:=hk.2.1 rfl;subst h0
  have:ws=[]:=RM (by have:=hk.1;simpa [au] using this);subst this;exact h none 0 [] H (bZ.nil 1 H) (Fr.refl _ _) (by simp)
 | some p =>
  simp only [Rf,Rh];have Dq:bZ 1 (H.push (.cells #[] 31)) (some ⟨H.size,0,none⟩) 0 0 (au []) [H.size]:=⟨by simp [au],Rw _,.inr ⟨H.size,_,rfl,rfl,bW.new _ _ _,by simp,by simp [au]⟩⟩;refine dp hU rfl (by kernel_rfl) Dq (hk.fr' (Fr.push [] _ _) (by simp)) eF (by omega) (by decide) (by decide) fun a' c' F' H' g1 g2 g3=>⟨_,_,_,rfl,?_⟩;have p5:=Up.fresh (H:=H) (Fr.push [] H _) g2 (by simp)
  have:=h a' c' F' H' (by simpa [au] using g1) p5.1 p5.2;simpa using this
end
def fO (H:ae) (b:Nat) (F:aB) (s:SP):Prop:=∃ hb a l c F1 F2 po b5 b6 b7,F=b :: (F1++F2)∧b∉F1∧b∉F2∧bL F1 F2∧b≠aP∧aP∉F2 ∧
 bW H b #[Cv hb,ac s.king,.slice a l c,.bool s.op,.pointer po,ac b5,ac b6,ac b7]∧dd H hb F1 s.h∧bZ 1 H a l c (au s.stack) F2∧WFS s ∧
 (s.op=true->po=some ⟨hb,0,none⟩∧b5=s.born∧b6=s.turn∧b7=s.mark)
theorem fO.wf {H:ae}{b:Nat}{F:aB}{s:SP} (h:fO H b F s):WFS s:=by
 obtain ⟨_,_,_,_,_,_,_,_,_,_,_,_,_,_,_,_,_,_,_,h,_⟩:=h;exact h
theorem fO.lt {H:ae}{b:Nat}{F:aB}{s:SP} (h:fO H b F s):∀ x∈F,x<H.size:=by
 obtain ⟨hb,a,l,c,F1,F2,po,b5,b6,b7,rfl,h1,h2,h3,k1,k2,hB,hR,hO,_⟩:=h;intro x hx;rcases Rk.1 hx with rfl | hx
 ·exact hB.lt
 ·rcases Rl.1 hx with hx | hx
  ·exact hR.lt x hx
  ·exact hO.lt x hx
theorem fO.kinds {H:ae}{b:Nat}{F:aB}{s:SP} (h:fO H b F s):dG H:=by
 obtain ⟨_,_,_,_,_,_,_,_,_,_,_,_,_,_,_,_,_,hR,_⟩:=h;exact hR.kinds
theorem fO.gk {H:ae}{b:Nat}{F:aB}{s:SP} (h:fO H b F s):aP∉F:=by
 obtain ⟨hb,a,l,c,F1,F2,po,b5,b6,b7,rfl,h1,h2,h3,k1,k2,hB,hR,hO,_⟩:=h;simp only [Rk,Rl,Ta];exact ⟨fun e=>k1 e.symm,hR.gk,k2⟩
theorem fO.bmem {H:ae}{b:Nat}{F:aB}{s:SP} (h:fO H b F s):b∈F:=by obtain ⟨_,_,_,_,_,_,_,_,_,_,rfl,_⟩:=h;simp
theorem fO.fr {H H':ae}{b:Nat}{F G:aB}{s:SP} (h:fO H b F s) (hf:Fr G H H') (hd:bL F G) (hg:aP∉G):fO H' b F s:=by
 obtain ⟨hb,a,l,c,F1,F2,po,b5,b6,b7,rfl,h1,h2,h3,k1,k2,hB,hR,hO,hw,ho⟩:=h;exact ⟨hb,a,l,c,F1,F2,po,b5,b6,b7,rfl,h1,h2,h3,k1,k2,hB.fr hf (hd b (by simp)),hR.fr hf (hd.mono (fun x hx=>by simp [hx]) fun _ h=>h) hg,hO.fr hf (hd.mono (fun x hx=>by simp [hx]) fun _ h=>h),hw,ho⟩
theorem dG.lt {H:ae} (h:dG H):aP<H.size:=by
 have h0:=h.1;unfold aj at h0;rcases Sf aP H.size with h1 | h1
 ·exact h1
 ·simp only [Sd h1] at h0;cases h0
section
variable {H:ae}{b:Nat}{F F':aB}{s:SP}{Q:QT}
theorem fG (hS:fO H b F s) (h:Q (.bool false) H):ag PP 41 #[Cv b] Q H:=by
 obtain ⟨hb,a,l,c,F1,F2,po,b5,b6,b7,rfl,h1,h2,h3,k1,k2,hB,hR,hO,hw,ho⟩:=hS;have CO:aj H ⟨b,0,none⟩=some (Cv hb):=hB.cell 0;apply AL;dsimp only [bx,ah,aQ,ao,ch];simp only [Rf,Rh];exact ⟨_,rfl,_,CO,h⟩
theorem wV {words oops:Int} (hk:dG H) (l8:¬ (0<=words∧words<=1048576∧0<=oops∧oops<=65536)->Q (.tuple #[.pointer none,ac 1]) H)
  (h:(0<=words∧words<=1048576∧0<=oops∧oops<=65536)->∀ b F H',fO H' b F ⟨⟨words,oops,0,0,0,[]⟩,0,[],false,0,0,0⟩->Fr [] H H'->(∀ x∈F,H.size<=x)->Q (.tuple #[Cv b,ac 0]) H'):ag PP 23 #[ac words,ac oops] Q H:=by
 have D8:=hk.lt;apply yZ;dsimp only [bf,bx,ah,dU,ac,ax,am,bg,az,bn];refine tG hk (fun hb=>⟨_,_,rfl,l8 hb⟩) fun hg hb F H1 hR hf hF=>⟨_,_,rfl,?_⟩;simp only [show ((0:Int) != 0)=false from rfl,Rh];have an:=hR.lt;have CI:=hf.1;refine h hg H1.size (H1.size :: (F++[])) _ ⟨hb,none,0,0,F,[],none,0,0,0,rfl,fun hx=>?_,by simp,bL.nil_right _,by omega,by simp,bW.new _ _ _,hR.fr (Fr.push [] _ _) (bL.nil_right _) (by simp),bZ.nil 1 _,?_,by simp⟩ hf.more ?_
 ·have:=an _ hx;omega
 ·exact ⟨hR.wf,by simp,by simp,by simp,by simp⟩
 ·intro x hx;simp only [SN,Rk] at hx;rcases hx with rfl | hx
  ·exact CI
  ·exact hF x hx
theorem fO.upd (hS:fO H b F s):∃ hb F1,dd H hb F1 s.h∧aj H ⟨b,0,none⟩=some (Cv hb)∧aj H ⟨b,3,none⟩=some (.bool s.op)∧aj H ⟨b,1,none⟩=some (ac s.king)∧(∀ x∈F1,x∈F)∧b∉F1 ∧
  ∀ H' r',dd H' hb F1 r'->Fr F1 H H'->fO H' b F { s with h:=r' }:=by
 obtain ⟨hb,a,l,c,F1,F2,po,b5,b6,b7,rfl,h1,h2,h3,k1,k2,hB,hR,hO,hw,ho⟩:=hS;refine ⟨hb,F1,hR,hB.cell 0,hB.cell 3,hB.cell 1,fun x hx=>by simp [hx],h1,fun H' r' EW hf=>?_⟩;exact ⟨hb,a,l,c,F1,F2,po,b5,b6,b7,rfl,h1,h2,h3,k1,k2,hB.fr hf h1,EW,hO.fr hf h3.symm,{ hw with h:=EW.wf },ho⟩
theorem eh (hS:fO H b F s) (h:∀ hb F1,dd H hb F1 s.h->(∀ x∈F1,x∈F)->(∀ H' r',dd H' hb F1 r'->Fr F1 H H'->fO H' b F { s with h:=r' })->Q (Cv hb) H):ag PP 13 #[Cv b] Q H:=by
 obtain ⟨hb,F1,hR,c0,c3,c1,b9,DD,pp⟩:=hS.upd;apply u0;dsimp only [bK,ah,aQ,ao,am];refine fG hS ⟨_,rfl,?_⟩;simp only [Rh];exact ⟨_,rfl,_,c0,h hb F1 hR b9 pp⟩
theorem sC (hS:fO H b F s){k:Int} (h:∀ H',fO H' b F (s.crown k).2->Fr F H H'->Q (ac (s.crown k).1) H'):ag PP 29 #[Cv b,ac k] Q H:=by
 have Dm:=hS;apply zO;dsimp only [bK,ah,aA,aQ,ac,ao,am,bi];refine fG hS ⟨_,rfl,?_⟩;simp only [Rh];obtain ⟨hb,a,l,c,F1,F2,po,b5,b6,b7,rfl,h1,h2,h3,k1,k2,hB,hR,hO,hw,ho⟩:=hS;have CO:aj H ⟨b,0,none⟩=some (Cv hb):=hB.cell 0;refine ⟨_,rfl,_,CO,jy hR ⟨_,_,rfl,?_⟩⟩;unfold SP.crown at h;rw [bw,af];refine ba (fun he=>?_) fun he=>?_
 ·rw [Rj he] at h;exact h H Dm (Fr.refl _ _)
 ·rw [Re he] at h;refine ⟨_,rfl,hB.wr (by simp),h _ ⟨hb,a,l,c,F1,F2,po,b5,b6,b7,rfl,h1,h2,h3,k1,k2,hB.set 1 (ac k),hR.fr (Fr.set (F:=[b]) (by simp)) (fun x hx hn=>h1 (by simp only [Rg] at hn;rw [←hn];exact hx)) (by simpa using S4 k1),hO.fr (Fr.set (F:=[b]) (by simp)) (fun x hx hn=>h2 (by simp only [Rg] at hn;rw [←hn];exact hx)),?_,ho⟩ (Fr.set (by simp))⟩
  have:∃ o,aG s.h.objs k=some o:=by
   unfold RH.clsAt at he;cases ho:aG s.h.objs k with
   | none=>rw [ho] at he;simp at he
   | some o=>exact ⟨o,rfl⟩
  obtain ⟨o,C8⟩:=this;have hg:=hw.h.objs.good o (aN C8).1;have g1:=hg.oop1;have g2:=hg.oop2;have g3:=hw.h.o1;rw [(aN C8).2] at g1 g2;exact { hw with king0:=by simp;omega,king1:=by simp;omega }
theorem qy (hS:fO H b F s){i w:Int} (hf:∀ o,aG s.h.objs s.king=some o->o.fmt=0) (h:∀ H',fO H' b F (s.setRoot i w).2->Fr F H H'->Q (ac (s.setRoot i w).1) H'):ag PP 65 #[Cv b,ac i,ac w] Q H:=by
 obtain ⟨hb,F1,hR,c0,c3,c1,b9,DD,pp⟩:=hS.upd;apply zt;dsimp only [bK,aH,ah,aM,aQ,ac,ao,am];refine fG hS ⟨_,rfl,?_⟩;simp only [Rh];refine ⟨_,rfl,_,c0,_,rfl,_,by rw [ak];exact c1,?_⟩;refine mB hR hf fun H' EW pe=>⟨_,rfl,trivial,?_⟩;exact h H' (pp H' _ EW pe) (pe.mono b9)
theorem sH (hS:fO H b F s) (h:∀ a l c H' ws,Rd 1 H' a l (au ws)->l<=65537->s.h.reach ws=s.reach->Fr [] H H'->Q (.slice a l c) H'):ag PP 107 #[Cv b] Q H:=by
 obtain ⟨hb,a,l,c,F1,F2,po,b5,b6,b7,rfl,h1,h2,h3,k1,k2,hB,hR,hO,hw,ho⟩:=hS;have l9:aj H ⟨b,1,none⟩=some (ac s.king):=hB.cell 1;have p9:aj H ⟨b,2,none⟩=some (.slice a l c):=hB.cell 2;have PN:=hw.king0;have Dw:=hw.king1;have hm:=hw.many;have hl:l=s.stack.length:=by have:=hO.len;simpa [au] using this.symm
 have hU:aY PP 44=some (1,8,some (ac 0)):=by kernel_rfl
 apply xM;dsimp only [bf,ah,aA,aM,aO,ac,ax,ao,bg,bE,az];refine ⟨_,rfl,_,by rw [ak];exact l9,?_⟩;by_cases hz:s.king=0
 ·refine yT (by omega) ⟨_,_,rfl,?_⟩;simp only [show ((1:Int) != 0)=true from rfl,Rs];refine ⟨_,rfl,_,_,_,by rw [ak];exact p9,h _ _ _ H _ hO.rd (by omega) ?_ (Fr.refl _ _)⟩;unfold SP.reach SP.roots RH.reach;rw [hz]
  congr 1
  funext k
  have Fo:bd s.h (4*0)=0:=by
   unfold bd;rw [Re];rintro ⟨h1,_⟩;exact absurd h1 (by decide)
  have:Reaches s.h s.stack k↔Reaches s.h (4*0 :: s.stack) k:=by
   constructor
   ·intro hr
    induction hr with
    | root w5 c9=>exact .root (by simp [w5]) c9
    | cls _ h2 h3 ih=>exact .cls ih h2 h3
    | slot _ h2 h3 h4 h5 ih=>exact .slot ih h2 h3 h4 h5
   ·intro hr
    induction hr with
    | @root w w5 c9 =>
     rcases Rk.1 w5 with rfl | w5
     ·exact absurd Fo c9
     ·exact .root w5 c9
    | cls _ h2 h3 ih=>exact .cls ih h2 h3
    | slot _ h2 h3 h4 h5 ih=>exact .slot ih h2 h3 h4 h5
  rw [Sk,decide_eq_true_iff,decide_eq_true_iff];exact this
 ·refine sn (by omega) ⟨_,_,rfl,?_⟩;simp only [show ((0:Int) != 0)=false from rfl,Rh];refine ⟨_,rfl,_,_,_,by rw [ak];exact (dc hB.lt).trans p9,?_⟩;have Dq:bZ 1 (H.push (.cells #[ac (4*s.king)] 31)) (some ⟨H.size,0,none⟩) 1 1 (au [4*s.king]) [H.size]:=⟨by simp [au],Rw _,.inr ⟨H.size,_,rfl,rfl,bW.new _ _ _,by simp,by simp [au]⟩⟩;refine dp hU rfl (by kernel_rfl) Dq (hO.fr (Fr.push [] _ _) (by simp)).rd eF (by omega) (by decide) (by decide) fun a' c' F' H' g1 g2 g3=>⟨_,_,_,rfl,?_⟩;have p5:=Up.fresh (H:=H) (Fr.push [] H _) g2 (by simp);refine h _ _ _ H' s.roots ?_ (by omega) rfl p5.1;have e2:au s.roots=au [4*s.king]++au s.stack:=by simp [au,SP.roots]
  rw [e2];exact g1.rd
end
end Go.Proofs.YtcfmnlapccgllaaGreatDoor
