/- Lemmas for RPU: functions of the program as predicate transformers, and their contracts. -/
import Derived.Test.YtgjfejoohojokaaGreatDoorZU3
import Derived.ProofKit
import Derived.Test.YtgjfejoohojokaaGreatDoorCards
import Derived.Test.YtgjfejoohojokaaGreatDoorTie
import Derived.LaidLaws
import Derived.Handed
import Derived.Lib.LaidU8
import Derived.Lib.LaidTab
import Derived.Deep.Strs
import Derived.WideKeyArgs
import Derived.SizedLaws
set_option linter.all false
set_option maxRecDepth 100000
set_option maxHeartbeats 4000000
namespace Go.Proofs.YtgjfejoohojokaaGreatDoor
open Kw
theorem wu (t:TB) (n:Int):∃ e:Int,ug t n=.tuple #[.string (nz t n),ac e]:=by
 unfold ug nz;by_cases h:0<=n∧n<t.texts.length
 ·rw [dif_pos h,dif_pos h];exact ⟨_,rfl⟩
 ·rw [dif_neg h,dif_neg h];exact ⟨_,rfl⟩
theorem gT {F:aR}{H H1 H2:ag} (f:Fr [] H H1) (g:Fr F H1 H2):Fr F H H2 :=
 ⟨Ux f.1 g.1,fun w hw hn=>by rw [g.2 w (UJ hw f.1) hn,f.2 w hw (by simp)]⟩
theorem A7 {F F':aR}{H H1 H2:ag} (f:Fr [] H H1) (g:Up F H1 F' H2):Up F H F' H2:=⟨gT f g.1,fun w hw=>(g.2 w hw).imp id fun h=>Ux f.1 h⟩
def lM (s:SP) (w:Int):Prop:=∃ k y,w=4*k∧ou s.h k (bL y)∧y.size<=8192
section
variable {H:ag}{b:Nat}{F:aR}{s:SP}{t:TB}{v:KV}{Q:QT}{r x:Int}{a:Option Addr}{q:Addr}{l c:Nat}{ws:List Int}{k:Int}{y:ByteArray}
theorem oI (hK:PK H b F s t){n:Int} (hn:0<=n∧n<4096) (h:∀ H',Fr [] H H'->Q (.string (nz t n)) H'):ae PP 303 #[cv b r a l c,ac (4*n+2)] Q H:=by
 apply wU;dsimp only [aK,aY,zo,dU,dd,gI,ao,ak,jm,bv,aB,aH,aE,bq,aL,ac,bu,cX,au,ck,am,aJ,aZ,ax,bd];have f:=Fr.push [] H (.cells (cc b r a l c) 138);have hb:=bH.new H (cc b r a l c) 138;have e9:=hK.nil f;refine sK e9.kinds ?_;unfold mE;have JG:aA (4*n+2)=2:=by
  unfold aA;rw [Uq (by omega),Ur (by omega)]
 rw [Ur JG];refine ⟨_,_,rfl,?_⟩;simp only [show ((0:Int) == 0)=true from rfl,UK];refine ⟨_,hb.cell 0,vt e9 fun tb F1 _ hT=>⟨_,rfl,uW hT ?_⟩⟩;rw [show (4*n+2) / 4=n by omega];obtain ⟨e,he⟩:=wu t n;rw [he];exact ⟨_,_,rfl,h _ f⟩
theorem CM (hK:PK H b F s t){n:Int} (hn:0<=n∧n<4096) (h:∀ H',Fr [] H H'->Q (.tuple #[ac (fe ((nz t n).size:Int)).1,ac (fe ((nz t n).size:Int)).2]) H') :
  ae PP 204 #[cv b (4*n+2) a l c] Q H:=by
 apply C9;dsimp only [aK,aY,aF,gI,ak,aB,aH,aE,aL,ac,au,am,aJ,ax];have f:=Fr.push [] H (.cells (cc b (4*n+2) a l c) 138);have hb:=bH.new H (cc b (4*n+2) a l c) 138;exact ⟨_,hb.cell 0,_,hb.cell 1,_,_,_,hb.cell 2,_,hb.cell 1,oI (hK.nil f) hn fun H1 f1=>⟨_,rfl,lg ⟨_,_,rfl,h _ (f.trans f1)⟩⟩⟩
theorem Gp (hK:PK H b F s t){n:Int} (hn:0<=n∧n<4096) (hl:(nz t n).size<=1000) (h:∀ H',PK H' b F (s.makeP 10 1 (bL (nz t n))).2 t->Fr F H H'->Q (.tuple #[ac (s.makeP 10 1 (bL (nz t n))).1.1,ac (s.makeP 10 1 (bL (nz t n))).1.2]) H') :
  ae PP 205 #[cv b (4*n+2) a l c] Q H:=by
 apply Ew;dsimp only [aK,aY,aF,gI,ak,aB,aH,aE,aL,ac,au,am,aJ,aZ,ax];have f:=Fr.push [] H (.cells (cc b (4*n+2) a l c) 138);have hb:=bH.new H (cc b (4*n+2) a l c) 138;refine ⟨_,hb.cell 0,_,hb.cell 1,_,_,_,hb.cell 2,_,hb.cell 0,_,hb.cell 1,_,_,_,hb.cell 2,_,hb.cell 1,oI (hK.nil f) hn fun H1 f1=>?_⟩;have f01:=f.trans f1;have an:=hb.fr f1 (by simp);exact ⟨_,rfl,⟨⟨an.cell 0,an.cell 1,an.cell 2,trivial⟩,trivial⟩,wI (hK.nil f01) (by omega) fun H' lc f'=>⟨_,_,rfl,trivial,h H' lc (gT f01 f')⟩⟩
theorem uV (hK:PK H b F s t) (hv:KAllW s t v) (hs:ou s.h k (bL y)) (hy:y.size<=8192) (hx:bV s.h x=10->lM s x) (hr:Rd 1 H (some q) l (av [x])) (cp:∀ H',Fr [] H H'->Q (.tuple #[.string ⟨#[]⟩,.string ⟨#[]⟩,.bool false]) H')
  (h:∀ j z H',x=4*j->ou s.h j (bL z)->z.size<=8192->Fr [] H H'->Q (.tuple #[.string y,.string z,.bool true]) H'):ae PP 306 #[cv b (4*k) (some q) l c] Q H:=by
 by_cases dc:bV s.h x=10
 ·obtain ⟨j,z,rfl,hz,LG⟩:=hx dc;exact pc hK hv hs hz (by omega) (by omega) hr fun H' f=>h j z H' rfl hz LG f
 have ai:l=1:=by have:=hr.1;simpa [av] using this.symm
 subst ai;apply xL;dsimp only [aK,aY,bk,aT,gI,ao,aB,aH,aE,bq,aL,ac,bu,au,am,aJ,aZ,ax,bU];have f:=Fr.push [] H (.cells (cc b (4*k) (some q) 1 c) 138);have hb:=bH.new H (cc b (4*k) (some q) 1 c) 138;have a0:=Rd.argc (Rd.nilF hr f) 0 (by simp);refine ⟨_,hb.cell 0,_,hb.cell 1,_,_,_,hb.cell 2,_,_,_,hb.cell 2,⟨by decide,by decide⟩,q,rfl,_,a0,mm (hK.nil f) hv fun H1 f1=>⟨_,rfl,trivial,?_⟩⟩;rw [show ([x].getD 0 0)=x from rfl,bK,ah,Ur dc];exact cp _ (f.trans f1)
noncomputable def vQ (s:SP) (cls n f:Int):Int:=if (s.alloc cls n f).1.2=0 then (s.alloc cls n f).1.1 else 0
end
section
attribute [local irreducible] ba bQ bS eX d8 fx fu fo fA lz fj cE cG
theorem pK {es:List PE}{x:ByteArray}{n:Int}{p:PF} (h:fv es x=some (n,p)):(x,n,p)∈es:=by
 induction es with
 | nil=>cases h
 | cons e es ih =>
  unfold fv at h;split at h
  ·rename_i hx;have h2:=Option.some.inj h
   have:e=(x,n,p):=Prod.ext hx.symm h2;rw [this];simp
  ·exact Vb _ (ih h)
theorem lW {w:Int} (h:aA w=1):w=2*(w / 2)+1∧pN (w / 2)∧dp w=w / 2:=by
 have:=bl w;refine ⟨by omega,⟨by omega,by omega⟩,?_⟩;unfold dp;rw [Ur h]
theorem AA {xs:List Int} (h:∀ w∈xs,0<=w∧w<=255):∃ y:ByteArray,bL y=xs:=by
 refine ⟨⟨(xs.map fun w=>UInt8.ofNat w.toNat).toArray⟩,?_⟩;unfold bL;simp only [V4];rw [Wh (g:=id) (fun w hw=>?_),List.map_id]
 have:=h w hw;simp only [Function.comp_apply,id];rw [UInt8.toNat_ofNat_of_lt' (by show w.toNat<256;omega)];omega
section
variable {s:SP}{t:TB}{v:KV}{G:Int->Prop}
theorem nH (hv:KAllW s t v){k c:Int}{l:List Int} (h:ob s.h k=some (c,1,l)):(∀ w∈l,0<=w∧w<=255)∧l.length<=8192:=by
 obtain ⟨o,ho,_,hf,rfl⟩:=bO.1 h;have hg:=hv.ks.wf.h.objs.good o (aD ho).1;refine ⟨fun w hw=>?_,hg.many⟩;have hm:=hg.may w hw;unfold dY at hm;rw [Ur hf] at hm;exact hm
theorem jr {c:Int} (hp:PairV v) (h:ov v c) (hc:aA c=3):c / 4=11∨(c / 4=4)∨∃ i,eK v (c / 4)=some i∧14<=i:=by
 rcases h with rfl | ⟨o,i,rfl,h1,h2⟩
 ·exact .inl rfl
 ·have:(4*o) / 4=o:=by omega
  rw [this];rcases h2 with rfl | h2
  ·exact .inr (.inl rfl)
  ·exact .inr (.inr ⟨i,h1,h2⟩)
theorem gE (hp:PairV v):eK v 4=some 0∧eK v 5=some 1∧eK v 6=some 2∧eK v 7=some 3∧eK v 8=some 4∧eK v 9=some 5∧eK v 10=some 6∧eK v 11=some 7∧eK v 12=some 8∧eK v 14=some 10∧eK v 17=some 13:=hp.pl
theorem ki {r:RH}{w c f:Int}{l:List Int} (h3:aA w=3) (hx:ob r (w / 4)=some (c,f,l)):dC r w l.length=l:=by
 apply Wu;intro i;unfold dC;by_cases hi:i<l.length
 ·rw [Va,List.getElem?_range hi];simp only [Vw];rw [gF h3 hx (by omega) (by omega)];simp [hi]
 ·rw [Vd (by simp;omega),Vd (by omega)]
theorem i8 {n x:Int} (h:(aV n x).2=0):0<=(aV n x).1∧(aV n x).1<n:=by
 unfold aV at h ⊢;split
 ·rename_i h1;rw [Ur h1] at h;cases h
 ·rename_i h1;rw [Uq h1] at h;split
  ·rename_i h2;rw [Ur h2] at h;cases h
  ·simp only;omega
theorem pR {l:List Int}{i:Int} (h0:0<=i) (h1:i<l.length):l.getD i.toNat 0∈l:=by
 have hi:i.toNat<l.length:=by omega
 rw [UD,UF hi];exact UQ hi
theorem Em (hv:KAllW s t v){w:Int}{l:List Int} (h3:aA w=3) (hx:ob s.h (w / 4)=some (40,1,l)):∃ y,l=bL y∧ou s.h (w / 4) (bL y)∧y.size<=8192:=by
 obtain ⟨h1,h2⟩:=nH hv hx;obtain ⟨y,hy⟩:=AA h1;have hl:=gz y;refine ⟨y,hy.symm,?_,by rw [←hl,hy];exact h2⟩;obtain ⟨o,a1,a2,a3,a4⟩:=bO.1 hx;exact ⟨o,a1,a3,a2,by rw [a4,hy]⟩
theorem qP (hv:KAllW s t v) (n:Int):(nz t n).size<=96:=by
 unfold nz;split
 ·exact (hv.names.wf.good _ (UQ _)).2
 ·decide
end
inductive PO where
 | same | other | cls | isNil | notNil | self | isKind | ivSize | ivAt | copy | not | and | or
 | num (f:Int->Int->Int × Int) | cmp (f:Int->Int->Bool) | neg | abs | even | odd | print
 | len | asStr | symLess | size | empty | byteAt | bytePut | join | eq | less | asSym | at | fresh | sized | slot (i:Int)
abbrev PR:=(Int × Int) × SP × TB
def bG (r:RH) (t:TB) (w:Int):ByteArray:=if aA w=2 then nz t (w / 4) else ⟨((dC r w (cq r w).1.toNat).map fun z=>UInt8.ofNat z.toNat).toArray⟩
def rY (x y:ByteArray):Bool:=Op.bytesLess (ByteArray.toList x) (ByteArray.toList y)
section
variable (s:SP) (t:TB) (v:KV) (r:Int) (ar:List Int)
noncomputable def sG (c f:Int) (xs:List Int):PR:=((s.makeP c f xs).1,(s.makeP c f xs).2,t)
noncomputable def kg (n f:Int):PR:=((vQ s r n f,(s.alloc r n f).1.2),(s.alloc r n f).2,t)
def dK (n:Int):PR :=
 if (aV n (ar.getD 0 0)).2≠0 then ((0,(aV n (ar.getD 0 0)).2),s,t)
 else if ar.length<2 then ((dQ s.h r (aV n (ar.getD 0 0)).1,0),s,t)
 else ((ar.getD 1 0,(s.putW r (aV n (ar.getD 0 0)).1 (ar.getD 1 0)).1),(s.putW r (aV n (ar.getD 0 0)).1 (ar.getD 1 0)).2,t)
noncomputable def ch:PO->PR
 | .same=>((tw (decide (r=ar.getD 0 0)),0),s,t)
 | .other=>((tw (decide (r≠ar.getD 0 0)),0),s,t)
 | .cls=>((4*bV s.h r,0),s,t)
 | .isNil=>((tw (decide (r=4)),0),s,t)
 | .notNil=>((tw (decide (r≠4)),0),s,t)
 | .self=>((r,0),s,t)
 | .isKind=>(if bV s.h (ar.getD 0 0)≠12 then (0,170) else (tw (fc v (ar.getD 0 0 / 4) (bV s.h r)),0),s,t)
 | .ivSize=>(fe (cU s.h v r),s,t)
 | .ivAt=>dK s t r ar (cU s.h v r)
 | .copy=>if bV s.h r=10∨(bV s.h r=11∧(cq s.h r).1.toNat≠0)∨gi v (bV s.h r)=true then sG s t (bV s.h r) (cq s.h r).2 (dC s.h r (cq s.h r).1.toNat) else ((r,0),s,t)
 | .not=>((tw (decide (r=8)),0),s,t)
 | .and=>(if ar.getD 0 0=12 then (tw (decide (r=12)),0) else if ar.getD 0 0=8 then (8,0) else (0,170),s,t)
 | .or=>(if ar.getD 0 0=12 then (12,0) else if ar.getD 0 0=8 then (tw (decide (r=12)),0) else (0,170),s,t)
 | .num f=>(if aA (ar.getD 0 0)≠1 then (0,170) else if (f (dp r) (dp (ar.getD 0 0))).2≠0 then (0,(f (dp r) (dp (ar.getD 0 0))).2) else fe (f (dp r) (dp (ar.getD 0 0))).1,s,t)
 | .cmp f=>(if aA (ar.getD 0 0)≠1 then (0,170) else (tw (f (dp r) (dp (ar.getD 0 0))),0),s,t)
 | .neg=>(fe (d8 0 (dp r)).1,s,t)
 | .abs=>(if dp r<0 then fe (d8 0 (dp r)).1 else (r,0),s,t)
 | .even=>((tw (decide (dp r % 2=0)),0),s,t)
 | .odd=>((tw (decide (dp r % 2=1)),0),s,t)
 | .print=>sG s t 10 1 (bL (d7 (dp r)))
 | .len=>(fe ((bG s.h t r).size:Int),s,t)
 | .asStr=>sG s t 10 1 (bL (bG s.h t r))
 | .symLess=>(if aA (ar.getD 0 0)≠2 then (0,170) else (tw (rY (bG s.h t r) (bG s.h t (ar.getD 0 0))),0),s,t)
 | .size=>(fe (cq s.h r).1,s,t)
 | .empty=>((tw (decide ((cq s.h r).1=0)),0),s,t)
 | .byteAt=>(oa s.h r (ar.getD 0 0),s,t)
 | .bytePut=>if aA (ar.getD 0 0)≠1∨aA (ar.getD 1 0)≠1∨ar.getD 1 0 / 2<0∨255<ar.getD 1 0 / 2 then ((0,170),s,t) else if (aV (cq s.h r).1 (ar.getD 0 0)).2≠0 then ((0,(aV (cq s.h r).1 (ar.getD 0 0)).2),s,t)
  else ((ar.getD 1 0,(s.putW r (aV (cq s.h r).1 (ar.getD 0 0)).1 (ar.getD 1 0 / 2)).1),(s.putW r (aV (cq s.h r).1 (ar.getD 0 0)).1 (ar.getD 1 0 / 2)).2,t)
 | .join=>if bV s.h (ar.getD 0 0)≠10 then ((0,170),s,t) else if 8192<(bG s.h t r).size+(bG s.h t (ar.getD 0 0)).size then ((0,170),s,t) else sG s t 10 1 (bL (bG s.h t r++bG s.h t (ar.getD 0 0)))
 | .eq=>((tw (decide (bV s.h (ar.getD 0 0)=10) && iF (bG s.h t r) (bG s.h t (ar.getD 0 0))),0),s,t)
 | .less=>(if bV s.h (ar.getD 0 0)≠10 then (0,170) else (tw (rY (bG s.h t r) (bG s.h t (ar.getD 0 0))),0),s,t)
 | .asSym=>if (bG s.h t r).size<1∨96<(bG s.h t r).size then ((0,170),s,t) else (if (t.add (bG s.h t r)).1.2≠0 then (0,(t.add (bG s.h t r)).1.2) else (4*(t.add (bG s.h t r)).1.1+2,0),s,(t.add (bG s.h t r)).2)
 | .at=>dK s t r ar (cq s.h r).1
 | .fresh=>match eK v (r / 4) with
  | none=>((0,170),s,t)
  | some i=>if (i:Int)+1<=14∧r / 4≠4 then ((0,170),s,t) else kg s t r ((cF v i).length:Int) 0
 | .sized=>if (r / 4≠10∧r / 4≠11)∨aA (ar.getD 0 0)≠1∨ar.getD 0 0 / 2<0∨8192<ar.getD 0 0 / 2 then ((0,170),s,t) else if r / 4=10 then kg s t r (ar.getD 0 0 / 2) 1 else if ar.getD 0 0 / 2=0 then ((72,0),s,t) else kg s t r (ar.getD 0 0 / 2) 0
 | .slot i=>((dQ s.h r i,0),s,t)
end
def Kd (f:Nat):PO :=
 if f=171 then .same else
 if f=172 then .other else
 if f=174 then .isNil else
 if f=175 then .notNil else
 if f=176 then .self else
 if f=177 then .isKind else
 if f=178 then .ivSize else
 if f=179 then .ivAt else
 if f=180 then .copy else
 if f=199 then .neg else
 if f=200 then .abs else
 if f=201 then .even else
 if f=202 then .odd else
 if f=203 then .print else
 if f=204 then .len else
 if f=205 then .asStr else
 if f=206 then .symLess else
 if f=207 then .size else
 if f=208 then .empty else
 if f=209 then .byteAt else
 if f=210 then .bytePut else
 if f=211 then .join else
 if f=212 then .eq else
 if f=213 then .less else
 if f=214 then .asSym else
 if f=215 then .at else
 if f=216 then .fresh else
 if f=217 then .sized else
 if f=173 then .cls else
 if f=292 then .not else
 if f=293 then .and else
 if f=294 then .or else
 .self
def Io (g:Nat):PO :=
 if g=183 then .num eX else
 if g=184 then .num d8 else
 if g=185 then .num fx else
 if g=186 then .num fu else
 if g=187 then .num fo else
 if g=188 then .num fA else
 if g=189 then .num lz else
 if g=190 then .num fj else
 if g=191 then .num cE else
 if g=193 then .cmp (fun n m=>decide (n<m)) else
 if g=194 then .cmp (fun n m=>decide (n > m)) else
 if g=195 then .cmp (fun n m=>decide (n<=m)) else
 if g=196 then .cmp (fun n m=>decide (n ≥ m)) else
 if g=197 then .num (fun n m=>(if m<n then m else n,0)) else
 if g=198 then .num (fun n m=>(if n<m then m else n,0)) else
 .self
def Bc:PF->PO
 | .fn f=>Kd f
 | .clo _ g=>Io g
 | .slot _ i=>.slot i
 | .nil=>.self
def tP (s:SP) (k:Int) (x:ByteArray) (r:Int) (ar:List Int):Prop:=∃ n p,fv (ko k) x=some (n,p)∧p≠.nil∧(ar.length:Int)=n∧∀ w∈r :: ar,bV s.h w≠0
noncomputable instance (s:SP) (k:Int) (x:ByteArray) (r:Int) (ar:List Int):Decidable (tP s k x r ar):=Classical.propDecidable _
noncomputable def jk (s:SP) (t:TB) (v:KV) (k:Int) (x:ByteArray) (r:Int) (ar:List Int):PR :=
 if tP s k x r ar then
  if fc v k (bV s.h r)=true∧dz s.h k r=true then
   match fv (ko k) x with
   | some (_,p)=>ch s t v r ar (Bc p)
   | none=>((0,1),s,t)
  else ((0,170),s,t)
 else ((0,1),s,t)
abbrev mu (p:Int × Int):Value:=.tuple #[ac p.1,ac p.2]
theorem gO {r:RH}{w:Int}:(aA w=1->bV r w=8)∧(aA w=2->bV r w=9)∧(aA w=0->bV r w=0):=by
 refine ⟨fun h=>?_,fun h=>?_,fun h=>?_⟩
 ·have e:qQ r w=(8,0):=by unfold qQ;rw [Ur h]
  unfold bV;rw [e];rfl
 ·have e:qQ r w=(9,0):=by unfold qQ;rw [Uq (by omega),Ur h]
  unfold bV;rw [e];rfl
 ·have e:qQ r w=(0,10):=by unfold qQ;rw [Uq (by omega),Uq (by omega),Uq (by omega)]
  unfold bV;rw [e];rfl
theorem GV {r:RH}{w:Int} (h0:bV r w≠0) (h8:bV r w≠8) (h9:bV r w≠9):aA w=3:=by
 obtain ⟨a,b,c⟩:=gO (r:=r) (w:=w)
 have:aA w=0∨aA w=1∨aA w=2∨aA w=3:=by have:=bl w;omega
 rcases this with h | h | h | h
 ·exact absurd (c h) h0
 ·exact absurd (a h) h8
 ·exact absurd (b h) h9
 ·exact h
section
variable {H:ag}{b:Nat}{F:aR}{s:SP}{t:TB}{v:KV}{Q:QT}{r x:Int}{a:Option Addr}{q:Addr}{l c:Nat}{ws ar:List Int}{k:Int}{y:ByteArray}
theorem yr (hK:PK H b F s t) (hv:KAllW s t v) (hr:Rd 1 H (some q) l (av [x])) (h:∀ H',Fr [] H H'->Q (mu (ch s t v r [x] .isKind).1) H'):ae PP 177 #[cv b r (some q) l c] Q H:=by
 apply DQ;dsimp only [aK,aY,aF,bk,bJ,aT,ao,ak,aB,aH,aE,bq,aL,ac,bu,au,am,aJ,ax];have hl:0<(l:Int):=by have:=hr.1;simp [av] at this;omega
 have f:=Fr.push [] H (.cells (cc b r (some q) l c) 138);have hb:=bH.new H (cc b r (some q) l c) 138;have a0:=Rd.argc (Rd.nilF hr f) 0 (by simp);simp only [ch,U0] at h;refine ⟨_,hb.cell 0,_,hb.cell 1,_,_,_,hb.cell 2,_,_,_,hb.cell 2,⟨by decide,hl⟩,q,rfl,_,a0,mm (hK.nil f) hv fun H1 f1=>⟨_,rfl,trivial,?_⟩⟩;rw [U0];have f01:=f.trans f1;have an:=hb.fr f1 (by simp);have a1:=Rd.argc (Rd.nilF hr f01) 0 (by simp);rw [bK,ah];refine aP (fun hn=>?_) fun hn=>⟨_,_,_,an.cell 2,⟨by decide,hl⟩,q,rfl,_,a1,jP (hK.nil f01).kinds ?_⟩
 ·have:=h _ f01;rw [Ur hn] at this;exact this
 rw [Uq hn] at h;have k9:bV s.h x=12:=Uv hn;rw [U0];unfold mE;rw [Ur (GV (r:=s.h) (by omega) (by omega) (by omega))];exact ⟨_,_,rfl,_,an.cell 0,_,an.cell 1,_,_,_,an.cell 2,_,an.cell 1,sR (hK.nil f01) hv fun H3 f3=>⟨_,rfl,dw ⟨_,_,rfl,h _ (f01.trans f3)⟩⟩⟩
theorem qT {n:Int} (h:Q (if n=12 then .tuple #[.bool true,ac 0] else if n=8 then .tuple #[.bool false,ac 0] else .tuple #[.bool false,ac 170]) H):ae PP 351 #[ac n] Q H:=by
 apply Dh;dsimp only [bk,ao,ac,bU];rw [bI,ah];refine aP (fun h1=>by rw [Ur h1] at h;exact h) fun h1=>?_;rw [Uq h1] at h;rw [bI,ah];exact aP (fun h2=>by rw [Ur h2] at h;exact h) fun h2=>by rw [Uq h2] at h;exact h
theorem Ab (hr:Rd 1 H (some q) l (av [x])) (h:∀ H',Fr [] H H'->Q (mu (ch s t v r [x] .and).1) H'):ae PP 293 #[cv b r (some q) l c] Q H:=by
 have hl:0<(l:Int):=by have:=hr.1;simp [av] at this;omega
 apply B6;dsimp only [aY,aF,bk,ao,oz,ak,aB,aH,bq,ac,bu,au,am,aJ,ax];have f:=Fr.push [] H (.cells (cc b r (some q) l c) 138);have hb:=bH.new H (cc b r (some q) l c) 138;have a0:=Rd.argc (Rd.nilF hr f) 0 (by simp);simp only [ch,U0] at h;refine ⟨_,_,_,hb.cell 2,⟨by decide,hl⟩,q,rfl,_,a0,qT ?_⟩;rw [U0];have hf:=h _ f;split
 ·rename_i h1;rw [Ur h1] at hf;refine ⟨_,_,rfl,?_⟩;simp only [show ((0:Int) != 0)=false from rfl,Ut,UK];exact ⟨_,hb.cell 1,dw ⟨_,_,rfl,by rw [bI];exact hf⟩⟩
 ·rename_i h1;rw [Uq h1] at hf;split
  ·rename_i h2;rw [Ur h2] at hf;refine ⟨_,_,rfl,?_⟩;simp only [show ((0:Int) != 0)=false from rfl,Ut];exact dw ⟨_,_,rfl,hf⟩
  ·rename_i h2;rw [Uq h2] at hf;exact ⟨_,_,rfl,hf⟩
theorem HI (hr:Rd 1 H (some q) l (av [x])) (h:∀ H',Fr [] H H'->Q (mu (ch s t v r [x] .or).1) H'):ae PP 294 #[cv b r (some q) l c] Q H:=by
 have hl:0<(l:Int):=by have:=hr.1;simp [av] at this;omega
 apply Dp;dsimp only [aY,aF,bk,ao,oz,ak,aB,aH,bq,ac,bu,au,am,aJ,ax];have f:=Fr.push [] H (.cells (cc b r (some q) l c) 138);have hb:=bH.new H (cc b r (some q) l c) 138;have a0:=Rd.argc (Rd.nilF hr f) 0 (by simp);simp only [ch,U0] at h;refine ⟨_,_,_,hb.cell 2,⟨by decide,hl⟩,q,rfl,_,a0,qT ?_⟩;rw [U0];have hf:=h _ f;split
 ·rename_i h1;rw [Ur h1] at hf;refine ⟨_,_,rfl,?_⟩;simp only [show ((0:Int) != 0)=false from rfl,Ut,UK];exact dw ⟨_,_,rfl,hf⟩
 ·rename_i h1;rw [Uq h1] at hf;split
  ·rename_i h2;rw [Ur h2] at hf;refine ⟨_,_,rfl,?_⟩;simp only [show ((0:Int) != 0)=false from rfl,Ut];exact ⟨_,hb.cell 1,dw ⟨_,_,rfl,by rw [bI];exact hf⟩⟩
  ·rename_i h2;rw [Uq h2] at hf;exact ⟨_,_,rfl,hf⟩
theorem Gb (hK:PK H b F s t) (hn:pN (dp r)) (h:∀ H',Fr [] H H'->Q (mu (ch s t v r [] .abs).1) H'):ae PP 200 #[cv b r a l c] Q H:=by
 apply CH;dsimp only [aK,aY,aF,aT,ao,ak,bv,aB,aH,aE,aL,ac,au,am,aJ,ax];have f:=Fr.push [] H (.cells (cc b r a l c) 138);have hb:=bH.new H (cc b r a l c) 138;refine ⟨_,hb.cell 0,_,hb.cell 1,_,_,_,hb.cell 2,qn (hK.nil f) fun H1 f1=>⟨_,rfl,?_⟩⟩;have f01:=f.trans f1;have an:=hb.fr f1 (by simp);simp only [ch] at h;rw [ah];refine aP (fun h0=>?_) fun h0=>⟨_,an.cell 1,?_⟩
 ·rw [Ur h0] at h;exact ⟨_,an.cell 0,_,an.cell 1,_,_,_,an.cell 2,zY (hK.nil f01) hn fun H' f'=>⟨_,_,rfl,h _ (f01.trans f')⟩⟩
 ·rw [Uq h0] at h;exact h _ f01
theorem nu {n:Int} (hn:0<=n∧n<4096):bG s.h t (4*n+2)=nz t n:=by
 unfold bG;have JG:aA (4*n+2)=2:=by
  unfold aA;rw [Uq (by omega),Ur (by omega)]
 rw [Ur JG,show (4*n+2) / 4=n by omega]
theorem jb (hs:ou s.h k (bL y)) (k1:1<=k) (k2:k<=65536):bG s.h t (4*k)=y:=by
 have e:=rg hs k1 k2;unfold bG;rw [Uq (by rw [cW k1 k2];decide),xh hs k1 k2];simp only [Uy];rw [e];refine ByteArray.ext ?_;show ((bL y).map fun z=>UInt8.ofNat z.toNat).toArray=y.data;unfold bL;rw [V4]
 have:(fun z:Int=>UInt8.ofNat z.toNat) ∘ (fun u:UInt8=>(u.toNat:Int))=id:=by
  funext u
  simp
 rw [this];simp
theorem wE (hK:PK H b F s t){n:Int} (hn:0<=n∧n<4096) (hr:Rd 1 H (some q) l (av [x])) (h:∀ H',Fr [] H H'->Q (mu (ch s t v (4*n+2) [x] .symLess).1) H') :
  ae PP 206 #[cv b (4*n+2) (some q) l c] Q H:=by
 have hl:0<(l:Int):=by have:=hr.1;simp [av] at this;omega
 apply EC;dsimp only [aK,aY,aF,bk,aT,gI,ao,ak,aB,aH,aE,bq,aL,ac,bu,au,am,aJ,ax];have f:=Fr.push [] H (.cells (cc b (4*n+2) (some q) l c) 138);have hb:=bH.new H (cc b (4*n+2) (some q) l c) 138;have a0:=Rd.argc (Rd.nilF hr f) 0 (by simp);simp only [ch,U0] at h;refine ⟨_,_,_,hb.cell 2,⟨by decide,hl⟩,q,rfl,_,a0,jF (hK.nil f).kinds ⟨_,rfl,?_⟩⟩;rw [U0,bK,ah];refine aP (fun hk=>by have:=h _ f;rw [Ur hk] at this;exact this) fun hk=>?_;rw [Uq hk] at h;have JR:aA x=2:=Uv hk;have hx:∃ m,x=4*m+2∧0<=m∧m<4096:=by
  have:=bl x;exact ⟨x / 4,by omega,by omega,by omega⟩
 obtain ⟨m,rfl,m0,m1⟩:=hx;rw [nu (s:=s) hn,nu (s:=s) ⟨m0,m1⟩] at h;rw [U0] at a0;refine ⟨_,hb.cell 0,_,hb.cell 1,_,_,_,hb.cell 2,_,hb.cell 1,_,hb.cell 0,_,hb.cell 1,_,_,_,hb.cell 2,_,_,_,hb.cell 2,⟨by decide,hl⟩,q,rfl,_,a0,oI (hK.nil f) hn fun H2 f2=>?_⟩;have f02:=f.trans f2;have c9:=hb.fr f2 (by simp);have a2:=Rd.argc (Rd.nilF hr f02) 0 (by simp);rw [U0] at a2;exact ⟨_,rfl,⟨⟨a2,trivial⟩,⟨c9.cell 2,trivial⟩,⟨c9.cell 0,c9.cell 1,c9.cell 2,trivial⟩,trivial⟩,oI (hK.nil f02) ⟨m0,m1⟩ fun H3 f3=>⟨_,rfl,trivial,dw ⟨_,_,rfl,trivial,h _ (f02.trans f3)⟩⟩⟩
theorem ls (hK:PK H b F s t) (hv:KAllW s t v) (hs:ou s.h k (bL y)) (k1:1<=k) (k2:k<=65536) (hy:y.size<=8192) (hx:bV s.h x=10->lM s x) (hr:Rd 1 H (some q) l (av [x])) (cp:bV s.h x≠10->∀ H',Fr [] H H'->Q (.tuple #[.string ⟨#[]⟩,.string ⟨#[]⟩,.bool false]) H')
  (h:bV s.h x=10->(bG s.h t x).size<=8192->∀ H',Fr [] H H'->Q (.tuple #[.string y,.string (bG s.h t x),.bool true]) H'):ae PP 306 #[cv b (4*k) (some q) l c] Q H:=by
 by_cases dc:bV s.h x=10
 ·obtain ⟨j,z,rfl,hz,LG⟩:=hx dc;have hj:=iE hv hz;have e:=jb (t:=t) hz hj.1 hj.2;rw [e] at h;exact pc hK hv hs hz (by omega) (by omega) hr fun H' f=>h dc LG H' f
 ·exact uV hK hv hs hy hx hr (fun H' f=>cp dc H' f) fun j z H' e hz LG f=>by
   have hj:=iE hv hz;exact absurd (by rw [e];exact zB hz hj.1 hj.2) dc
theorem xX (hK:PK H b F s t) (hv:KAllW s t v) (hs:ou s.h k (bL y)) (k1:1<=k) (k2:k<=65536) (hy:y.size<=8192) (hx:bV s.h x=10->lM s x) (hr:Rd 1 H (some q) l (av [x])) (h:∀ H',PK H' b F (ch s t v (4*k) [x] .join).2.1 t->Fr F H H'->Q (mu (ch s t v (4*k) [x] .join).1) H') :
  ae PP 211 #[cv b (4*k) (some q) l c] Q H:=by
 apply CB;dsimp only [aK,aY,aF,ao,ak,iV,cS,aB,aH,aE,aL,ac,au,am,aJ,aZ,ax,bd];have f:=Fr.push [] H (.cells (cc b (4*k) (some q) l c) 138);have hb:=bH.new H (cc b (4*k) (some q) l c) 138;simp only [ch,U0,jb hs k1 k2] at h;refine ⟨_,hb.cell 0,_,hb.cell 1,_,_,_,hb.cell 2,ls (hK.nil f) hv hs k1 k2 hy hx (Rd.nilF hr f) (fun hn H1 f1=>⟨_,_,_,rfl,?_⟩) fun dc LG H1 f1=>⟨_,_,_,rfl,?_⟩⟩
 ·rw [Ur hn] at h;exact h _ (hK.nil (f.trans f1)) (gT (f.trans f1) (Fr.refl F H1))
 rw [Uq (by simpa using dc)] at h;have f01:=f.trans f1;have an:=hb.fr f1 (by simp);rw [UB,Ut];rw [az (by omega) (by omega),ah];refine aP (fun hg=>?_) fun pp=>?_
 ·rw [Ur (by omega)] at h;exact h _ (hK.nil f01) (gT f01 (Fr.refl F H1))
 rw [Uq (by omega)] at h;refine ⟨_,an.cell 0,_,an.cell 1,_,_,_,an.cell 2,?_⟩;rw [ah,Uq (by rw [show IntKind.i64.max=9223372036854775807 from rfl];omega)];exact wI (hK.nil f01) (by rw [WA];omega) fun H' lc f'=>⟨_,_,rfl,h H' lc (gT f01 f')⟩
theorem A9 (hK:PK H b F s t) (hv:KAllW s t v) (hs:ou s.h k (bL y)) (k1:1<=k) (k2:k<=65536) (hy:y.size<=8192) (hx:bV s.h x=10->lM s x) (hr:Rd 1 H (some q) l (av [x])) (h:∀ H',Fr [] H H'->Q (mu (ch s t v (4*k) [x] .eq).1) H') :
  ae PP 212 #[cv b (4*k) (some q) l c] Q H:=by
 apply DY;dsimp only [aK,aY,aF,bk,ao,ak,iV,aB,aH,aE,aL,ac,au,am,aJ,ax];have f:=Fr.push [] H (.cells (cc b (4*k) (some q) l c) 138);have hb:=bH.new H (cc b (4*k) (some q) l c) 138;simp only [ch,U0,jb hs k1 k2] at h;refine ⟨_,hb.cell 0,_,hb.cell 1,_,_,_,hb.cell 2,ls (hK.nil f) hv hs k1 k2 hy hx (Rd.nilF hr f) (fun hn H1 f1=>⟨_,_,_,rfl,?_⟩) fun dc LG H1 f1=>⟨_,_,_,rfl,?_⟩⟩
 ·rw [Vz hn,WL] at h;rw [Ut];exact dw ⟨_,_,rfl,h _ (f.trans f1)⟩
 ·rw [Vs dc,Bool.true_and] at h;rw [UK];exact dw ⟨_,_,rfl,h _ (f.trans f1)⟩
theorem BU (hK:PK H b F s t) (hv:KAllW s t v) (hs:ou s.h k (bL y)) (k1:1<=k) (k2:k<=65536) (hy:y.size<=8192) (hx:bV s.h x=10->lM s x) (hr:Rd 1 H (some q) l (av [x])) (h:∀ H',Fr [] H H'->Q (mu (ch s t v (4*k) [x] .less).1) H') :
  ae PP 213 #[cv b (4*k) (some q) l c] Q H:=by
 apply D9;dsimp only [aK,aY,aF,bk,ao,ak,iV,aB,aH,aE,aL,ac,au,am,aJ,ax];have f:=Fr.push [] H (.cells (cc b (4*k) (some q) l c) 138);have hb:=bH.new H (cc b (4*k) (some q) l c) 138;simp only [ch,U0,jb hs k1 k2] at h;refine ⟨_,hb.cell 0,_,hb.cell 1,_,_,_,hb.cell 2,ls (hK.nil f) hv hs k1 k2 hy hx (Rd.nilF hr f) (fun hn H1 f1=>⟨_,_,_,rfl,?_⟩) fun dc LG H1 f1=>⟨_,_,_,rfl,?_⟩⟩
 ·rw [Ur hn] at h;exact h _ (f.trans f1)
 ·rw [Uq (by simpa using dc)] at h;rw [UB,Ut];exact dw ⟨_,_,rfl,h _ (f.trans f1)⟩
end
theorem CA {n x:Int}:(aV n x).2=170↔aA x≠1:=by
 unfold aV;split
 ·rename_i h;exact ⟨fun _=>h,fun _=>rfl⟩
 ·rename_i h;split
  ·exact ⟨fun e=>absurd (show (171:Int)=170 from e) (by decide),fun e=>absurd e h⟩
  ·exact ⟨fun e=>absurd (show (0:Int)=170 from e) (by decide),fun e=>absurd e h⟩
section
variable {H:ag}{b:Nat}{F:aR}{s:SP}{t:TB}{v:KV}{Q:QT}{r x:Int}{a:Option Addr}{q:Addr}{l c:Nat}{ws ar:List Int}{k:Int}{y:ByteArray}
theorem wm (hK:PK H b F s t){w:Int} (hr:Rd 1 H (some q) l (av [x,w])) (ho:q.block∉F) (h:∀ H',PK H' b F (ch s t v r [x,w] .bytePut).2.1 t->Fr F H H'->Q (mu (ch s t v r [x,w] .bytePut).1) H') :
  ae PP 210 #[cv b r (some q) l c] Q H:=by
 have aa:=hK.lt;have ai:l=2:=by have:=hr.1;simpa [av] using this.symm
 subst ai;apply Bo;dsimp only [aK,aY,aF,aT,ao,ak,cS,bv,aB,aH,aE,bq,aL,ac,bu,au,am,aJ,ax];have f:=Fr.push [] H (.cells (cc b r (some q) 2 c) 138);have hb:=bH.new H (cc b r (some q) 2 c) 138;have L3:H.size∉F:=fun hm=>by have:=aa _ hm;omega
 simp only [ch,U0,List.getD_cons_succ] at h;refine ⟨_,hb.cell 0,_,hb.cell 1,_,_,_,hb.cell 2,_,hb.cell 1,fU (hK.nil f) fun H1 f1=>⟨_,_,rfl,?_⟩⟩;have f01:=f.trans f1;have an:=hb.fr f1 (by simp);refine ⟨_,an.cell 0,_,an.cell 1,_,_,_,an.cell 2,pD (hK.nil f01) (Rd.nilF hr f01) fun H2 f2=>?_⟩;have f02:=f01.trans f2;have c9:=an.fr f2 (by simp);have a2:=Rd.argc (Rd.nilF hr f02) 1 (by simp);rw [show ([x,w].getD 1 0)=w from rfl] at a2;refine ⟨_,_,rfl,_,_,_,c9.cell 2,⟨by decide,by decide⟩,q,rfl,_,a2,ph (hK.nil f02).kinds ?_⟩;have bad:aA x≠1∨aA w≠1∨w / 2<0∨255<w / 2->Q (.tuple #[ac 0,ac 170]) H2:=fun hc=>by
  rw [Ur hc] at h;exact h _ (hK.nil f02) (gT f02 (Fr.refl F _))
 generalize hI:aV (cq s.h r).1 x=I at *;have Q3:I.2=170↔aA x≠1:=by rw [←hI];exact CA
 unfold mE;split
 ·rename_i JG;refine ⟨_,_,rfl,?_⟩;rw [bI,ah];refine aP (fun h1=>bad (.inl (Q3.1 h1))) fun h1=>?_;simp only [show ((0:Int) != 0)=false from rfl,Ut];rw [ah];refine aP (fun h2=>bad (.inr (.inr (.inl h2)))) fun h2=>?_;rw [ah];refine aP (fun h3=>bad (.inr (.inr (.inr h3)))) fun h3=>?_;have JL:aA x=1:=Uv fun e=>h1 (Q3.2 e);rw [Uq (by simp only [Vt];exact ⟨by simpa using JL,by simpa using JG,by omega,by omega⟩)] at h;rw [bK,ah];refine aP (fun h4=>?_) fun h4=>?_
  ·rw [Ur h4] at h;exact h _ (hK.nil f02) (gT f02 (Fr.refl F _))
  rw [Uq h4] at h;refine ⟨_,_,_,c9.cell 2,⟨by decide,by decide⟩,q,rfl,_,a2,_,c9.cell 0,_,c9.cell 1,_,_,_,c9.cell 2,_,c9.cell 1,wt (hK.nil f02) fun H4 K6 f4=>?_⟩;have f04:=gT f02 f4;have s8:=c9.fr f4 L3;have Hs:=hr.fr' f04 fun p hp=>by cases hp;exact ho
  have a4:=Rd.argc Hs 1 (by simp);exact ⟨_,rfl,⟨⟨a4,trivial⟩,⟨s8.cell 2,trivial⟩,trivial⟩,h H4 K6 f04⟩
 ·rename_i JG;refine ⟨_,_,rfl,?_⟩;rw [bI,ah];refine aP (fun h1=>bad (.inl (Q3.1 h1))) fun h1=>?_;exact bad (.inr (.inl JG))
theorem AD (hK:PK H b F s t) (hs:ou s.h k (bL y)) (k1:1<=k) (k2:k<=65536) (hy:y.size<=8192) (hw:WFT t) (hm:t.texts.length<=4096)
  (h:∀ H' F',PK H' b F' (ch s t v (4*k) [] .asSym).2.1 (ch s t v (4*k) [] .asSym).2.2->Up F H F' H'->Q (mu (ch s t v (4*k) [] .asSym).1) H'):ae PP 214 #[cv b (4*k) a l c] Q H:=by
 apply BN;dsimp only [aK,aY,aF,dd,gI,ao,ak,cS,bv,aB,aH,aE,aL,ac,au,am,aJ,aZ,ax];have f:=Fr.push [] H (.cells (cc b (4*k) a l c) 138);have hb:=bH.new H (cc b (4*k) a l c) 138;simp only [ch,jb hs k1 k2] at h;refine ⟨_,hb.cell 0,_,hb.cell 1,_,_,_,hb.cell 2,_,hb.cell 1,sq (hK.nil f) hs k1 k2 (by omega) fun H1 f1=>⟨_,rfl,?_⟩⟩;have f01:=f.trans f1;have an:=hb.fr f1 (by simp);have bad:y.size<1∨96<y.size->Q (.tuple #[ac 0,ac 170]) H1:=fun hc=>by
  rw [Ur hc] at h;exact h _ _ (hK.nil f01) (Up.of_nil f01)
 rw [ah];refine aP (fun h1=>bad (.inl (by omega))) fun h1=>?_;rw [ah];refine aP (fun h2=>bad (.inr (by omega))) fun h2=>?_;rw [Uq (by omega)] at h;have e9:=hK.nil f01;obtain ⟨tb,F2,hc,hT,ap,_,cx,_⟩:=e9.tb;refine ⟨_,an.cell 0,?_⟩;apply zN;dsimp only [ao,aE,aN,fi,am];refine ⟨_,rfl,_,hc,⟨_,rfl,sg hT fun H2 F3 Nd u2=>⟨_,_,rfl,?_⟩⟩⟩;obtain ⟨F',K7,u3⟩:=cx H2 F3 _ Nd u2;have u:=A7 f01 u3;have hq:=h H2 F' K7 u;rw [bK,ah];refine aP (fun e0=>?_) fun e0=>?_
 ·rw [Ur e0] at hq;exact hq
 rw [Uq e0] at hq;have e1:=lC y (Uv e0);obtain ⟨m,e1,e2,_⟩:=e1;have OX:=(V1.1 e2).1;have It:=(lT t y).1;have w1:=fO hw y;have Mj:=w1.len;have Mi:=w1.m1;rw [e1] at hq ⊢;exact A5 ⟨by omega,by omega⟩ ⟨_,_,rfl,hq⟩
theorem AZ (hK:PK H b F s t) (hv:KAllW s t v) (CO:1<=bV s.h r∧bV s.h r<=65536){n:Nat} (hn:(cq s.h r).1=(n:Int)) (Fd:n<=100000) (ui:¬ (bV s.h r=10∨(bV s.h r=11∧n≠0)∨gi v (bV s.h r)=true)->∀ H',Fr [] H H'->Q (.tuple #[ac r,ac 0]) H')
  (h:bV s.h r=10∨(bV s.h r=11∧n≠0)∨gi v (bV s.h r)=true->∀ H',PK H' b F (s.makeP (bV s.h r) (cq s.h r).2 (dC s.h r n)).2 t->Fr F H H'->Q (.tuple #[ac (s.makeP (bV s.h r) (cq s.h r).2 (dC s.h r n)).1.1,ac (s.makeP (bV s.h r) (cq s.h r).2 (dC s.h r n)).1.2]) H') :
  ae PP 180 #[cv b r a l c] Q H:=by
 have aa:=hK.lt;apply CU;dsimp only [aK,aY,aF,bJ,aT,dU,ao,ak,cS,aB,aH,aE,aL,ac,au,am,aJ,ax];have f:=Fr.push [] H (.cells (cc b r a l c) 138);have hb:=bH.new H (cc b r a l c) 138;refine ⟨_,hb.cell 0,_,hb.cell 1,_,_,_,hb.cell 2,_,hb.cell 1,mm (hK.nil f) hv fun H1 f1=>⟨_,rfl,?_⟩⟩;have f01:=f.trans f1;have an:=hb.fr f1 (by simp);refine ⟨_,an.cell 0,_,an.cell 1,_,_,_,an.cell 2,_,an.cell 1,fU (hK.nil f01) fun H2 f2=>⟨_,_,rfl,?_⟩⟩;have f02:=f01.trans f2;have c9:=an.fr f2 (by simp);have mk:∀ {H4:ag},Fr [] H H4->bH H4 H.size (cc b r a l c)->(bV s.h r=10∨(bV s.h r=11∧n≠0)∨gi v (bV s.h r)=true) ->
   ∃ p17:Option Addr,aq H4 (⟨H.size,0,none⟩:Addr)=some (.pointer p17)∧∃ n18:Int,aq H4 ((⟨H.size,0,none⟩:Addr).add 1)=some (ac n18)∧∃ a19:Option Addr,∃ l19:Nat,∃ c19:Nat,aq H4 ((⟨H.size,0,none⟩:Addr).add 2)=some (.slice a19 l19 c19)∧∃ p20:Option Addr,aq H4 (⟨H.size,0,none⟩:Addr)=some (.pointer p20)∧∃ n21:Int,aq H4 ((⟨H.size,0,none⟩:Addr).add 1)=some (ac n21)∧∃ a22:Option Addr,∃ l22:Nat,∃ c22:Nat,aq H4 ((⟨H.size,0,none⟩:Addr).add 2)=some (.slice a22 l22 c22)∧∃ n23:Int,aq H4 ((⟨H.size,0,none⟩:Addr).add 1)=some (ac n23) ∧
    ae PP 291 #[.agg #[.pointer p20,ac n21,.slice a22 l22 c22],ac n23] (fun v24 H3=>∃ a25:Option Addr,∃ l25:Nat,∃ c25:Nat,v24=.slice a25 l25 c25∧((aq H3 (⟨H.size,0,none⟩:Addr)=some (.pointer p17)∧(aq H3 ((⟨H.size,0,none⟩:Addr).add 1)=some (ac n18)∧(aq H3 ((⟨H.size,0,none⟩:Addr).add 2)=some (.slice a19 l19 c19)∧True)))∧True) ∧
     ae PP 290 #[.agg #[.pointer p17,ac n18,.slice a19 l19 c19],ac (bV s.h r),ac (cq s.h r).2,.slice a25 l25 c25] (fun v26 H4=>∃ n27:Int,∃ n28:Int,v26=.tuple #[ac n27,ac n28]∧True∧Q (.tuple #[ac n27,ac n28]) H4) H3) H4:=by
  intro H4 f4 s8 hc;refine ⟨_,s8.cell 0,_,s8.cell 1,_,_,_,s8.cell 2,_,s8.cell 0,_,s8.cell 1,_,_,_,s8.cell 2,_,s8.cell 1,tz (hK.nil f4) hn (by omega) fun q H3 Fh ML f3=>?_⟩;have f03:=f4.trans f3;have xb:=s8.fr f3 (by simp);refine ⟨_,_,_,rfl,⟨⟨xb.cell 0,xb.cell 1,xb.cell 2,trivial⟩,trivial⟩,xF (hK.nil f03) CO Fh.rd (fun p hp hm=>?_) (by omega) fun H' lc f'=>⟨_,_,rfl,trivial,h hc H' lc (gT f03 f')⟩⟩;cases hp
  have:=aa _ hm
  have:=f4.1;simp only at *;omega
 have other:(bV s.h r≠10)->¬ (bV s.h r=11∧n≠0)->∀ {H4:ag},Fr [] H H4->bH H4 H.size (cc b r a l c)->∃ p41:Option Addr,aq H4 (⟨H.size,0,none⟩:Addr)=some (.pointer p41)∧∃ n42:Int,aq H4 ((⟨H.size,0,none⟩:Addr).add 1)=some (ac n42)∧∃ a43:Option Addr,∃ l43:Nat,∃ c43:Nat,aq H4 ((⟨H.size,0,none⟩:Addr).add 2)=some (.slice a43 l43 c43)∧∃ n44:Int,aq H4 ((⟨H.size,0,none⟩:Addr).add 1)=some (ac n44) ∧
   ae PP 289 #[.agg #[.pointer p41,ac n42,.slice a43 l43 c43],ac n44] (fun v45 H7=>∃ b46:Bool,v45=.bool b46∧cond b46 (∃ p17:Option Addr,aq H7 (⟨H.size,0,none⟩:Addr)=some (.pointer p17)∧∃ n18:Int,aq H7 ((⟨H.size,0,none⟩:Addr).add 1)=some (ac n18)∧∃ a19:Option Addr,∃ l19:Nat,∃ c19:Nat,aq H7 ((⟨H.size,0,none⟩:Addr).add 2)=some (.slice a19 l19 c19)∧∃ p20:Option Addr,aq H7 (⟨H.size,0,none⟩:Addr)=some (.pointer p20)∧∃ n21:Int,aq H7 ((⟨H.size,0,none⟩:Addr).add 1)=some (ac n21)∧∃ a22:Option Addr,∃ l22:Nat,∃ c22:Nat,aq H7 ((⟨H.size,0,none⟩:Addr).add 2)=some (.slice a22 l22 c22)∧∃ n23:Int,aq H7 ((⟨H.size,0,none⟩:Addr).add 1)=some (ac n23) ∧
    ae PP 291 #[.agg #[.pointer p20,ac n21,.slice a22 l22 c22],ac n23] (fun v24 H3=>∃ a25:Option Addr,∃ l25:Nat,∃ c25:Nat,v24=.slice a25 l25 c25∧((aq H3 (⟨H.size,0,none⟩:Addr)=some (.pointer p17)∧(aq H3 ((⟨H.size,0,none⟩:Addr).add 1)=some (ac n18)∧(aq H3 ((⟨H.size,0,none⟩:Addr).add 2)=some (.slice a19 l19 c19)∧True)))∧True) ∧
     ae PP 290 #[.agg #[.pointer p17,ac n18,.slice a19 l19 c19],ac (bV s.h r),ac (cq s.h r).2,.slice a25 l25 c25] (fun v26 H4=>∃ n27:Int,∃ n28:Int,v26=.tuple #[ac n27,ac n28]∧True∧Q (.tuple #[ac n27,ac n28]) H4) H3) H7) (∃ n59:Int,aq H7 ((⟨H.size,0,none⟩:Addr).add 1)=some (ac n59)∧Q (.tuple #[ac n59,ac 0]) H7)) H4:=by
  intro g1 g2 H4 f4 s8;refine ⟨_,s8.cell 0,_,s8.cell 1,_,_,_,s8.cell 2,_,s8.cell 1,xk (hK.nil f4) hv fun H7 f7=>⟨_,rfl,?_⟩⟩;have f07:=f4.trans f7;have R8:=s8.fr f7 (by simp);cases hi:gi v (bV s.h r) with
  | true=>exact mk f07 R8 (.inr (.inr hi))
  | false=>exact ⟨_,R8.cell 1,ui (fun hh=>by rcases hh with hh | hh | hh;exact g1 hh;exact g2 hh;rw [hi] at hh;cases hh) _ f07⟩
 rw [bI,ah];refine aP (fun dc=>mk f02 c9 (.inl dc)) fun g1=>?_;rw [bI,ah];refine aP (fun nb=>?_) fun g2=>other g1 (fun hh=>g2 hh.1) f02 c9;rw [hn,ah];exact aP (fun h0=>mk f02 c9 (.inr (.inl ⟨nb,by omega⟩))) fun g2=>other g1 (fun hh=>g2 (by omega)) f02 c9
theorem xZ (hK:PK H b F s t) (hv:KAllW s t v){o:Int} (Hs:r=4*o) (ho:1<=o∧o<=65536) (cp:(eK v o=none∨∃ i,eK v o=some i∧(i:Int)+1<=14∧o≠4)->∀ H',Fr [] H H'->Q (.tuple #[ac 0,ac 170]) H')
  (h:∀ i,eK v o=some i->((i:Int)+1<=14->o=4)->∀ H',PK H' b F (s.alloc r ((cF v i).length:Int) 0).2 t->Fr F H H'->Q (.tuple #[ac (vQ s r ((cF v i).length:Int) 0),ac (s.alloc r ((cF v i).length:Int) 0).1.2]) H') :
  ae PP 216 #[cv b r a l c] Q H:=by
 apply El;dsimp only [aK,aY,aF,dd,ao,ak,oC,aB,aE,ac,zp,au,am,aJ,ax];have f:=Fr.push [] H (.cells (cc b r a l c) 138);have hb:=bH.new H (cc b r a l c) 138;refine ⟨_,hb.cell 1,jP (hK.nil f).kinds ?_⟩;unfold mE;rw [Ur (by rw [Hs];exact cW ho.1 ho.2)];dsimp only;rw [show r / 4=o by omega];refine ⟨_,_,rfl,_,hb.cell 0,tM (hK.nil f) hv fun H2 f2=>?_⟩;have f02:=f.trans f2;have c9:=hb.fr f2 (by simp);cases hp:eK v o with
 | none =>
  exact ⟨_,_,rfl,fun _ _=>False,cp (.inl hp) _ f02,fun _ _ hf=>hf.elim⟩
 | some i =>
  refine ⟨_,_,rfl,fun w H'=>w=[]∧H'=H2∧((i:Int)+1<=14->o=4),?_,?_⟩
  ·rw [show ((0:Int) != 0)=false from rfl,Ut,ah];refine aP (fun In=>?_) fun In=>⟨rfl,rfl,fun h=>absurd h In⟩;rw [bK,ah];exact aP (fun h4=>cp (.inr ⟨i,hp,In,h4⟩) _ f02) fun h4=>⟨rfl,rfl,fun _=>Uv h4⟩
  rintro w H' ⟨rfl,rfl,hc⟩ _;refine ⟨rfl,_,c9.cell 0,zd (hK.nil f02) hv (fun i' k8 a3 l3 c3 G H4 MM f4 _=>⟨_,_,_,_,rfl,?_⟩) (fun hn=>by rw [hp] at hn;cases hn)⟩;rw [hp] at k8;cases k8;have f04:=f02.trans f4;have s8:=c9.fr f4 (by simp);have Mf:l3=(cF v i).length:=by have:=MM.len;simpa [bY] using this.symm
  subst Mf;simp only [show ((0:Int) != 0)=false from rfl,Ut];refine ⟨_,s8.cell 0,_,s8.cell 1,dS (hK.nil f04) fun sb F1 _ hS ap _ cx=>⟨_,rfl,⟨⟨s8.cell 1,trivial⟩,trivial⟩,je hS fun H6 N3 f6=>⟨_,_,rfl,trivial,h i hp hc H6 (cx H6 _ N3 f6) (gT f04 (f6.mono ap))⟩⟩⟩
theorem xW (hK:PK H b F s t){o:Int} (Hs:r=4*o) (ho:1<=o∧o<=65536) (hr:Rd 1 H (some q) l (av [x])) (cp:((o≠10∧o≠11)∨aA x≠1∨x / 2<0∨8192<x / 2)->∀ H',Fr [] H H'->Q (.tuple #[ac 0,ac 170]) H')
  (hempty:o=11->x / 2=0->aA x=1->∀ H',Fr [] H H'->Q (.tuple #[ac 72,ac 0]) H')
  (h:¬ ((o≠10∧o≠11)∨aA x≠1∨x / 2<0∨8192<x / 2)->∀ fm:Int,(o=10∧fm=1)∨(o=11∧fm=0∧x / 2≠0)->∀ H',PK H' b F (s.alloc r (x / 2) fm).2 t->Fr F H H'->Q (.tuple #[ac (vQ s r (x / 2) fm),ac (s.alloc r (x / 2) fm).1.2]) H') :
  ae PP 217 #[cv b r (some q) l c] Q H:=by
 have ai:l=1:=by have:=hr.1;simpa [av] using this.symm
 subst ai;apply Ex;dsimp only [aK,aY,aF,bk,dd,ao,ak,cS,bv,aB,aH,aE,bq,ac,bu,Bj,au,am,aJ,ax];have f:=Fr.push [] H (.cells (cc b r (some q) 1 c) 138);have hb:=bH.new H (cc b r (some q) 1 c) 138;have a0:=Rd.argc (Rd.nilF hr f) 0 (by simp);have e9:=hK.nil f;refine ⟨_,hb.cell 1,jP e9.kinds ?_⟩;unfold mE;rw [Ur (by rw [Hs];exact cW ho.1 ho.2)];dsimp only;rw [show r / 4=o by omega];refine ⟨_,_,rfl,_,_,_,hb.cell 2,⟨by decide,by decide⟩,q,rfl,_,a0,ph e9.kinds ?_⟩;rw [U0];have pair:∃ n e:Int,mE 1 (· / 2) x=.tuple #[ac n,ac e]∧((e=0∧aA x=1∧n=x / 2)∨(e=10∧aA x≠1)):=by
  unfold mE;split
  ·rename_i hk;exact ⟨_,_,rfl,.inl ⟨rfl,hk,rfl⟩⟩
  ·rename_i hk;exact ⟨_,_,rfl,.inr ⟨rfl,hk⟩⟩
 obtain ⟨n,e,hp,he⟩:=pair;rw [hp]
 let J:=fun (w:List Value) (H':ag)=>H'=H.push (.cells (cc b r (some q) 1 c) 138)∧((w=[.bool true]∧((o≠10∧o≠11)∨aA x≠1∨x / 2<0∨8192<x / 2))∨(w=[.bool false]∧¬ ((o≠10∧o≠11)∨aA x≠1∨x / 2<0∨8192<x / 2)∧n=x / 2))
 refine ⟨_,_,rfl,J,?_,?_⟩
 ·have tail:(o=10∨o=11)->cond (e != 0) (J [.bool true] (H.push (.cells (cc b r (some q) 1 c) 138)))
    (cond (decide (n<0)) (J [.bool true] (H.push (.cells (cc b r (some q) 1 c) 138)))
     (J [.bool (decide (n > 8192))] (H.push (.cells (cc b r (some q) 1 c) 138)))):=by
   intro Jk;rw [bK,ah];refine aP (fun h1=>⟨rfl,.inl ⟨rfl,?_⟩⟩) fun h1=>?_
   ·rcases he with ⟨e1,_⟩ | ⟨_,e2⟩
    ·exact absurd e1 h1
    ·exact .inr (.inl e2)
   have Pt:e=0:=Uv h1;obtain ⟨_,hk,hn⟩:e=0∧aA x=1∧n=x / 2:=by
    rcases he with he | ⟨e2,_⟩
    ·exact he
    ·omega
   rw [ah];refine aP (fun h2=>⟨rfl,.inl ⟨rfl,.inr (.inr (.inl (by omega)))⟩⟩) fun h2=>⟨rfl,?_⟩;by_cases h3:n > 8192
   ·exact .inl ⟨by rw [Vs h3],.inr (.inr (.inr (by omega)))⟩
   ·refine .inr ⟨by rw [Vz h3],?_,hn⟩;rintro (h4 | h4 | h4 | h4)
    ·omega
    ·exact h4 hk
    ·omega
    ·omega
  rw [bK,ah];refine aP (fun dc=>?_) fun dc=>tail (.inl (Uv dc));rw [bK,ah];exact aP (fun nb=>⟨rfl,.inl ⟨rfl,.inl ⟨dc,nb⟩⟩⟩) fun nb=>tail (.inr (Uv nb))
 rintro w H' ⟨rfl,hz⟩ _;rcases hz with ⟨rfl,hz⟩ | ⟨rfl,hz,rfl⟩
 ·exact ⟨_,rfl,cp hz _ f⟩
 ·refine ⟨_,rfl,?_⟩;have R9:=hz;simp only [Vt] at R9;have AT:aA x=1:=Uv R9.2.1;rw [Ut,bI,ah];refine aP (fun dc=>?_) fun dc=>?_
  ·exact ⟨_,hb.cell 0,_,hb.cell 1,dS e9 fun sb F1 _ hS ap _ cx=>⟨_,rfl,⟨⟨hb.cell 1,trivial⟩,trivial⟩,je hS fun H3 N9 f3=>⟨_,_,rfl,trivial,h hz 1 (.inl ⟨dc,rfl⟩) H3 (cx H3 _ N9 f3) (gT f (f3.mono ap))⟩⟩⟩
  ·rw [bI,ah];have nb:o=11:=Uv fun e=>hz (.inl ⟨dc,e⟩);refine aP (fun G8=>oo ⟨by decide,by decide⟩ ⟨_,_,rfl,hempty nb G8 AT _ f⟩) fun G8=>?_;exact ⟨_,hb.cell 0,_,hb.cell 1,dS e9 fun sb F1 _ hS ap _ cx=>⟨_,rfl,⟨⟨hb.cell 1,trivial⟩,trivial⟩,je hS fun H3 N9 f3=>⟨_,_,rfl,trivial,h hz 0 (.inr ⟨nb,rfl,G8⟩) H3 (cx H3 _ N9 f3) (gT f (f3.mono ap))⟩⟩⟩
end
end
section
variable {H:ag}{b:Nat}{F:aR}{s:SP}{t:TB}{v:KV}{Q:QT}{r:Int}{a:Option Addr}{l c:Nat}{ws:List Int}
theorem HL (hK:PK H b F s t) (hv:KAllW s t v){k:Int}{x:ByteArray} (hr:Rd 1 H a l (av ws))
  (h1:¬ tP s k x r ws->∀ H',Fr [] H H'->Q (.tuple #[ac 0,ac 1]) H') (Ou:tP s k x r ws->¬ (fc v k (bV s.h r)=true∧dz s.h k r=true)->∀ H',Fr [] H H'->Q (.tuple #[ac 0,ac 170]) H')
  (h:∀ n p,fv (ko k) x=some (n,p)->p≠.nil->(ws.length:Int)=n->(∀ w∈r :: ws,bV s.h w≠0)->fc v k (bV s.h r)=true->dz s.h k r=true->∀ H' n0 rr f g hh,Fr [] H H'->oE H' n0 rr p (.func (.func f) g hh)->ae PP f ((g++#[cv b r a l c])++hh) (fun v42 H9=>∃ n43:Int,∃ n44:Int,v42=.tuple #[ac n43,ac n44]∧Q (.tuple #[ac n43,ac n44]) H9) H') :
  ae PP 30 #[Kj b,ac k,.string x,ac r,.slice a l c] Q H:=by
 have L4:bj PP 30=some (1,8,some (ac 0)):=by kernel_rfl
 apply AL;dsimp only [aK,aY,aF,mH,bk,bJ,aT,xT,dd,ao,ak,bv,lE,aB,aH,aE,bq,aL,ac,bu,cX,au,ck,ga,fi,am,aJ,cC,aZ,ax,bP,bU,bd];refine dS hK fun sb F1 _ _ _ _ _=>⟨_,rfl,?_⟩;simp only [Uw,Ut];have RV:ws.length=l:=by have:=hr.1;simpa [av] using this
 have nilcase:∀ H1 (n:Int),Fr [] H H1->Wr (H1.push (.cells #[ac 0,.nilFunc] 133)) ⟨H1.size,0,none⟩∧Wr (bc (H1.push (.cells #[ac 0,.nilFunc] 133)) ⟨H1.size,0,none⟩ (ac n)) ((⟨H1.size,0,none⟩:Addr).add 1) ∧
   (bc (bc (H1.push (.cells #[ac 0,.nilFunc] 133)) ⟨H1.size,0,none⟩ (ac n)) ((⟨H1.size,0,none⟩:Addr).add 1) .nilFunc)[H1.size]?=some (.cells #[ac n,.nilFunc] 133 (0,0)) ∧
   Fr [] H (bc (bc (H1.push (.cells #[ac 0,.nilFunc] 133)) ⟨H1.size,0,none⟩ (ac n)) ((⟨H1.size,0,none⟩:Addr).add 1) .nilFunc):=fun H1 n f1=>by
  have q0:=bH.new H1 #[ac 0,.nilFunc] 133;refine ⟨q0.wr (by decide),(q0.set 0 (ac n)).wr (o:=1) (by simp),?_,f1.trans ⟨by rw [bR,bR];simp,fun y hy _=>?_⟩⟩
  ·show (bc (bc (H1.push (.cells #[ac 0,.nilFunc] 133)) ⟨H1.size,0,none⟩ (ac n)) ⟨H1.size,1,none⟩ .nilFunc)[H1.size]?=_;rw [aM,aM];simp
  ·rw [cK (by show y≠H1.size;omega),cK (by show y≠H1.size;omega)];exact (Fr.push [] H1 _).2 y hy (by simp)
 refine uI fun rm H1 m1=>⟨_,rfl,qY m1 (fun e=>?_) fun k2 q val rr e hq=>?_⟩
 ·obtain ⟨w1,w2,_,w4⟩:=nilcase H1 0 m1.f;exact ⟨0,.inr ⟨false,rfl,w1,w2,h1 (fun ⟨n,p,g1,_⟩=>by rw [e] at g1;cases g1) _ w4⟩⟩
 by_cases hp:q=.nil
 ·subst hp;have hq:val=.nilFunc:=hq;subst hq;obtain ⟨w1,w2,w3,w4⟩:=nilcase H1 k2 m1.f;refine ⟨k2,.inr ⟨true,rfl,w1,w2,.inr ⟨?_,h1 (fun ⟨n,p,g1,g2,_⟩=>by rw [e] at g1;cases g1;exact g2 rfl) _ w4⟩⟩⟩;show aq _ ⟨H1.size,0+1,none⟩=_;simp only [aq,w3];rfl
 obtain ⟨f,g,hh,rfl⟩:=hq.func hp;have f01:=m1.f;have he:=e;generalize Mk:k2=n at *;refine ⟨n,.inl ⟨f,g,hh,true,rfl,?_⟩⟩;have q0:=bH.new H1 #[ac 0,.nilFunc] 133;refine ⟨q0.wr (by decide),(q0.set 0 (ac n)).wr (o:=1) (by simp),?_⟩;have q2:bH (bc (bc (H1.push (.cells #[ac 0,.nilFunc] 133)) ⟨H1.size,0,none⟩ (ac n)) ((⟨H1.size,0,none⟩:Addr).add 1) (.func (.func f) g hh)) H1.size #[ac n,.func (.func f) g hh]:=(q0.set 0 (ac n)).set 1 (.func (.func f) g hh);have f12:Fr [] H1 (bc (bc (H1.push (.cells #[ac 0,.nilFunc] 133)) ⟨H1.size,0,none⟩ (ac n)) ((⟨H1.size,0,none⟩:Addr).add 1) (.func (.func f) g hh)):=by
  refine ⟨by rw [bR,bR];simp,fun y hy _=>?_⟩;rw [cK (by show y≠H1.size;omega),cK (by show y≠H1.size;omega)];exact (Fr.push [] H1 _).2 y hy (by simp)
 generalize bc (bc (H1.push (.cells #[ac 0,.nilFunc] 133)) ⟨H1.size,0,none⟩ (ac n)) ((⟨H1.size,0,none⟩:Addr).add 1) (.func (.func f) g hh)=H2 at q2 f12 ⊢;simp only [UB,Ut];have f02:=f01.trans f12;refine .inl ⟨f,g,hh,q2.cell 1,n,q2.cell 0,?_⟩;rw [bK,ah];refine aP (fun G8=>h1 (fun ⟨n',p,g1,g2,g3,_⟩=>by rw [he] at g1;cases g1;exact G8 (by omega)) _ f02) fun G8=>?_;have hn:(l:Int)=n:=Uv G8;have hl:l<=1000:=by have:=rq he;omega
 have p0:=bH.new H2 #[.pointer none,ac 0,.slice none 0 0] 138;have p1:=p0.set 0 (Kj b);have p2:=p1.set 1 (ac r);have p3:=p2.set 2 (.slice a l c);refine ⟨p0.wr (by decide),p1.wr (o:=1) (by simp),p2.wr (o:=2) (by simp),?_⟩;have p3':bH (bc (bc (bc (H2.push (.cells #[.pointer none,ac 0,.slice none 0 0] 138)) ⟨H2.size,0,none⟩ (Kj b)) ((⟨H2.size,0,none⟩:Addr).add 1) (ac r)) ((⟨H2.size,0,none⟩:Addr).add 2) (.slice a l c)) H2.size (cc b r a l c):=p3;have f23:Fr [] H2 (bc (bc (bc (H2.push (.cells #[.pointer none,ac 0,.slice none 0 0] 138)) ⟨H2.size,0,none⟩ (Kj b)) ((⟨H2.size,0,none⟩:Addr).add 1) (ac r)) ((⟨H2.size,0,none⟩:Addr).add 2) (.slice a l c)):=by
  refine ⟨by rw [bR,bR,bR];simp,fun y hy _=>?_⟩;rw [cK (by show y≠H2.size;omega),cK (by show y≠H2.size;omega),cK (by show y≠H2.size;omega)];exact (Fr.push [] H2 _).2 y hy (by simp)
 have s23:(bc (bc (bc (H2.push (.cells #[.pointer none,ac 0,.slice none 0 0] 138)) ⟨H2.size,0,none⟩ (Kj b)) ((⟨H2.size,0,none⟩:Addr).add 1) (ac r)) ((⟨H2.size,0,none⟩:Addr).add 2) (.slice a l c)).size=H2.size+1:=by rw [bR,bR,bR];simp
 generalize bc (bc (bc (H2.push (.cells #[.pointer none,ac 0,.slice none 0 0] 138)) ⟨H2.size,0,none⟩ (Kj b)) ((⟨H2.size,0,none⟩:Addr).add 1) (ac r)) ((⟨H2.size,0,none⟩:Addr).add 2) (.slice a l c)=H3 at p3' f23 s23 ⊢;clear p0 p1 p2 p3 q0;have q3:=q2.fr f23 (by simp);have f03:=f02.trans f23;have fP:=Fr.push [] H3 (.cells #[ac r] 26);have ho:cZ 1 (H3.push (.cells #[ac r] 26)) (some ⟨H3.size,0,none⟩) 1 1 (av [r]) [H3.size]:=⟨by simp [av],UI _,.inr ⟨_,_,rfl,rfl,bH.new _ _ _,by simp,by simp [av]⟩⟩;refine eU L4 rfl (by kernel_rfl) ho (Rd.nilF hr (f03.trans fP)) (il (l:=ws)) (by omega) (by decide) (by decide) fun a4 c4 F4 H4 o4 u4 _=>⟨_,_,_,rfl,?_⟩;have f34:Fr [] H3 H4:=⟨Ux fP.1 u4.1.1,fun y hy _=>by rw [u4.1.2 y (UJ hy fP.1) (by simp;omega),fP.2 y hy (by simp)]⟩;have f04:=f03.trans f34;have p4:=p3'.fr f34 (by simp);have q4:=q3.fr f34 (by simp);have e4:av [r]++av ws=av (r :: ws):=rfl;rw [e4] at o4;have fr14:Fr [] H1 H4:=(f12.trans f23).trans f34;have RX:=hq;refine ⟨fun w H'=>∃ i:Nat,w=[ac i]∧i<=1+l∧Fr [] H4 H'∧∀ j,j<i->bV s.h ((r :: ws).getD j 0)≠0,fun w _=>match w with
  | [.int _ i]=>((1+l:Nat)-i:Int).toNat
  | _=>0,⟨0,rfl,U7 _,Fr.refl _ _,fun j hj=>absurd hj (Nat.not_lt_zero j)⟩,?_⟩
 rintro w H5 ⟨i,rfl,hi,f5,I4⟩ _;have p5:=p4.fr f5 (by simp);have q5:=q4.fr f5 (by simp);have f05:=f04.trans f5;refine ⟨_,rfl,iN (fun aa=>?_) fun JT=>?_⟩
 ·obtain ⟨q,JO,Ji,ML⟩:=(Rd.nilF o4.rd f5).int (i:=(i:Int)) (by omega) (by omega);simp only [Uy] at Ji;have e1:IntKind.wrap .i64 ((i:Int)+1)=((i+1:Nat):Int):=by rw [az (by omega) (by omega)];omega
  refine ⟨⟨by omega,aa⟩,q,JO,_,by rw [Uy,UC];exact Ji,_,p5.cell 0,_,p5.cell 1,_,_,_,p5.cell 2,mm (hK.nil f05) hv fun H6 f6=>⟨_,rfl,?_⟩⟩;rw [bI,ah];refine aP (fun h0=>h1 (fun ⟨n',p,_,_,_,g4⟩=>by
   have lp:i<(r :: ws).length:=by simp only [US];omega
   have hmem:(r :: ws).getD i 0∈r :: ws:=by
    rw [UD,UF lp];exact UQ lp
   exact g4 _ hmem h0) _ (f05.trans f6)) fun h0=>?_
  rw [e1];refine ⟨⟨i+1,rfl,by omega,f5.trans f6,fun j hj=>?_⟩,by simp;omega⟩;by_cases D4:j=i
  ·rw [D4];exact h0
  ·exact I4 j (by omega)
 ·have lj:∀ w∈r :: ws,bV s.h w≠0:=fun w hw=>by
   obtain ⟨j,hj,rfl⟩:=Vc.1 hw
   have:=I4 j (by simp only [US] at hj;omega);rw [UD,UF hj] at this;exact this
  refine ⟨_,p5.cell 0,_,p5.cell 1,_,_,_,p5.cell 2,sR (hK.nil f05) hv fun H6 f6=>⟨_,rfl,?_⟩⟩;cases fz:fc v k (bV s.h r) with
  | false=>rw [UG,UK];exact Ou ⟨n,q,he,hp,by omega,lj⟩ (fun g=>by rw [fz] at g;cases g.1) _ (f05.trans f6)
  | true =>
  rw [UB,Ut];have p6:=p5.fr f6 (by simp);have f06:=f05.trans f6;refine ⟨_,p6.cell 0,_,p6.cell 1,_,_,_,p6.cell 2,ve (hK.nil f06) fun H7 f7=>⟨_,rfl,?_⟩⟩;cases ll:dz s.h k r with
  | false=>rw [UG,UK];exact Ou ⟨n,q,he,hp,by omega,lj⟩ (fun g=>by rw [ll] at g;cases g.2) _ (f06.trans f7)
  | true =>
  rw [UB,Ut];have p7:=p6.fr f7 (by simp);have q7:=(q5.fr f6 (by simp)).fr f7 (by simp);have f07:=f06.trans f7;have fr17:Fr [] H1 H7:=((fr14.trans f5).trans f6).trans f7;exact .inl ⟨f,g,hh,q7.cell 1,_,p7.cell 0,_,p7.cell 1,_,_,_,p7.cell 2,h n q he hp (by omega) lj fz ll H7 H.size rr f g hh f07 (hq.fr fr17 (by simp))⟩
end
section
attribute [local irreducible] ba bQ bS eX d8 fx fu fo fA lz fj cE cG
section
variable {H:ag}{b:Nat}{F:aR}{s:SP}{t:TB}{v:KV}{G:Int->Prop}{Q:QT}{r x:Int}{a:Option Addr}{q:Addr}{l c:Nat}{k:Int}{y:ByteArray}{ar:List Int}{n:Int}{p:PF}{n0 rr f:Nat}{g hh:Array Value}{sel:ByteArray}
theorem cJ {f0:Nat} (hq:oE H n0 rr (.fn f0) (.func (.func f) g hh)) (h:ae PP f0 #[cv b r a l c] Q H):ae PP f ((g++#[cv b r a l c])++hh) Q H:=by
 have hq:(Value.func (.func f) g hh)=.func (.func f0) #[] #[]:=hq;cases hq;exact h
theorem zE {f0 g0:Nat} (hq:oE H n0 rr (.clo f0 g0) (.func (.func f) g hh)) (h:∀ m,bH H m #[.func (.func g0) #[] #[]]->ae PP f0 #[cv b r a l c,Kj m] Q H):ae PP f ((g++#[cv b r a l c])++hh) Q H:=by
 obtain ⟨m,e,hB,_⟩:=hq;cases e;exact h m hB
theorem wP {f0:Nat}{i:Int} (hq:oE H n0 rr (.slot f0 i) (.func (.func f) g hh)) (h:∀ m,bH H m #[ac i]->ae PP f0 #[cv b r a l c,Kj m] Q H):ae PP f ((g++#[cv b r a l c])++hh) Q H:=by
 obtain ⟨m,e,hB,_⟩:=hq;cases e;exact h m hB
theorem dh (hr:Rd 1 H a l (av ar)) (hn:(ar.length:Int)=1):∃ q y,a=some q∧ar=[y]:=by
 have ai:l=ar.length:=by have:=hr.1;simpa [av] using this.symm
 cases a with
 | none=>have:=hr.2.1 rfl;omega
 | some q =>
  match ar,hn with
  | [y],_=>exact ⟨q,y,rfl,rfl⟩
theorem sO (hr:Rd 1 H a l (av ar)) (hn:(ar.length:Int)=2):∃ q y z,a=some q∧ar=[y,z]:=by
 have ai:l=ar.length:=by have:=hr.1;simpa [av] using this.symm
 cases a with
 | none=>have:=hr.2.1 rfl;omega
 | some q =>
  match ar,hn with
  | [y,z],_=>exact ⟨q,y,z,rfl,rfl⟩
  | [],h=>simp at h
  | [_],h=>simp at h
  | _ :: _ :: _ :: _,h=>simp at h;omega
theorem z8 (hv:KAllW s t v){k c f:Int}{l:List Int} (h:ob s.h k=some (c,f,l)):l.length<=8192:=by
 obtain ⟨o,ho,_,hf,rfl⟩:=bO.1 h;exact (hv.ks.wf.h.objs.good o (aD ho).1).many
end
theorem sT {s:SP}{t:TB}{v:KV} (hv:KAllW s t v){w:Int} (h:bV s.h w≠0):1<=bV s.h w∧bV s.h w<=65536:=by
 have hk:aA w=0∨aA w=1∨aA w=2∨aA w=3:=by have:=bl w;omega
 obtain ⟨a,b,c⟩:=gO (r:=s.h) (w:=w);rcases hk with hk | hk | hk | hk
 ·exact absurd (c hk) h
 ·rw [a hk];decide
 ·rw [b hk];decide
 ·cases ho:ob s.h (w / 4) with
  | none =>
   exfalso;apply h;have e:qQ s.h w=(0,20):=by
    unfold qQ;rw [Uq (by omega),Uq (by omega),Ur hk];unfold RH.clsAt;rw [kI.1 ho];rfl
   unfold bV;rw [e];rfl
  | some x =>
   obtain ⟨c',f',l'⟩:=x;have hc:aA c'=3:=by
    obtain ⟨o,eF,rfl,_⟩:=bO.1 ho;exact hv.ks.gc o (aD eF).1
   rw [wT hk ho hc]
   have:=bX hc;omega
theorem oQ (w:Int):pN (dp w):=by
 unfold dp;split
 ·rename_i h;exact (lW h).2.1
 ·exact ⟨by decide,by decide⟩
def Gm (v:KV) (k:Int):Prop:=(∀ p∈v.roles,p.1≠k)∧k≠2∧k≠3
def WK (v:KV) (Gw:Int->Prop) (w:Int):Prop:=aA w=3->w / 4=1∨w / 4=2∨w / 4=3∨w / 4=18∨(∃ c∈v.cls,c.oop=w / 4)∨Gw (w / 4)
def NI (c:Int):Prop:=c≠32∧c≠36
def gb (P:Int->Prop) (r:RH):Prop:=∀ o∈r.objs,P o.cls
theorem vl {P:Int->Prop}{r:RH} (h:gb P r) (k i w:Int):gb P (r.put k i w).2:=by
 unfold RH.put;split
 ·exact h
 split
 ·exact h
 split
 ·exact h
 ·intro o ho;obtain ⟨o',eF,rfl⟩:=UM.1 ho;split
  ·exact h o' eF
  ·exact h o' eF
theorem tT {P:Int->Prop}{r:RH} (h:gb P r){c:Int} (hc:P c) (n f:Int):gb P (r.alloc c n f).2:=by
 unfold RH.alloc;split
 ·exact h
 split
 ·exact h
 split
 ·exact h
 split
 ·exact h
 ·intro o ho;rcases Uz.1 ho with ho | ho
  ·exact h o ho
  ·rw [Uu.1 ho];exact hc
theorem gn {o:RO}:∀ {l:List RO}{a:Int},o∈cz a l->∃ o'∈l,o'.cls=o.cls
 | [],_,h=>by cases h
 | x :: l,a,h=>by
  unfold cz at h;rcases Us.1 h with rfl | h
  ·exact ⟨x,by simp,rfl⟩
  ·obtain ⟨o',h1,h2⟩:=gn h;exact ⟨o',by simp [h1],h2⟩
theorem xn {P:Int->Prop}{r:RH} (h:gb P r) (l:List Int):gb P (r.keep l).2:=by
 unfold RH.keep;split
 ·exact h
 ·intro o ho;obtain ⟨o',h1,h2⟩:=gn ho;rw [←h2];exact h o' (U6.1 h1).1
theorem mW {P:Int->Prop}{s:SP} (h:gb P s.h){c:Int} (hc:P c) (n f:Int):gb P (s.alloc c n f).2.h:=by
 unfold SP.alloc;split
 ·exact tT h hc n f
 ·exact tT (xn h _) hc n f
theorem Ap {P:Int->Prop}{r:RH} (h:gb P r) (k:Int):gb P (r.marks k).2:=by
 unfold RH.marks;split
 ·exact h
 ·exact h
structure UW (s:SP) (v:KV) (Gw:Int->Prop):Prop where
 base:∀ p∈cy v,∃ f l,ob s.h p.1=some (p.2,f,l)
 gm:∀ k,Gw k->Gm v k
 ni:gb NI s.h
 own:∀ k,Gw k->∀ c f l,ob s.h k=some (c,f,l)->(f=1∧c=40)∨(f=0∧ov v c∧∀ w∈l,WK v Gw w)
theorem UW.view {s:SP}{t:TB}{v:KV}{Gw:Int->Prop} (hU:UW s v Gw) (hv:KAllW s t v){w:Int} (hw:WK v Gw w) (h0:bV s.h w≠0):(aA w=1∧bV s.h w=8)∨(aA w=2∧bV s.h w=9) ∨
  (aA w=3∧∃ c f l,ob s.h (w / 4)=some (c,f,l)∧aA c=3∧bV s.h w=c / 4∧((c=20∨c=24∨c=28)∨(w=72∧c=44∧l=[])∨(c=48∧f=0∧∃ i,∃ hi:i<v.cls.length,w / 4=(v.cls[i]).oop∧l=(v.cls[i]).slots i)∨(Gw (w / 4)∧((f=1∧c=40)∨(f=0∧ov v c∧∀ z∈l,WK v Gw z))))):=by
 obtain ⟨a,b,c0⟩:=gO (r:=s.h) (w:=w);have hk:aA w=0∨aA w=1∨aA w=2∨aA w=3:=by have:=bl w;omega
 rcases hk with hk | hk | hk | h3
 ·exact absurd (c0 hk) h0
 ·exact .inl ⟨hk,a hk⟩
 ·exact .inr (.inl ⟨hk,b hk⟩)
 refine .inr (.inr ⟨h3,?_⟩);have u0:∀ {c f:Int}{l:List Int},ob s.h (w / 4)=some (c,f,l)->aA c=3∧bV s.h w=c / 4:=fun {c f l} hx=>by
  have hc:aA c=3:=by
   obtain ⟨o,ho,rfl,_⟩:=bO.1 hx;exact hv.ks.gc o (aD ho).1
  exact ⟨hc,wT h3 hx hc⟩
 have fin:∀ {c f:Int}{l:List Int},ob s.h (w / 4)=some (c,f,l)->((c=20∨c=24∨c=28)∨(w=72∧c=44∧l=[])∨(c=48∧f=0∧∃ i,∃ hi:i<v.cls.length,w / 4=(v.cls[i]).oop∧l=(v.cls[i]).slots i)∨(Gw (w / 4)∧((f=1∧c=40)∨(f=0∧ov v c∧∀ z∈l,WK v Gw z))))->∃ c f l,ob s.h (w / 4)=some (c,f,l)∧aA c=3∧bV s.h w=c / 4∧((c=20∨c=24∨c=28)∨(w=72∧c=44∧l=[])∨(c=48∧f=0∧∃ i,∃ hi:i<v.cls.length,w / 4=(v.cls[i]).oop∧l=(v.cls[i]).slots i)∨(Gw (w / 4)∧((f=1∧c=40)∨(f=0∧ov v c∧∀ z∈l,WK v Gw z)))):=fun {c f l} hx hc=>⟨c,f,l,hx,(u0 hx).1,(u0 hx).2,hc⟩;obtain ⟨e,_⟩:=bX h3;rcases hw h3 with h | h | h | h | ⟨c,hc,h⟩ | h
 ·obtain ⟨f,l,hx⟩:=hU.base (1,20) (by simp [cy]);exact fin (by rw [h];exact hx) (.inl (.inl rfl))
 ·obtain ⟨f,l,hx⟩:=hU.base (2,24) (by simp [cy]);exact fin (by rw [h];exact hx) (.inl (.inr (.inl rfl)))
 ·obtain ⟨f,l,hx⟩:=hU.base (3,28) (by simp [cy]);exact fin (by rw [h];exact hx) (.inl (.inr (.inr rfl)))
 ·obtain ⟨f,l,hx⟩:=hU.base (18,44) (by simp [cy]);refine fin (by rw [h];exact hx) (.inr (.inl ⟨by omega,rfl,?_⟩));obtain ⟨o,h1,_,h2⟩:=hv.ks.view.empty;obtain ⟨o',g1,_,_,g2⟩:=bO.1 hx;rw [h1] at g1;cases g1;rw [←g2,h2]
 ·obtain ⟨i,hi,rfl⟩:=Vc.1 hc;obtain ⟨f,l,hx⟩:=hU.base ((v.cls[i]).oop,48) (by
   unfold cy;simp only [Us,UM];exact .inr (.inr (.inr (.inr ⟨v.cls[i],hc,rfl⟩))))
  refine fin (by rw [←h];exact hx) (.inr (.inr (.inl ?_)));have Ov:=hv.ks.view ((v.cls[i]).oop,(v.cls[i]).slots i) (by
   unfold KV.roles;simp only [Us];exact .inr (.inr (.inr (.inr (.inr (fw (i:=0) hi (by simp [crole])))))))
  obtain ⟨o,h1,h2,s5⟩:=Ov;obtain ⟨o',g1,_,g2,g3⟩:=bO.1 hx;rw [h1] at g1;cases g1;exact ⟨rfl,by rw [←g2];exact h2,i,hi,h.symm,by rw [←g3];exact s5⟩
 ·cases hx:ob s.h (w / 4) with
  | none =>
   exfalso;apply h0;have e:qQ s.h w=(0,20):=by
    unfold qQ;rw [Uq (by omega),Uq (by omega),Ur h3];unfold RH.clsAt;rw [kI.1 hx];rfl
   unfold bV;rw [e];rfl
  | some y =>
   obtain ⟨c,f,l⟩:=y
   have:=fin hx (.inr (.inr (.inr ⟨h,hU.own _ h c f l hx⟩)));rw [hx] at this;exact this
theorem qi {s:SP}{t:TB}{v:KV}{Gw:Int->Prop} (hU:UW s v Gw) (hv:KAllW s t v) (hp:PairV v){w:Int} (hw:WK v Gw w) (dc:bV s.h w=10):lM s w:=by
 obtain ⟨p4,p5,p6,p7,p8,p9,p10,p11,p12,_⟩:=gE hp;rcases hU.view hv hw (by omega) with ⟨_,e⟩ | ⟨_,e⟩ | ⟨s5,c',f',l',Gt,kv,e,hc⟩
 ·omega
 ·omega
 ·rcases hc with (rfl | rfl | rfl) | ⟨_,rfl,_⟩ | ⟨rfl,_⟩ | ⟨_,⟨rfl,rfl⟩ | ⟨_,hO,_⟩⟩
  ·omega
  ·omega
  ·omega
  ·omega
  ·omega
  ·obtain ⟨z,_,hz,LG⟩:=Em hv s5 Gt;exact ⟨w / 4,z,(bX s5).1,hz,LG⟩
  ·rcases jr hp hO kv with e' | e' | ⟨i,e',hi⟩
   ·omega
   ·omega
   ·rw [←e,dc,p10] at e';cases e';omega
theorem UW.inst {s:SP}{t:TB}{v:KV}{Gw:Int->Prop} (hU:UW s v Gw) (hv:KAllW s t v) (hp:PairV v){w:Int} (hw:WK v Gw w) (h0:bV s.h w≠0) (hi:gi v (bV s.h w)=true):aA w=3∧∃ c l,ob s.h (w / 4)=some (c,0,l)∧aA c=3∧bV s.h w=c / 4∧Gw (w / 4)∧ov v c∧∀ z∈l,WK v Gw z:=by
 obtain ⟨p4,p5,p6,p7,p8,p9,p10,p11,p12,_⟩:=gE hp;unfold gi at hi;rcases hU.view hv hw h0 with ⟨_,e⟩ | ⟨_,e⟩ | ⟨h3,c,f,l,hx,kv,e,hc⟩
 ·rw [e,p8] at hi;exact absurd hi (by decide)
 ·rw [e,p9] at hi;exact absurd hi (by decide)
 ·rcases hc with (rfl | rfl | rfl) | ⟨_,rfl,_⟩ | ⟨rfl,_⟩ | ⟨hG,⟨_,rfl⟩ | ⟨rfl,ho,hl⟩⟩
  ·rw [e,show (20:Int) / 4=5 from rfl,p5] at hi;exact absurd hi (by decide)
  ·rw [e,show (24:Int) / 4=6 from rfl,p6] at hi;exact absurd hi (by decide)
  ·rw [e,show (28:Int) / 4=7 from rfl,p7] at hi;exact absurd hi (by decide)
  ·rw [e,show (44:Int) / 4=11 from rfl,p11] at hi;exact absurd hi (by decide)
  ·rw [e,show (48:Int) / 4=12 from rfl,p12] at hi;exact absurd hi (by decide)
  ·rw [e,show (40:Int) / 4=10 from rfl,p10] at hi;exact absurd hi (by decide)
  ·exact ⟨h3,c,l,hx,kv,e,hG,ho,hl⟩
theorem EN (s:SP){t:TB}{v:KV} (hv:KAllW s t v) (w:Int):∃ n:Nat,(cq s.h w).1=(n:Int)∧n<=8192:=by
 unfold cq;split
 ·unfold RH.size;split
  ·exact ⟨0,rfl,by decide⟩
  ·rename_i o ho;exact ⟨o.slots.length,rfl,(hv.ks.wf.h.objs.good o (aD ho).1).many⟩
 ·exact ⟨0,rfl,by decide⟩
section
variable {H:ag}{b:Nat}{F:aR}{s:SP}{t:TB}{v:KV}{G:Int->Prop}{Q:QT}{r x:Int}{a:Option Addr}{q:Addr}{l c:Nat}{k:Int}{y:ByteArray}{ar:List Int}{n:Int}{p:PF}{n0 rr f:Nat}{g hh:Array Value}{sel:ByteArray}
theorem xl {m:Int} (hK:PK H b F s t){H':ag} (f:Fr [] H H') (K:∀ H' F',PK H' b F' (dK s t r [x] m).2.1 (dK s t r [x] m).2.2->Up F H F' H'->Q (mu (dK s t r [x] m).1) H') :
  ((aV m x).2≠0->Q (.tuple #[ac 0,ac (aV m x).2]) H')∧((aV m x).2=0->Q (.tuple #[ac (dQ s.h r (aV m x).1),ac 0]) H'):=by
 refine ⟨fun h0=>?_,fun h0=>?_⟩
 ·have e:dK s t r [x] m=((0,(aV m x).2),s,t):=by simp [dK,h0]
  rw [e] at K;exact K _ _ (hK.nil f) (Up.of_nil f)
 ·have e:dK s t r [x] m=((dQ s.h r (aV m x).1,0),s,t):=by simp [dK,h0]
  rw [e] at K;exact K _ _ (hK.nil f) (Up.of_nil f)
theorem xe {m z:Int} (hK:PK H b F s t) (K:∀ H' F',PK H' b F' (dK s t r [x,z] m).2.1 (dK s t r [x,z] m).2.2->Up F H F' H'->Q (mu (dK s t r [x,z] m).1) H') :
  ((aV m x).2≠0->∀ H',Fr [] H H'->Q (.tuple #[ac 0,ac (aV m x).2]) H')∧((aV m x).2=0->∀ H',PK H' b F (s.putW r (aV m x).1 z).2 t->Fr F H H'->Q (.tuple #[ac z,ac (s.putW r (aV m x).1 z).1]) H'):=by
 refine ⟨fun h0 H' f=>?_,fun h0 H' hk f=>?_⟩
 ·have e:dK s t r [x,z] m=((0,(aV m x).2),s,t):=by simp [dK,h0]
  rw [e] at K;exact K _ _ (hK.nil f) (Up.of_nil f)
 ·have e:dK s t r [x,z] m=((z,(s.putW r (aV m x).1 z).1),(s.putW r (aV m x).1 z).2,t):=by simp [dK,h0]
  rw [e] at K;exact K _ _ hk ⟨f,fun y hy=>.inl hy⟩
abbrev KR (H:ag) (b:Nat) (F:aR) (s:SP) (t:TB) (v:KV) (r:Int) (ar:List Int) (o:PO) (Q:QT):Prop:=∀ H' F',PK H' b F' (ch s t v r ar o).2.1 (ch s t v r ar o).2.2->Up F H F' H'->Q (mu (ch s t v r ar o).1) H'
theorem Ka (hK:PK H b F s t) (hv:KAllW s t v) (lj:bV s.h r≠0) (hr:Rd 1 H a l (av ar)) (ho:∀ p,a=some p->p.block∉F)
  (K:KR H b F s t v r ar (Bc p) Q) (hm:(sel,n,p)∈rf) (hn:(ar.length:Int)=n) (hq:oE H n0 rr p (.func (.func f) g hh)) :
  ae PP f ((g++#[cv b r a l c])++hh) Q H:=by
 have Ow:=sT hv lj;simp only [rf,Us,Prod.mk.injEq,UO,U5] at hm;rcases hm with ⟨rfl,rfl,rfl⟩ | ⟨rfl,rfl,rfl⟩ | ⟨rfl,rfl,rfl⟩ | ⟨rfl,rfl,rfl⟩ | ⟨rfl,rfl,rfl⟩ | ⟨rfl,rfl,rfl⟩ | ⟨rfl,rfl,rfl⟩ | ⟨rfl,rfl,rfl⟩ | ⟨rfl,rfl,rfl⟩ | ⟨rfl,rfl,rfl⟩ | ⟨rfl,rfl,rfl⟩ | ⟨rfl,rfl,rfl⟩
 ·obtain ⟨q,y,rfl,rfl⟩:=dh hr hn;exact cJ hq (sY hr fun _ f2=>K _ _ (hK.nil f2) (Up.of_nil f2))
 ·obtain ⟨q,y,rfl,rfl⟩:=dh hr hn;exact cJ hq (sY hr fun _ f2=>K _ _ (hK.nil f2) (Up.of_nil f2))
 ·obtain ⟨q,y,rfl,rfl⟩:=dh hr hn;exact cJ hq (uK hr fun _ f2=>K _ _ (hK.nil f2) (Up.of_nil f2))
 ·exact cJ hq (zL hK hv Ow fun _ f2=>K _ _ (hK.nil f2) (Up.of_nil f2))
 ·exact cJ hq (zz fun _ f2=>K _ _ (hK.nil f2) (Up.of_nil f2))
 ·exact cJ hq (yv fun _ f2=>K _ _ (hK.nil f2) (Up.of_nil f2))
 ·exact cJ hq (B2 fun _ f2=>K _ _ (hK.nil f2) (Up.of_nil f2))
 ·obtain ⟨q,y,rfl,rfl⟩:=dh hr hn;exact cJ hq (yr (t:=t) hK hv hr fun _ f2=>K _ _ (hK.nil f2) (Up.of_nil f2))
 ·exact cJ hq (yZ hK hv fun _ f2=>K _ _ (hK.nil f2) (Up.of_nil f2))
 ·obtain ⟨q,y,rfl,rfl⟩:=dh hr hn;exact cJ hq (xJ hK hv hr (ho q rfl) (fun h0 _ f2=>(xl hK f2 K).1 h0) (fun h0 _ _ f2=>(xl hK f2 K).2 h0) fun _ y' ws' hw=>by cases hw)
 ·obtain ⟨q,y,z,rfl,rfl⟩:=sO hr hn;refine cJ hq (xJ hK hv hr (ho q rfl) (fun h0 _ f2=>(xe hK K).1 h0 _ f2) (fun _ hw=>by cases hw) fun h0 y' ws' hw H' lc f2=>?_);cases hw;exact (xe hK K).2 h0 _ lc f2
 ·obtain ⟨m,w6,Mj⟩:=EN s hv r;refine cJ hq (AZ hK hv Ow w6 (by omega) (fun hc H' f2=>?_) fun hc H' lc f2=>?_)
  ·have e:ch s t v r ar .copy=((r,0),s,t):=by
    simp only [ch,w6,Uy];rw [Uq hc]
   have K':KR H b F s t v r ar .copy Q:=K;unfold KR at K';rw [e] at K';exact K' _ _ (hK.nil f2) (Up.of_nil f2)
  ·have e:ch s t v r ar .copy=sG s t (bV s.h r) (cq s.h r).2 (dC s.h r m):=by
    simp only [ch,w6,Uy];rw [Ur hc]
   have K':KR H b F s t v r ar .copy Q:=K;unfold KR at K';rw [e] at K';exact K' _ _ lc ⟨f2,fun y hy=>.inl hy⟩
theorem IY (hK:PK H b F s t) (hr:Rd 1 H a l (av ar))
  (K:KR H b F s t v r ar (Bc p) Q) (hm:(sel,n,p)∈pd) (hn:(ar.length:Int)=n) (hq:oE H n0 rr p (.func (.func f) g hh)) :
  ae PP f ((g++#[cv b r a l c])++hh) Q H:=by
 simp only [pd,Us,Prod.mk.injEq,UO,U5] at hm;rcases hm with ⟨rfl,rfl,rfl⟩ | ⟨rfl,rfl,rfl⟩ | ⟨rfl,rfl,rfl⟩ | ⟨rfl,rfl,rfl⟩
 ·exact cJ hq (E9 fun _ f2=>K _ _ (hK.nil f2) (Up.of_nil f2))
 ·obtain ⟨q,y,rfl,rfl⟩:=dh hr hn;exact cJ hq (Ab (s:=s) (t:=t) (v:=v) hr fun _ f2=>K _ _ (hK.nil f2) (Up.of_nil f2))
 ·obtain ⟨q,y,rfl,rfl⟩:=dh hr hn;exact cJ hq (Ab (s:=s) (t:=t) (v:=v) hr fun _ f2=>K _ _ (hK.nil f2) (Up.of_nil f2))
 ·obtain ⟨q,y,rfl,rfl⟩:=dh hr hn;exact cJ hq (HI (s:=s) (t:=t) (v:=v) hr fun _ f2=>K _ _ (hK.nil f2) (Up.of_nil f2))
theorem Kf (hK:PK H b F s t) (ht:gL H) (hr:Rd 1 H a l (av ar)) (hk:aA r=1)
  (K:KR H b F s t v r ar (Bc p) Q) (hm:(sel,n,p)∈rn) (hn:(ar.length:Int)=n) (hq:oE H n0 rr p (.func (.func f) g hh)) :
  ae PP f ((g++#[cv b r a l c])++hh) Q H:=by
 obtain ⟨er,JA,en⟩:=lW hk;have num:∀ {g0:Nat}{f0:Int->Int->Int × Int},yX g0 f0->n=1->KR H b F s t v r ar (.num f0) Q->oE H n0 rr (.clo 295 g0) (.func (.func f) g hh)->ae PP f ((g++#[cv b r a l c])++hh) Q H:=fun {g0 f0} hg h1 K hq=>by
  obtain ⟨q,y,rfl,rfl⟩:=dh hr (hn.trans h1);simp only [KR,ch,U0] at K;refine zE hq fun m hB=>pu hK hr hB (fun hb _ f2=>?_) fun Sa H2 f2=>?_
  ·rw [Ur hb] at K;exact K _ _ (hK.nil f2) (Up.of_nil f2)
  obtain ⟨_,Q4,eny⟩:=lW Sa;rw [Uq (by simpa using Sa),eny] at K;refine hg _ _ (oQ _) Q4 ⟨_,_,rfl,?_⟩;rw [bK,ah];refine aP (fun h0=>?_) fun h0=>lg ⟨_,_,rfl,?_⟩
  ·rw [Ur h0] at K;exact K _ _ (hK.nil f2) (Up.of_nil f2)
  ·rw [Uq h0] at K;exact K _ _ (hK.nil f2) (Up.of_nil f2)
 have cmp:∀ {g0:Nat}{f0:Int->Int->Bool},(∀ (n m:Int){H:ag}{Q:QT},Q (.bool (f0 n m)) H->ae PP g0 #[ac n,ac m] Q H)->n=1->KR H b F s t v r ar (.cmp f0) Q->oE H n0 rr (.clo 299 g0) (.func (.func f) g hh)->ae PP f ((g++#[cv b r a l c])++hh) Q H:=fun {g0 f0} hg h1 K hq=>by
  obtain ⟨q,y,rfl,rfl⟩:=dh hr (hn.trans h1);simp only [KR,ch,U0] at K;refine zE hq fun m hB=>uu hK hr hB hg (fun hb _ f2=>?_) fun hb _ f2=>?_
  ·rw [Ur hb] at K;exact K _ _ (hK.nil f2) (Up.of_nil f2)
  ·rw [Uq (by simpa using hb),(lW hb).2.2] at K;exact K _ _ (hK.nil f2) (Up.of_nil f2)
 simp only [rn,Us,Prod.mk.injEq,UO,U5] at hm;rcases hm with ⟨rfl,h1,rfl⟩ | ⟨rfl,h1,rfl⟩ | ⟨rfl,h1,rfl⟩ | ⟨rfl,h1,rfl⟩ | ⟨rfl,h1,rfl⟩ | ⟨rfl,h1,rfl⟩ | ⟨rfl,h1,rfl⟩ | ⟨rfl,h1,rfl⟩ | ⟨rfl,h1,rfl⟩ | ⟨rfl,h1,rfl⟩ | ⟨rfl,h1,rfl⟩ | ⟨rfl,h1,rfl⟩ | ⟨rfl,h1,rfl⟩ | ⟨rfl,h1,rfl⟩ | ⟨rfl,h1,rfl⟩ | ⟨rfl,h1,rfl⟩ | ⟨rfl,h1,rfl⟩ | ⟨rfl,h1,rfl⟩ | ⟨rfl,h1,rfl⟩ | ⟨rfl,h1,rfl⟩ | ⟨rfl,h1,rfl⟩ | ⟨rfl,h1,rfl⟩
 ·exact num Au h1 K hq
 ·exact num Ak h1 K hq
 ·exact num Gy h1 K hq
 ·exact num Fm h1 K hq
 ·exact num FL h1 K hq
 ·exact num Gh h1 K hq
 ·exact num Iw h1 K hq
 ·exact num Fe h1 K hq
 ·exact num Be h1 K hq
 ·exact cmp Ib h1 K hq
 ·exact cmp Iv h1 K hq
 ·exact cmp Im h1 K hq
 ·exact cmp Iz h1 K hq
 ·exact num FU h1 K hq
 ·exact num Gr h1 K hq
 ·obtain ⟨q,y,rfl,rfl⟩:=dh hr (hn.trans h1);exact cJ hq (sY hr fun _ f2=>K _ _ (hK.nil f2) (Up.of_nil f2))
 ·obtain ⟨q,y,rfl,rfl⟩:=dh hr (hn.trans h1);exact cJ hq (uK hr fun _ f2=>K _ _ (hK.nil f2) (Up.of_nil f2))
 ·exact cJ hq (zY hK (oQ _) fun _ f2=>K _ _ (hK.nil f2) (Up.of_nil f2))
 ·have Lb:ar=[]:=UX (by omega);subst Lb;exact cJ hq (Gb (s:=s) (t:=t) (v:=v) hK (oQ _) fun _ f2=>K _ _ (hK.nil f2) (Up.of_nil f2))
 ·exact cJ hq (Ed hK fun _ f2=>K _ _ (hK.nil f2) (Up.of_nil f2))
 ·exact cJ hq (E7 hK fun _ f2=>K _ _ (hK.nil f2) (Up.of_nil f2))
 ·refine cJ hq ?_;have K':KR H b F s t v r ar .print Q:=K;simp only [KR,ch,sG,en] at K';rw [er];exact Bg hK ht JA fun H' lc f2=>K' _ _ lc ⟨f2,fun y hy=>.inl hy⟩
theorem Kb (hK:PK H b F s t) (hv:KAllW s t v) (hr:Rd 1 H a l (av ar)) (hk:aA r=2)
  (K:KR H b F s t v r ar (Bc p) Q) (hm:(sel,n,p)∈rD) (hn:(ar.length:Int)=n) (hq:oE H n0 rr p (.func (.func f) g hh)) :
  ae PP f ((g++#[cv b r a l c])++hh) Q H:=by
 obtain ⟨m,er,m0,m1⟩:∃ m,r=4*m+2∧0<=m∧m<4096:=⟨r / 4,by have:=bl r;omega⟩;have hsz:=qP hv m;have et:=nu (s:=s) (t:=t) ⟨m0,m1⟩;subst er;simp only [rD,Us,Prod.mk.injEq,UO,U5] at hm;rcases hm with ⟨rfl,rfl,rfl⟩ | ⟨rfl,rfl,rfl⟩ | ⟨rfl,rfl,rfl⟩
 ·have K':KR H b F s t v (4*m+2) ar .len Q:=K;simp only [KR,ch,et] at K';exact cJ hq (CM hK ⟨m0,m1⟩ fun _ f2=>K' _ _ (hK.nil f2) (Up.of_nil f2))
 ·have K':KR H b F s t v (4*m+2) ar .asStr Q:=K;simp only [KR,ch,sG,et] at K';exact cJ hq (Gp hK ⟨m0,m1⟩ (by omega) fun H' lc f2=>K' _ _ lc ⟨f2,fun y hy=>.inl hy⟩)
 ·obtain ⟨q,y,rfl,rfl⟩:=dh hr hn;exact cJ hq (wE (v:=v) hK ⟨m0,m1⟩ hr fun _ f2=>K _ _ (hK.nil f2) (Up.of_nil f2))
theorem IA (hK:PK H b F s t) (hv:KAllW s t v) (hr:Rd 1 H a l (av ar)) (ho:∀ p,a=some p->p.block∉F) (hs:lM s r) (Q5:∀ w∈ar,bV s.h w=10->lM s w)
  (K:KR H b F s t v r ar (Bc p) Q) (hm:(sel,n,p)∈mU) (hn:(ar.length:Int)=n) (hq:oE H n0 rr p (.func (.func f) g hh)) :
  ae PP f ((g++#[cv b r a l c])++hh) Q H:=by
 obtain ⟨k,y,rfl,hs,hy⟩:=hs;obtain ⟨k1,k2⟩:=iE hv hs;have TT:t.texts.length<=4096:=by have h1:=hv.names.wf.len;have h2:=hv.names.wf.m1;omega
 simp only [mU,Us,Prod.mk.injEq,UO,U5] at hm;rcases hm with ⟨rfl,rfl,rfl⟩ | ⟨rfl,rfl,rfl⟩ | ⟨rfl,rfl,rfl⟩ | ⟨rfl,rfl,rfl⟩ | ⟨rfl,rfl,rfl⟩ | ⟨rfl,rfl,rfl⟩ | ⟨rfl,rfl,rfl⟩ | ⟨rfl,rfl,rfl⟩
 ·exact cJ hq (xf hK fun _ f2=>K _ _ (hK.nil f2) (Up.of_nil f2))
 ·exact cJ hq (tL hK fun _ f2=>K _ _ (hK.nil f2) (Up.of_nil f2))
 ·obtain ⟨q,z,rfl,rfl⟩:=dh hr hn;exact cJ hq (yu hK hr fun _ f2=>K _ _ (hK.nil f2) (Up.of_nil f2))
 ·obtain ⟨q,z,w,rfl,rfl⟩:=sO hr hn;exact cJ hq (wm (v:=v) hK hr (ho q rfl) fun H' lc f2=>by
   have e:(ch s t v (4*k) [z,w] .bytePut).2.2=t:=by
    simp only [ch];split
    ·rfl
    ·split <;> rfl
   have K':KR H b F s t v (4*k) [z,w] .bytePut Q:=K;unfold KR at K';rw [e] at K';exact K' _ _ lc ⟨f2,fun y hy=>.inl hy⟩)
 ·obtain ⟨q,z,rfl,rfl⟩:=dh hr hn;exact cJ hq (xX (v:=v) hK hv hs k1 k2 hy (Q5 z (by simp)) hr fun H' lc f2=>by
   have e:(ch s t v (4*k) [z] .join).2.2=t:=by
    simp only [ch];split
    ·rfl
    ·split <;> rfl
   have K':KR H b F s t v (4*k) [z] .join Q:=K;unfold KR at K';rw [e] at K';exact K' _ _ lc ⟨f2,fun y hy=>.inl hy⟩)
 ·obtain ⟨q,z,rfl,rfl⟩:=dh hr hn;exact cJ hq (A9 (v:=v) hK hv hs k1 k2 hy (Q5 z (by simp)) hr fun _ f2=>K _ _ (hK.nil f2) (Up.of_nil f2))
 ·obtain ⟨q,z,rfl,rfl⟩:=dh hr hn;exact cJ hq (BU (v:=v) hK hv hs k1 k2 hy (Q5 z (by simp)) hr fun _ f2=>K _ _ (hK.nil f2) (Up.of_nil f2))
 ·have Lb:ar=[]:=UX (by omega);subst Lb;exact cJ hq (AD (v:=v) hK hs k1 k2 hy hv.names.wf TT fun H' F' lc u=>K _ _ lc u)
theorem Ix (hK:PK H b F s t) (hr:Rd 1 H a l (av ar)) (ho:∀ p,a=some p->p.block∉F)
  (K:KR H b F s t v r ar (Bc p) Q) (hm:(sel,n,p)∈nl) (hn:(ar.length:Int)=n) (hq:oE H n0 rr p (.func (.func f) g hh)) :
  ae PP f ((g++#[cv b r a l c])++hh) Q H:=by
 simp only [nl,Us,Prod.mk.injEq,UO,U5] at hm;rcases hm with ⟨rfl,rfl,rfl⟩ | ⟨rfl,rfl,rfl⟩ | ⟨rfl,rfl,rfl⟩ | ⟨rfl,rfl,rfl⟩
 ·exact cJ hq (xf hK fun _ f2=>K _ _ (hK.nil f2) (Up.of_nil f2))
 ·exact cJ hq (tL hK fun _ f2=>K _ _ (hK.nil f2) (Up.of_nil f2))
 ·obtain ⟨q,y,rfl,rfl⟩:=dh hr hn;exact cJ hq (E5 hK hr (ho q rfl) (fun h0 _ f2=>(xl hK f2 K).1 h0) (fun h0 _ _ f2=>(xl hK f2 K).2 h0) fun _ y' ws' hw=>by cases hw)
 ·obtain ⟨q,y,z,rfl,rfl⟩:=sO hr hn;refine cJ hq (E5 hK hr (ho q rfl) (fun h0 _ f2=>(xe hK K).1 h0 _ f2) (fun _ hw=>by cases hw) fun h0 y' ws' hw H' lc f2=>?_);cases hw;exact (xe hK K).2 h0 _ lc f2
theorem Hr (hK:PK H b F s t) (hv:KAllW s t v) (hr:Rd 1 H a l (av ar)) (h3:aA r=3)
  (K:KR H b F s t v r ar (Bc p) Q) (hm:(sel,n,p)∈mZ) (hn:(ar.length:Int)=n) (hq:oE H n0 rr p (.func (.func f) g hh)) :
  ae PP f ((g++#[cv b r a l c])++hh) Q H:=by
 obtain ⟨er,o1,o2⟩:=bX h3;simp only [mZ,Us,Prod.mk.injEq,UO,U5] at hm;rcases hm with ⟨rfl,rfl,rfl⟩ | ⟨rfl,rfl,rfl⟩ | ⟨rfl,rfl,rfl⟩ | ⟨rfl,rfl,rfl⟩
 ·have K':KR H b F s t v r ar .fresh Q:=K;refine cJ hq (xZ hK hv er ⟨o1,o2⟩ (fun hb _ f2=>?_) fun j hj hc H' lc f2=>?_)
  ·have e:ch s t v r ar .fresh=((0,170),s,t):=by
    simp only [ch];rcases hb with hb | ⟨i,hb,an,c9⟩
    ·rw [hb]
    ·rw [hb];simp only;rw [Ur ⟨an,c9⟩]
   unfold KR at K';rw [e] at K';exact K' _ _ (hK.nil f2) (Up.of_nil f2)
  ·have e:ch s t v r ar .fresh=kg s t r ((cF v j).length:Int) 0:=by
    simp only [ch];rw [hj];simp only;rw [Uq (fun h=>h.2 (hc h.1))]
   unfold KR at K';rw [e] at K';exact K' _ _ lc ⟨f2,fun y hy=>.inl hy⟩
 ·obtain ⟨q,y,rfl,rfl⟩:=dh hr hn;have K':KR H b F s t v r [y] .sized Q:=K;simp only [KR,ch,U0] at K';refine cJ hq (xW hK er ⟨o1,o2⟩ hr (fun hb _ f2=>?_) (fun nb hz AT _ f2=>?_) fun hb fm hc H' lc f2=>?_)
  ·rw [Ur hb] at K';exact K' _ _ (hK.nil f2) (Up.of_nil f2)
  ·rw [Uq (by rintro (h | h | h | h) <;> omega),Uq (by omega),Ur hz] at K';exact K' _ _ (hK.nil f2) (Up.of_nil f2)
  ·rw [Uq hb] at K';rcases hc with ⟨dc,rfl⟩ | ⟨nb,rfl,hz⟩
   ·rw [Ur dc] at K';exact K' _ _ lc ⟨f2,fun y hy=>.inl hy⟩
   ·rw [Uq (by omega),Uq hz] at K';exact K' _ _ lc ⟨f2,fun y hy=>.inl hy⟩
 ·exact wP hq fun m hB=>vd hK hB fun _ f2=>K _ _ (hK.nil f2) (Up.of_nil f2)
 ·exact wP hq fun m hB=>vd hK hB fun _ f2=>K _ _ (hK.nil f2) (Up.of_nil f2)
end
section
variable {H:ag}{b:Nat}{F:aR}{s:SP}{t:TB}{v:KV}{Gw:Int->Prop}{G:Int->Prop}{Q:QT}{r:Int}{a:Option Addr}{l c:Nat}{k:Int}{ar:List Int}{sel:ByteArray}
theorem sy (hU:UW s v Gw) (hv:KAllW s t v) (hp:PairV v) (hr:WK v Gw r) (h0:bV s.h r≠0) (fz:fc v k (bV s.h r)=true) :
  (k=8->aA r=1)∧(k=9->aA r=2)∧(k=10->lM s r)∧(k=11->bV s.h r=11)∧(k=12->aA r=3)∧k≠14∧k≠17:=by
 obtain ⟨p4,p5,p6,p7,p8,p9,p10,p11,p12,p14,p17⟩:=gE hp;have own:∀ {cc:Int},ov v cc->aA cc=3->∀ {o i},cc / 4=o->eK v o=some i->i<14->i=0∨o=11:=fun {cc} hO h3 {o i} e hi In=>by
  rcases jr hp hO h3 with e' | e' | ⟨j,e',hj⟩
  ·exact .inr (e ▸ e')
  ·left;rw [←e,e'] at hi;rw [p4] at hi;cases hi;rfl
  ·rw [e,hi] at e';cases e';omega
 have view:=hU.view hv hr h0;have cls:∀ {o i},bV s.h r=o->eK v o=some i->i<14->i≠0->(o=8∧aA r=1)∨(o=9∧aA r=2)∨(aA r=3∧(o=5∨o=6∨o=7∨o=10∨o=11∨o=12)):=fun {o i} eo hi In h0=>by
  rcases view with ⟨h1,e⟩ | ⟨h1,e⟩ | ⟨s5,c',f',l',Gt,kv,e,hc⟩
  ·exact .inl ⟨by omega,h1⟩
  ·exact .inr (.inl ⟨by omega,h1⟩)
  ·refine .inr (.inr ⟨s5,?_⟩);rcases hc with (rfl | rfl | rfl) | ⟨_,rfl,_⟩ | ⟨rfl,_⟩ | ⟨_,⟨_,rfl⟩ | ⟨_,hO,_⟩⟩
   ·omega
   ·omega
   ·omega
   ·omega
   ·omega
   ·omega
   ·have:=own hO kv (o:=o) (by omega) hi In;omega
 have no4:∀ {o i},eK v o=some i->i≠0->o≠4:=fun {o i} h h0 e=>by rw [e,p4] at h;cases h;exact h0 rfl
 have at_:∀ {i},eK v k=some i->i<14->i≠0->bV s.h r=k:=fun h1 h2 h3=>nD hp (no4 h1 h3) h1 h2 fz;refine ⟨fun e=>?_,fun e=>?_,fun e=>?_,fun e=>?_,fun e=>?_,fun e=>?_,fun e=>?_⟩
 ·subst e;rcases cls (at_ p8 (by decide) (by decide)) p8 (by decide) (by decide) with h | h | h
  ·exact h.2
  ·omega
  ·omega
 ·subst e;rcases cls (at_ p9 (by decide) (by decide)) p9 (by decide) (by decide) with h | h | h
  ·omega
  ·exact h.2
  ·omega
 ·subst e;exact qi hU hv hp hr (at_ p10 (by decide) (by decide))
 ·subst e;exact at_ p11 (by decide) (by decide)
 ·subst e;rcases cls (at_ p12 (by decide) (by decide)) p12 (by decide) (by decide) with h | h | h
  ·omega
  ·omega
  ·exact h.1
 ·subst e;rcases cls (at_ p14 (by decide) (by decide)) p14 (by decide) (by decide) with h | h | h <;> omega
 ·subst e;rcases cls (at_ p17 (by decide) (by decide)) p17 (by decide) (by decide) with h | h | h <;> omega
theorem oG {n:Int}{p:PF} (he:fv (ko k) sel=some (n,p)) (LH:p≠.nil) (hn:(ar.length:Int)=n) (lj:∀ w∈r :: ar,bV s.h w≠0) (fz:fc v k (bV s.h r)=true) (ll:dz s.h k r=true):jk s t v k sel r ar=ch s t v r ar (Bc p):=by
 unfold jk;rw [Ur ⟨n,p,he,LH,hn,lj⟩,Ur ⟨fz,ll⟩,he]
theorem HR (hK:PK H b F s t) (hv:KAllW s t v) (hU:UW s v Gw) (hp:PairV v) (ht:gL H) (hr:Rd 1 H a l (av ar)) (ho:∀ p,a=some p->p.block∉F) (hZ:∀ w∈r :: ar,bV s.h w≠0->WK v Gw w)
  (K:∀ H' F',PK H' b F' (jk s t v k sel r ar).2.1 (jk s t v k sel r ar).2.2->Up F H F' H'->Q (mu (jk s t v k sel r ar).1) H'):ae PP 30 #[Kj b,ac k,.string sel,ac r,.slice a l c] Q H:=by
 refine HL hK hv hr (fun hn H' f=>?_) (fun h1 h2 H' f=>?_) fun n p he LH hn lj fz ll H1 n0 rr f g hh f1 hq=>?_
 ·have e:jk s t v k sel r ar=((0,1),s,t):=by unfold jk;rw [Uq hn]
  rw [e] at K;exact K _ _ (hK.nil f) (Up.of_nil f)
 ·have e:jk s t v k sel r ar=((0,170),s,t):=by unfold jk;rw [Ur h1,Uq h2]
  rw [e] at K;exact K _ _ (hK.nil f) (Up.of_nil f)
 rw [oG he LH hn lj fz ll] at K;have hmem:=pK he;have e9:=hK.nil f1;have I9:=Rd.nilF hr f1;have TU:=ht.fr f1 (by simp);have O6:=hZ r (by simp) (lj r (by simp));obtain ⟨q8,q9,q10,q11,q12,q14,q17⟩:=sy hU hv hp O6 (lj r (by simp)) fz;have K1:KR H1 b F s t v r ar (Bc p) (fun (v42:Value) (H9:ag)=>∃ n43:Int,∃ n44:Int,v42=.tuple #[ac n43,ac n44]∧Q (.tuple #[ac n43,ac n44]) H9):=fun H' F' hk u=>⟨_,_,rfl,K H' F' hk (A7 f1 u)⟩;unfold ko at hmem;split at hmem
 ·exact Ka e9 hv (lj r (by simp)) I9 ho K1 hmem hn hq
 split at hmem
 ·exact IY e9 I9 K1 hmem hn hq
 split at hmem
 ·rename_i e;exact Kf e9 TU I9 (q8 e) K1 hmem hn hq
 split at hmem
 ·rename_i e;exact Kb e9 hv I9 (q9 e) K1 hmem hn hq
 split at hmem
 ·rename_i e;exact IA e9 hv I9 ho (q10 e) (fun w hw dc=>qi hU hv hp (hZ w (by simp [hw]) (by omega)) dc) K1 hmem hn hq
 split at hmem
 ·exact Ix e9 I9 ho K1 hmem hn hq
 split at hmem
 ·rename_i e;exact Hr e9 hv I9 (q12 e) K1 hmem hn hq
 first
  | cases hmem
  | (rw [Uq q14,Uq q17] at hmem;cases hmem)
end
end
section
attribute [local irreducible] ba bQ bS eX d8 fx fu fo fA lz fj cE cG d7
def gZ (v:KV):Prop:=8∈v.rest∧12∈v.rest
section
variable {s:SP}{t:TB}{v:KV}{Gw:Int->Prop}{r x:Int}{ar:List Int}{n:Int}{sel:ByteArray}
theorem WK.small {w:Int} (h:aA w≠3):WK v Gw w:=fun h3=>absurd h3 h
theorem WK.nil:WK v Gw 4:=fun _=>.inl rfl
theorem WK.tw (z:Bool):WK v Gw (tw z):=by
 cases z
 ·exact fun _=>.inr (.inl rfl)
 ·exact fun _=>.inr (.inr (.inl rfl))
theorem WK.cls {o:Int}{i:Nat} (h:eK v o=some i):WK v Gw (4*o):=fun _=>by
 obtain ⟨hi,e⟩:=dE h;exact .inr (.inr (.inr (.inr (.inl ⟨_,UQ hi,by omega⟩))))
theorem WK.own {o:Int} (h:Gw o):WK v Gw (4*o):=fun _=>.inr (.inr (.inr (.inr (.inr (by rw [show 4*o / 4=o by omega];exact h)))))
theorem WK.mono {G':Int->Prop} (hm:∀ k,Gw k->G' k){w:Int} (h:WK v Gw w):WK v G' w:=fun h3=>by
 rcases h h3 with h | h | h | h | h | h
 ·exact .inl h
 ·exact .inr (.inl h)
 ·exact .inr (.inr (.inl h))
 ·exact .inr (.inr (.inr (.inl h)))
 ·exact .inr (.inr (.inr (.inr (.inl h))))
 ·exact .inr (.inr (.inr (.inr (.inr (hm _ h)))))
theorem UW.breach (hU:UW s v Gw) (hk:KS s v) (hR:gZ v):∀ p∈cy v,Reaches s.h s.roots p.1:=by
 have r19:Reaches s.h s.roots 19:=hk.reach (19,v.rootW) (by simp [KV.roles]);have viaRoot:∀ w:Int,w∈v.rootW->aA w=3->ob s.h (w / 4)≠none->Reaches s.h s.roots (w / 4):=fun w hw JB hn=>by
  obtain ⟨x,JL,qz,My⟩:=hk.view.root;exact pi r19 (bO.2 ⟨x,JL,rfl,qz,My⟩) hw JB hn
 have hn:∀ p∈cy v,ob s.h p.1≠none:=fun p hp=>by
  obtain ⟨f,l,h⟩:=hU.base p hp;rw [h];simp
 intro p hp;have Li:=hn p hp;unfold cy at hp;simp only [Us] at hp;rcases hp with rfl | rfl | rfl | rfl | hp
 ·exact hk.reach (1,[]) (by simp [KV.roles])
 ·exact viaRoot 8 (by unfold KV.rootW;simp [hR.1]) (by decide) Li
 ·exact viaRoot 12 (by unfold KV.rootW;simp [hR.2]) (by decide) Li
 ·exact hk.reach (18,[]) (by simp [KV.roles])
 ·obtain ⟨c,hc,rfl⟩:=UM.1 hp;obtain ⟨i,hi,rfl⟩:=Vc.1 hc;exact hk.reach ((v.cls[i]).oop,(v.cls[i]).slots i) (by
   unfold KV.roles;simp only [Us];exact .inr (.inr (.inr (.inr (.inr (fw (i:=0) hi (by simp [crole])))))))
theorem UW.young (hU:UW s v Gw) (hk:KS s v) (hR:gZ v){o:Int} (ho:¬ Reaches s.h s.roots o):Gm v o:=by
 refine ⟨fun p hp e=>ho (e ▸ hk.reach p hp),fun e=>ho ?_,fun e=>ho ?_⟩
 ·rw [e];exact hU.breach hk hR (2,24) (by simp [cy])
 ·rw [e];exact hU.breach hk hR (3,28) (by simp [cy])
theorem GJ (hp:PairV v){c f:Int} (cr:(f=1∧c=40)∨(f=0∧ov v c)):NI c:=by
 obtain ⟨p4,p5,p6,p7,p8,p9,p10,p11,p12,_⟩:=gE hp;rcases cr with ⟨_,rfl⟩ | ⟨_,rfl | ⟨o,i,rfl,h1,h2⟩⟩
 ·exact ⟨by decide,by decide⟩
 ·exact ⟨by decide,by decide⟩
 ·refine ⟨fun e=>?_,fun e=>?_⟩
  ·have:o=8:=by omega
   rw [this,p8] at h1;cases h1;omega
  ·have:o=9:=by omega
   rw [this,p9] at h1;cases h1;omega
theorem UW.alloc (hU:UW s v Gw) (hv:KAllW s t v) (hp:PairV v) (hR:gZ v){c:Int} (hc:aA c=3) (n:Int){f:Int} (cr:(f=1∧c=40)∨(f=0∧ov v c)) :
  KAllW (s.alloc c n f).2 t v∧(s.alloc c n f).2.stack=s.stack∧∃ G':Int->Prop,(∀ k,Gw k->G' k)∧UW (s.alloc c n f).2 v G'∧((s.alloc c n f).1.2=0->∃ o,(s.alloc c n f).1.1=4*o∧1<=o∧o<=65536∧G' o∧ob (s.alloc c n f).2.h o=some (c,f,List.replicate n.toNat (if f=1 then 0 else 4))):=by
 obtain ⟨A,TV⟩:=jC hv hc n f;have base:∀ p∈cy v,∃ f' l,ob (s.alloc c n f).2.h p.1=some (p.2,f',l):=fun p hp=>by
  obtain ⟨f',l,h⟩:=hU.base p hp;exact ⟨f',l,A.keep _ (hU.breach hv.ks hR p hp) _ h⟩
 have Ox:=mW hU.ni (GJ hp cr) n f;refine ⟨TV,A.stk,?_⟩;by_cases h0:(s.alloc c n f).1.2=0
 ·obtain ⟨o,e,o1,o2,ho,MB,Oy⟩:=A.good h0;refine ⟨fun k=>Gw k∨k=o,fun k h=>.inl h,⟨base,fun k h=>?_,Ox,fun k hG c' f' l h=>?_⟩,fun _=>⟨o,e,o1,o2,.inr rfl,ho⟩⟩
  ·rcases h with h | rfl
   ·exact hU.gm k h
   ·exact hU.young hv.ks hR MB
  ·by_cases sd:k=o
   ·subst sd;rw [ho] at h;simp only [Option.some.injEq,Prod.mk.injEq] at h;obtain ⟨rfl,rfl,rfl⟩:=h;rcases cr with ⟨a,b⟩ | ⟨a,b⟩
    ·exact .inl ⟨a,b⟩
    ·refine .inr ⟨a,b,fun w hw=>?_⟩;rw [Uq (by omega)] at hw;rw [(List.mem_replicate.1 hw).2];exact WK.nil
   ·exact (hU.own k (hG.resolve_right sd) c' f' l (Oy k _ sd h)).imp id fun ⟨a,b,g⟩=>⟨a,b,fun w hw=>(g w hw).mono fun k h=>.inl h⟩
 ·exact ⟨Gw,fun _ h=>h,⟨base,hU.gm,Ox,fun k hG c' f' l h=>hU.own k hG c' f' l (A.bad h0 k _ h)⟩,fun h=>absurd h h0⟩
theorem UW.put (hU:UW s v Gw) (hv:KAllW s t v){k c f i w:Int}{l:List Int} (hG:Gw k) (hx:ob s.h k=some (c,f,l)) (k1:1<=k) (k2:k<=65536) (hi:0<=i∧i<l.length) (h1:f=1->0<=w∧w<=255) (h0:f=0->cP w∧WK v Gw w) :
  ∃ s2,s.putW (4*k) i w=(0,s2)∧UW s2 v Gw∧KAllW s2 t v∧s2.stack=s.stack∧ob s2.h k=some (c,f,l.set i.toNat w)∧∀ j,j≠k->ob s2.h j=ob s.h j:=by
 have M5:=hU.own k hG c f l hx;have hm:dY f w:=by
  unfold dY;rcases M5 with ⟨a,_⟩ | ⟨a,_⟩
  ·rw [Ur a];exact h1 a
  ·rw [Uq (by omega)];exact (h0 a).1
 obtain ⟨e1,e2⟩:=jw hx hi hm;have b9:=jo (r:=s.h) k i w;refine ⟨{ s with h:=(s.h.put k i w).2 },?_,⟨fun p hp=>?_,hU.gm,vl hU.ni k i w,fun j hj c' f' l' h=>?_⟩,⟨hv.ks.putN (hU.gm k hG).1 _ _,hv.names,hv.top⟩,rfl,e2,b9⟩
 ·unfold SP.putW;rw [dP k1 k2,e1]
 ·obtain ⟨f',l',h⟩:=hU.base p hp;by_cases Mq:p.1=k
  ·rw [Mq,hx] at h;simp only [Option.some.injEq,Prod.mk.injEq] at h;rw [Mq,←h.1];exact ⟨_,_,e2⟩
  ·exact ⟨f',l',(b9 _ Mq).trans h⟩
 ·by_cases JQ:j=k
  ·rw [JQ] at h;rw [show ob (s.h.put k i w).2 k=some (c,f,l.set i.toNat w) from e2] at h;simp only [Option.some.injEq,Prod.mk.injEq] at h;obtain ⟨rfl,rfl,rfl⟩:=h;refine M5.imp id fun ⟨b1,b2,b3⟩=>⟨b1,b2,fun z hz=>?_⟩;rcases List.mem_or_eq_of_mem_set hz with hz | rfl
   ·exact b3 z hz
   ·exact (h0 b1).2
  ·rw [show ob (s.h.put k i w).2 j=ob s.h j from b9 j JQ] at h;exact hU.own j hj c' f' l' h
theorem UW.lay {k c f:Int} (k1:1<=k) (k2:k<=65536) (hG:Gw k):∀ (xs done rest:List Int) (s:SP),UW s v Gw->KAllW s t v->ob s.h k=some (c,f,done++rest)->rest.length=xs.length->(f=1->∀ w∈xs,0<=w∧w<=255)->(f=0->∀ w∈xs,cP w∧WK v Gw w) ->
  ∃ s2,s.layE (4*k) (done.length:Int) xs=(0,s2)∧UW s2 v Gw∧KAllW s2 t v∧s2.stack=s.stack∧ob s2.h k=some (c,f,done++xs)∧∀ j,j≠k->ob s2.h j=ob s.h j:=by
 intro xs
 induction xs with
 | nil =>
  intro done rest s hU hv hx hl _ _
  have:rest=[]:=UX hl;subst this;exact ⟨s,rfl,hU,hv,rfl,hx,fun _ _=>rfl⟩
 | cons x xs ih =>
  intro done rest s hU hv hx hl h1 h0;cases rest with
  | nil=>simp at hl
  | cons y rest =>
   obtain ⟨s2,e,TW,TX,ci,qz,b9⟩:=hU.put hv hG hx k1 k2 (i:=(done.length:Int)) (w:=x) (by simp;omega) (fun h=>h1 h x (by simp)) fun h=>h0 h x (by simp);have eset:(done++y :: rest).set (done.length:Int).toNat x=(done++[x])++rest:=by simp
   rw [eset] at qz;obtain ⟨s3,g1,g2,g3,g4,g5,g6⟩:=ih (done++[x]) rest s2 TW TX qz (by simpa using hl) (fun h w hw=>h1 h w (by simp [hw])) fun h w hw=>h0 h w (by simp [hw]);refine ⟨s3,?_,g2,g3,g4.trans ci,by simpa using g5,fun j hj=>(g6 j hj).trans (b9 j hj)⟩;unfold SP.layE;rw [e];simp only;rw [Uq (by simp),←g1];simp
theorem UW.make (hU:UW s v Gw) (hv:KAllW s t v) (hp:PairV v) (hR:gZ v){c f:Int} (hc:1<=c∧c<=65536){xs:List Int} (cr:(f=1∧c=10∧∀ w∈xs,0<=w∧w<=255)∨(f=0∧ov v (4*c)∧∀ w∈xs,cP w∧WK v Gw w)) :
  KAllW (s.makeP c f xs).2 t v∧(s.makeP c f xs).2.stack=s.stack∧∃ G':Int->Prop,(∀ k,Gw k->G' k)∧UW (s.makeP c f xs).2 v G'∧((s.makeP c f xs).1.2=0->WK v G' (s.makeP c f xs).1.1):=by
 obtain ⟨a1,a2,G',hm,a3,a4⟩:=hU.alloc hv hp hR (cW hc.1 hc.2) (xs.length:Int) (f:=f) (by
  rcases cr with ⟨h1,h2,_⟩ | ⟨h1,h2,_⟩
  ·exact .inl ⟨h1,by omega⟩
  ·exact .inr ⟨h1,h2⟩)
 unfold SP.makeP;generalize s.alloc (4*c) (xs.length:Int) f=Z at a1 a2 a3 a4 ⊢;split
 ·rename_i he;exact ⟨a1,a2,G',hm,a3,fun h=>absurd h he⟩
 ·rename_i he;obtain ⟨o,e,o1,o2,hG,ho⟩:=a4 (Uv he);obtain ⟨s2,g1,g2,g3,g4,_,_⟩:=UW.lay (t:=t) o1 o2 hG xs [] (List.replicate (xs.length:Int).toNat (if f=1 then 0 else 4)) Z.2 a3 a1 (by simpa using ho) (by simp) (fun h=>by
   rcases cr with ⟨_,_,h3⟩ | ⟨h1,_⟩
   ·exact h3
   ·omega) (fun h=>by
   rcases cr with ⟨h1,_⟩ | ⟨_,_,h3⟩
   ·omega
   ·exact fun w hw=>⟨(h3 w hw).1,(h3 w hw).2.mono hm⟩)
  have e0:((List.nil (α:=Int)).length:Int)=0:=rfl;rw [e0] at g1;rw [e,g1];refine ⟨g3,g4.trans a2,G',hm,g2,fun _=>?_⟩;show WK v G' (if (0:Int)=0 then 4*o else 0);rw [Ur rfl];exact WK.own hG
structure PL (s:SP) (t:TB) (v:KV) (Gw:Int->Prop) (R:PR):Prop where
 all:KAllW R.2.1 R.2.2 v
 stk:R.2.1.stack=s.stack
 uw:∃ G':Int->Prop,(∀ k,Gw k->G' k)∧UW R.2.1 v G'∧(R.1.2=0->WK v G' R.1.1)
theorem PL.look (hU:UW s v Gw) (hv:KAllW s t v){res:Int × Int} (h:res.2=0->WK v Gw res.1):PL s t v Gw (res,s,t):=⟨hv,rfl,Gw,fun _ h=>h,hU,h⟩
theorem PL.int (hU:UW s v Gw) (hv:KAllW s t v) (m:Int):PL s t v Gw (fe m,s,t):=by
 refine .look hU hv fun _=>WK.small ?_;unfold fe;split
 ·show aA (2*m+1)≠3;unfold aA;rw [Ur (by omega)];decide
 ·show aA 0≠3;decide
theorem PL.made (hU:UW s v Gw) (hv:KAllW s t v) (hp:PairV v) (hR:gZ v){c f:Int} (hc:1<=c∧c<=65536){xs:List Int} (cr:(f=1∧c=10∧∀ w∈xs,0<=w∧w<=255)∨(f=0∧ov v (4*c)∧∀ w∈xs,cP w∧WK v Gw w)):PL s t v Gw (sG s t c f xs):=by
 obtain ⟨a1,a2,a3⟩:=hU.make hv hp hR hc cr;exact ⟨a1,a2,a3⟩
theorem PL.fresh (hU:UW s v Gw) (hv:KAllW s t v) (hp:PairV v) (hR:gZ v) (hc:aA r=3){m f:Int} (cr:(f=1∧r=40)∨(f=0∧ov v r)):PL s t v Gw (kg s t r m f):=by
 obtain ⟨a1,a2,G',hm,a3,a4⟩:=hU.alloc hv hp hR hc m cr;refine ⟨a1,a2,G',hm,a3,fun h=>?_⟩;have h0:(s.alloc r m f).1.2=0:=h;obtain ⟨o,e,o1,o2,hG,_⟩:=a4 h0;show WK v G' (vQ s r m f);unfold vQ;rw [Ur h0,e];exact WK.own hG
theorem PL.elem (hU:UW s v Gw) (hv:KAllW s t v) (Lb:∀ w∈ar,cP w∧WK v Gw w){m:Int} (h:0<m->aA r=3∧∃ c l,ob s.h (r / 4)=some (c,0,l)∧(l.length:Int)=m∧Gw (r / 4)∧∀ w∈l,WK v Gw w):PL s t v Gw (dK s t r ar m):=by
 unfold dK;split
 ·rename_i h0;exact .look hU hv fun h=>absurd h h0
 rename_i h0;obtain ⟨i0,i1⟩:=i8 (Uv h0);obtain ⟨h3,c,l,hx,hm,hG,hl⟩:=h (by omega);obtain ⟨er,r1,r2⟩:=bX h3;split
 ·refine .look hU hv fun _=>?_;show WK v Gw (dQ s.h r (aV m (ar.getD 0 0)).1);rw [gF h3 hx i0 (by omega)];exact hl _ (pR i0 (by omega))
 ·rename_i h2;have hy:cP (ar.getD 1 0)∧WK v Gw (ar.getD 1 0):=by
   have hi:1<ar.length:=by omega
   rw [UD,UF hi];exact Lb _ (UQ hi)
  obtain ⟨s2,g1,g2,g3,g4,_⟩:=hU.put hv hG hx r1 r2 (i:=(aV m (ar.getD 0 0)).1) (w:=ar.getD 1 0) ⟨i0,by omega⟩ (fun h=>by cases h) (fun _=>hy);rw [←er] at g1;rw [g1];exact ⟨g3,g4,Gw,fun _ h=>h,g2,fun _=>hy.2⟩
def IF (s:SP) (v:KV) (r:Int):PO->Prop
 | .at=>bV s.h r=11
 | .byteAt | .bytePut | .join | .eq | .less | .asSym=>lM s r
 | .fresh | .sized=>bV s.h r=12
 | .slot i=>bV s.h r=12∧(i=0∨i=1)
 | _=>True
theorem GW (hU:UW s v Gw) (hv:KAllW s t v) (hp:PairV v) (hR:gZ v) (hr:WK v Gw r) (h0:bV s.h r≠0) (Lb:∀ w∈ar,cP w∧WK v Gw w):∀ {o:PO},IF s v r o->PL s t v Gw (ch s t v r ar o):=by
 obtain ⟨p4,p5,p6,p7,p8,p9,p10,p11,p12,_⟩:=gE hp;have tw_:∀ z:Bool,PL s t v Gw ((tw z,0),s,t):=fun z=>.look hU hv fun _=>WK.tw z;have bad:∀ e:Int,e≠0->PL s t v Gw ((0,e),s,t):=fun e he=>.look hU hv fun h=>absurd h he;have lj:=sT hv h0;have y1:∀ i,i<ar.length->cP (ar.getD i 0)∧WK v Gw (ar.getD i 0):=fun i hi=>by
  rw [UD,UF hi];exact Lb _ (UQ hi)
 have cls12:bV s.h r=12->aA r=3∧∃ i,∃ hi:i<v.cls.length,r / 4=(v.cls[i]).oop∧ob s.h (r / 4)=some (48,0,(v.cls[i]).slots i):=fun k9=>by
  rcases hU.view hv hr h0 with ⟨_,e⟩ | ⟨_,e⟩ | ⟨h3,c,f,l,hx,kv,e,hc⟩
  ·omega
  ·omega
  ·refine ⟨h3,?_⟩;rcases hc with (rfl | rfl | rfl) | ⟨_,rfl,_⟩ | ⟨rfl,rfl,i,hi,e1,rfl⟩ | ⟨_,⟨_,rfl⟩ | ⟨_,hO,_⟩⟩
   ·omega
   ·omega
   ·omega
   ·omega
   ·exact ⟨i,hi,e1,hx⟩
   ·omega
   ·rcases jr hp hO kv with e' | e' | ⟨j,e',hj⟩
    ·omega
    ·omega
    ·rw [←e,k9,p12] at e';cases e';omega
 intro o ho;cases o with
 | same=>exact tw_ _
 | other=>exact tw_ _
 | cls =>
  refine .look hU hv fun _=>?_;rcases hU.view hv hr h0 with ⟨_,e⟩ | ⟨_,e⟩ | ⟨h3,c,f,l,hx,kv,e,hc⟩
  ·rw [e];exact WK.cls p8
  ·rw [e];exact WK.cls p9
  ·rw [e];rcases hc with (rfl | rfl | rfl) | ⟨_,rfl,_⟩ | ⟨rfl,_⟩ | ⟨_,⟨_,rfl⟩ | ⟨_,hO,_⟩⟩
   ·exact WK.cls p5
   ·exact WK.cls p6
   ·exact WK.cls p7
   ·exact WK.cls p11
   ·exact WK.cls p12
   ·exact WK.cls p10
   ·rcases jr hp hO kv with e' | e' | ⟨j,e',hj⟩
    ·rw [e'];exact WK.cls p11
    ·rw [e'];exact WK.cls p4
    ·exact WK.cls e'
 | isNil=>exact tw_ _
 | notNil=>exact tw_ _
 | self=>exact .look hU hv fun _=>hr
 | isKind =>
  simp only [ch];split
  ·exact bad _ (by decide)
  ·exact tw_ _
 | ivSize=>exact .int hU hv _
 | ivAt =>
  refine .elem hU hv Lb fun hm=>?_;unfold cU at hm ⊢;cases hi:gi v (bV s.h r) with
  | false=>rw [hi] at hm;simp at hm
  | true =>
   obtain ⟨h3,c,l,hx,_,_,hG,_,hl⟩:=hU.inst hv hp hr h0 hi;refine ⟨h3,c,l,hx,?_,hG,hl⟩;simp only [if_true];rw [eD h3 hx]
 | copy =>
  simp only [ch];split
  ·rename_i hc;rcases hU.view hv hr h0 with ⟨h1,e⟩ | ⟨h1,e⟩ | ⟨h3,c,f,l,hx,kv,e,ON⟩
   ·rcases hc with h | h | h
    ·omega
    ·omega
    ·have:=(hU.inst hv hp hr h0 h).1;omega
   ·rcases hc with h | h | h
    ·omega
    ·omega
    ·have:=(hU.inst hv hp hr h0 h).1;omega
   ·rw [eD h3 hx] at hc ⊢;simp only [Uy] at hc ⊢;rw [ki h3 hx];refine .made hU hv hp hR lj ?_;have no:∀ {o:Int}{i:Nat},bV s.h r=o->eK v o=some i->i<14->i≠0->o≠10->(o=11->l.length=0)->False:=fun {o i} eo KQ In b9 dc nb=>by
     rcases hc with h | h | h
     ·omega
     ·exact h.2 (nb (by omega))
     ·unfold gi at h;rw [eo,KQ] at h
      have:o≠4:=fun e4=>by rw [e4,p4] at KQ;cases KQ;exact b9 rfl
      simp only [this,decide_false,Bool.false_or,decide_eq_true_eq] at h;omega
    rcases ON with (rfl | rfl | rfl) | ⟨_,rfl,JV⟩ | ⟨rfl,_⟩ | ⟨_,⟨rfl,rfl⟩ | ⟨rfl,hO,hl⟩⟩
    ·exact (no e p5 (by decide) (by decide) (by decide) (fun h=>absurd h (by decide))).elim
    ·exact (no e p6 (by decide) (by decide) (by decide) (fun h=>absurd h (by decide))).elim
    ·exact (no e p7 (by decide) (by decide) (by decide) (fun h=>absurd h (by decide))).elim
    ·exact (no e p11 (by decide) (by decide) (by decide) (fun _=>by rw [JV];rfl)).elim
    ·exact (no e p12 (by decide) (by decide) (by decide) (fun h=>absurd h (by decide))).elim
    ·exact .inl ⟨rfl,e,(nH hv hx).1⟩
    ·refine .inr ⟨rfl,?_,fun w hw=>⟨?_,hl w hw⟩⟩
     ·rw [e,←(bX kv).1];exact hO
     ·obtain ⟨o',eF,_,ca,rfl⟩:=bO.1 hx
      have:=(hv.ks.wf.h.objs.good o' (aD eF).1).may w hw;unfold dY at this;rw [Uq (by omega)] at this;exact this
  ·exact .look hU hv fun _=>hr
 | not=>exact tw_ _
 | and =>
  simp only [ch];split
  ·exact tw_ _
  ·split
   ·exact tw_ false
   ·exact bad _ (by decide)
 | or =>
  simp only [ch];split
  ·exact tw_ true
  ·split
   ·exact tw_ _
   ·exact bad _ (by decide)
 | num f =>
  simp only [ch];split
  ·exact bad _ (by decide)
  ·split
   ·rename_i h;exact bad _ h
   ·exact .int hU hv _
 | cmp f =>
  simp only [ch];split
  ·exact bad _ (by decide)
  ·exact tw_ _
 | neg=>exact .int hU hv _
 | abs =>
  simp only [ch];split
  ·exact .int hU hv _
  ·exact .look hU hv fun _=>hr
 | even=>exact tw_ _
 | odd=>exact tw_ _
 | print=>exact .made hU hv hp hR (by decide) (.inl ⟨rfl,rfl,fB _⟩)
 | len=>exact .int hU hv _
 | asStr=>exact .made hU hv hp hR (by decide) (.inl ⟨rfl,rfl,fB _⟩)
 | symLess =>
  simp only [ch];split
  ·exact bad _ (by decide)
  ·exact tw_ _
 | size=>exact .int hU hv _
 | empty=>exact tw_ _
 | byteAt =>
  simp only [ch];unfold oa;split
  ·rename_i h;exact bad _ h
  ·exact .int hU hv _
 | bytePut =>
  obtain ⟨k,y,rfl,hs,hy⟩:=(show lM s r from ho);obtain ⟨k1,k2⟩:=iE hv hs;simp only [ch];split
  ·exact bad _ (by decide)
  rename_i hz;simp only [Vt] at hz;split
  ·rename_i h;exact bad _ h
  rename_i h2;obtain ⟨i0,i1⟩:=i8 (Uv h2);have h3:aA (4*k)=3:=cW k1 k2;have e4:4*k / 4=k:=by omega
  obtain ⟨o',eF,ca,OY,t6⟩:=hs;have hx:ob s.h (4*k / 4)=some (40,1,bL y):=by rw [e4];exact bO.2 ⟨o',eF,OY,ca,t6⟩
  have hG:Gw k:=by
   rcases hU.view hv hr h0 with ⟨h1,_⟩ | ⟨h1,_⟩ | ⟨_,c,f,l,qz,_,_,hc⟩
   ·omega
   ·omega
   ·rw [hx] at qz;simp only [Option.some.injEq,Prod.mk.injEq] at qz;rcases hc with hc | ⟨_,hc,_⟩ | ⟨hc,_⟩ | ⟨hG,_⟩
    ·omega
    ·omega
    ·omega
    ·rw [e4] at hG;exact hG
  rw [e4] at hx;have e1:=eD h3 (by rw [e4];exact hx);rw [e1] at i1;obtain ⟨s2,g1,g2,g3,g4,_⟩:=hU.put hv hG hx k1 k2 (i:=(aV (cq s.h (4*k)).1 (ar.getD 0 0)).1) (w:=ar.getD 1 0 / 2) ⟨i0,by rw [e1];exact i1⟩ (fun _=>⟨by omega,by omega⟩) (fun h=>by cases h);rw [g1];refine ⟨g3,g4,Gw,fun _ h=>h,g2,fun _=>WK.small ?_⟩
  have:=Uv hz.2.1;show aA (ar.getD 1 0)≠3;omega
 | join =>
  simp only [ch];split
  ·exact bad _ (by decide)
  ·split
   ·exact bad _ (by decide)
   ·exact .made hU hv hp hR (by decide) (.inl ⟨rfl,rfl,fB _⟩)
 | eq=>exact tw_ _
 | less =>
  simp only [ch];split
  ·exact bad _ (by decide)
  ·exact tw_ _
 | asSym =>
  simp only [ch];split
  ·exact bad _ (by decide)
  ·have w1:=fO hv.names.wf (bG s.h t r);have p1:=(tj t (bG s.h t r)).2;refine ⟨⟨hv.ks,hv.names.grow w1 p1,hv.top⟩,rfl,Gw,fun _ h=>h,hU,fun h=>?_⟩;simp only at h ⊢;split at h
   ·rename_i h';exact absurd h h'
   ·rename_i h';rw [Uq h'];obtain ⟨m,e1,e2,_⟩:=lC (bG s.h t r) (Uv h');refine WK.small ?_;have OX:=(V1.1 e2).1;have It:=(lT t (bG s.h t r)).1;have Mj:=w1.len;have Mi:=w1.m1;rw [e1];show aA (4*(m:Int)+2)≠3;unfold aA;rw [Uq (by omega),Ur (by omega)];decide
 | «at» =>
  have nb:bV s.h r=11:=ho;refine .elem hU hv Lb fun hm=>?_;rcases hU.view hv hr h0 with ⟨_,e⟩ | ⟨_,e⟩ | ⟨h3,c,f,l,hx,kv,e,hc⟩
  ·omega
  ·omega
  ·rw [eD h3 hx] at hm ⊢;rcases hc with (rfl | rfl | rfl) | ⟨_,rfl,JV⟩ | ⟨rfl,_⟩ | ⟨hG,⟨_,rfl⟩ | ⟨rfl,_,hl⟩⟩
   ·omega
   ·omega
   ·omega
   ·rw [JV] at hm;simp at hm
   ·omega
   ·omega
   ·exact ⟨h3,c,l,hx,rfl,hG,hl⟩
 | fresh =>
  obtain ⟨h3,i,hi,ei,hx⟩:=cls12 ho;simp only [ch];split
  ·exact bad _ (by decide)
  ·rename_i j hj;split
   ·exact bad _ (by decide)
   ·rename_i hc;have er:=(bX h3).1;refine .fresh hU hv hp hR h3 (.inr ⟨rfl,.inr ⟨r / 4,j,er,hj,?_⟩⟩);omega
 | sized =>
  obtain ⟨h3,i,hi,ei,hx⟩:=cls12 ho;have er:=(bX h3).1;simp only [ch];split
  ·exact bad _ (by decide)
  ·rename_i hz;split
   ·rename_i dc;exact .fresh hU hv hp hR h3 (.inl ⟨rfl,by omega⟩)
   ·rename_i dc;split
    ·exact .look hU hv fun _=>fun _=>.inr (.inr (.inr (.inl rfl)))
    ·have nb:r / 4=11:=Uv fun e=>hz (.inl ⟨dc,e⟩);exact .fresh hU hv hp hR h3 (.inr ⟨rfl,.inl (by omega)⟩)
 | slot i =>
  obtain ⟨k9,MQ⟩:=(show bV s.h r=12∧(i=0∨i=1) from ho);obtain ⟨h3,j,hj,ej,hx⟩:=cls12 k9;refine .look hU hv fun _=>?_;show WK v Gw (dQ s.h r i);rcases MQ with rfl | rfl
  ·rw [gF h3 hx (by decide) (by simp [CV.slots])];have Q2:=hv.names.name _ (UQ hj);have htl1:=hv.names.wf.len;have htl2:=hv.names.wf.m1;refine WK.small ?_;show aA (4*((v.cls[j]).name:Int)+2)≠3;unfold aA;rw [Uq (by omega),Ur (by omega)];decide
  ·rw [gF h3 hx (by decide) (by simp [CV.slots])];show WK v Gw (4*(v.cls[j]).up);by_cases TY:j=0
   ·subst TY;rw [(hv.ks.shape.up0 hj).1];exact WK.nil
   ·obtain ⟨m,hm,_,eup⟩:=hv.ks.shape.ups j hj (by omega);have Lc:=hv.ks.idx hm;rw [eup] at Lc;exact WK.cls Lc
end
end
section
attribute [local irreducible] ba bQ bS
theorem DO {v:KV}{t:TB}{name sup:ByteArray}{own:List ByteArray} (h:(jL v t name sup own).2=0):∃ j,eK v (fE v t sup).1=some j∧(j=0∨14<=j):=by
 unfold jL at h;split at h
 ·cases h
 split at h
 ·cases h
 split at h
 ·rename_i h3;exact absurd h h3
 split at h
 ·cases h
 ·rename_i j hj;split at h
  ·cases h
  ·rename_i hn;exact ⟨j,hj,by omega⟩
theorem eJ {v:KV}{o:Int}{i:Nat} (h:eK v o=some i) (c:CV) (d:Int):eK (v.addC c d) o=some i:=by
 unfold eK at h ⊢;show (v.cls++[c]).findIdx? _=some i;rw [List.findIdx?_append,h];rfl
structure BaseV (s:SP) (t:TB) (v:KV):Prop where
 all:KAll s t v
 bo:BO s.h (cy v)
 rest:gZ v
 pair:PairV v
 kern:∀ o,4<=o->o<=17->∃ i,eK v o=some i
 ni:gb NI s.h
theorem BaseV.uw {s:SP}{t:TB}{v:KV} (B:BaseV s t v):UW s v (fun _=>False):=⟨B.bo,fun _ h=>h.elim,B.ni,fun _ h=>h.elim⟩
section
attribute [local semireducible] ba bQ bS
theorem zA (w o m b t:Int):((bQ ⟨w,o,m,b,t,bS⟩).objs.all fun x=>decide (x.cls≠32∧x.cls≠36))=true:=by kernel_rfl
end
theorem Dd {words oops:Int} (h:((cD words oops).allocAll aQ).1=0):gb NI (ba words oops):=by
 have e:=lX h;have h1:=zA words oops 0 20 0;rw [←e] at h1;intro o ho;have h2:=VA.1 h1 o ho;exact (of_decide_eq_true h2:o.cls≠32∧o.cls≠36)
theorem Ad {P:Int->Prop}{s:SP} (h:gb P s.h) (ws:List Int):gb P (s.keepW ws).2.h:=by
 rw [wQ];exact h
theorem AF {P:Int->Prop}:∀ (ws:List Int){r:RH},gb P r->∀ j i,gb P (r.lay j i ws)
 | [],_,h,_,_=>h
 | w :: ws,_,h,j,i=>AF ws (vl h j i w) j (i+1)
theorem oT {P:Int->Prop}{s:SP} (h:gb P s.h){c:Int} (hc:P (4*c)) (ws:List Int):gb P (s.make c ws).2.h:=by
 unfold SP.make;split
 ·exact mW h hc _ _
 ·exact Ad (AF ws (mW h hc _ _) _ _) _
theorem jd {s:SP} (h:gb NI s.h) (ws:List Int):gb NI (s.array ws).2.h:=by
 unfold SP.array;split
 ·exact h
 ·exact oT h ⟨by decide,by decide⟩ ws
theorem sV {s:SP} (h:gb NI s.h) (t:TB) (cw:List Int) (name:ByteArray) (up:Int) (own:List ByteArray):gb NI (dR s t cw name up own).2.1.h:=by
 unfold dR;split
 ·exact h
 split
 ·exact h
 unfold gY;split
 ·exact jd h _
 unfold fI;split
 ·exact oT (jd h _) ⟨by decide,by decide⟩ _
 unfold dL;split
 ·exact jd (oT (jd h _) ⟨by decide,by decide⟩ _) _
 ·exact vl (jd (oT (jd h _) ⟨by decide,by decide⟩ _) _) _ _ _
theorem wH {s:SP} (h:gb NI s.h) (t:TB) (cw:List Int) (name:ByteArray) (up:Int) (own:List ByteArray):gb NI (bM s t cw name up own).2.1.h:=by
 unfold bM lP;split
 ·show gb NI (SP.drop _ _).2.h;rw [vC];exact sV h t cw name up own
 ·show gb NI (if _ then _ else _);split
  ·exact sV h t cw name up own
  ·exact Ap (sV h t cw name up own) _
theorem yd {words oops:Int} (g:0<=words∧words<=1048576∧0<=oops∧oops<=65536) (e0:((cD words oops).allocAll aQ).1=0):BaseV (ce words oops) bZ bt:=by
 refine ⟨mB g.1 g.2.1 g.2.2.1 g.2.2.2 e0,xx e0,⟨by decide,by decide⟩,⟨⟨rfl,rfl,rfl,rfl,rfl,rfl,rfl,rfl,rfl,rfl,rfl⟩,fun i=>?_⟩,fun o h4 O7=>?_,?_⟩
 ·unfold dt;rcases i with _ | _ | _ | _ | _ | _ | _ | _ | _ | _ | _ | _ | _ | _ | i
  all_goals first | exact .inl rfl | exact .inr (.inl rfl)
 ·have:o=4∨o=5∨o=6∨o=7∨o=8∨o=9∨o=10∨o=11∨o=12∨o=13∨o=14∨o=15∨o=16∨o=17:=by omega
  rcases this with rfl | rfl | rfl | rfl | rfl | rfl | rfl | rfl | rfl | rfl | rfl | rfl | rfl | rfl
  all_goals exact ⟨_,rfl⟩
 ·exact Dd e0
theorem zx {s:SP}{t:TB}{v:KV} (B:BaseV s t v){j:Nat} (hj:j<v.cls.length):1<=(v.cls[j]).oop∧(v.cls[j]).oop<=65536:=by
 obtain ⟨f,sl,hx⟩:=B.bo ((v.cls[j]).oop,48) (by
  unfold cy;simp only [Us,UM];exact .inr (.inr (.inr (.inr ⟨v.cls[j],UQ hj,rfl⟩))))
 obtain ⟨o,ho,_⟩:=bO.1 hx;have Oz:=aD ho;have hg:=B.all.ks.wf.h.objs.good o Oz.1;have g1:=hg.oop1;have g2:=hg.oop2;have g3:=B.all.ks.wf.h.o1;have g4:o.oop=(v.cls[j]).oop:=Oz.2;omega
theorem yq {s:SP}{t:TB}{v:KV} (B:BaseV s t v) (name sup:ByteArray) (own:List ByteArray) :
  ∃ v',BaseV (aO s v t name sup own).2.1 (aO s v t name sup own).2.2 v'∧((aO s v t name sup own).1.1=0∨∃ c∈v'.cls,c.oop=(aO s v t name sup own).1.1):=by
 unfold aO;by_cases h:(jL v t name sup own).2=0
 ·rw [Uq (by simpa using h)];obtain ⟨j,hj,ej,aa,tc,KX,Lc⟩:=sH B.all.w h;obtain ⟨j',Lj,cx⟩:=DO h;rw [KX] at Lj;have ejj:j'=j:=by
   have h9:eK v (v.cls[j]).oop=some j':=Lj;rw [Lc] at h9;exact (Option.some.inj h9).symm
  subst ejj;rw [ej];have ci:s.stack.length<60000:=by rw [B.all.stack];decide
  have A:=lB B.all hj aa (name:=name) (own:=own) tc;have D:=oR B.all.ks ci hj aa B.all.names.wf name own;have keep:∀ p∈cy v,Reaches s.h s.roots p.1∧p.1≠19:=by
   intro p hp;refine ⟨B.uw.breach B.all.ks B.rest p hp,?_⟩;have hs:=ud B.all.ks.view B.all.ks.sep;unfold cy at hp;simp only [Us] at hp;rcases hp with rfl | rfl | rfl | rfl | hp
   ·decide
   ·decide
   ·decide
   ·decide
   ·obtain ⟨c,hc,rfl⟩:=UM.1 hp;obtain ⟨i,hi,rfl⟩:=Vc.1 hc;exact hs ((v.cls[i]).oop,(v.cls[i]).slots i) (by
     simp only [Us];exact .inr (.inr (.inr (.inr (fw (i:=0) hi (by simp [crole]))))))
  have F6:bT s.h (bM s t v.clsW name (v.cls[j']).oop own).2.1.h (fun k=>Reaches s.h s.roots k∧k≠19):=by
   unfold bM;exact iY D.keep _ _ _ _ _
  have ni0:=wH B.ni t v.clsW name (v.cls[j']).oop own;have bo0:BO (bM s t v.clsW name (v.cls[j']).oop own).2.1.h (cy v):=fun p hp=>by
   obtain ⟨f,sl,hx⟩:=B.bo p hp;exact ⟨f,sl,F6.ob (keep p hp) hx⟩
  by_cases he:(bM s t v.clsW name (v.cls[j']).oop own).1.2=0
  ·obtain ⟨n,ns,l,d,al,_⟩:=A.2 he;have Mp:∃ f sl,ob (bM s t v.clsW name (v.cls[j']).oop own).2.1.h (bM s t v.clsW name (v.cls[j']).oop own).1.1=some (48,f,sl):=by
    unfold bM at he ⊢;simp only at he ⊢;rw [Ur he];have sd:∃ f sl,ob (dR s t v.clsW name (v.cls[j']).oop own).2.1.h (dR s t v.clsW name (v.cls[j']).oop own).1.1=some (48,f,sl):=by
     have w1:=fO B.all.names.wf name;have Je:=fH w1 (acc:=[]) (l:=own) (by simp);unfold dR at he ⊢;by_cases ha:(t.add name).1.2=0
     ·rw [Uq (by simpa using ha)] at he ⊢;have hn:cP (4*(t.add name).1.1+2):=by
       have:=fH B.all.names.wf (acc:=[]) (l:=[name]) (by simp) (4*(t.add name).1.1+2) (by simp [TB.addAll,ha]);exact this
      by_cases c9:((t.add name).2.addAll [] own).1.2=0
      ·rw [Uq (by simpa using c9)] at he ⊢;exact o8 B.all.ks ci hn (zx B hj) Je aa he
      ·rw [Ur (by simpa using c9)] at he;exact absurd he c9
     ·rw [Ur (by simpa using ha)] at he;exact absurd he ha
    obtain ⟨f,sl,hx⟩:=sd;have hk:=iY (bT.refl (dR s t v.clsW name (v.cls[j']).oop own).2.1.h fun _=>True) (dR s t v.clsW name (v.cls[j']).oop own).2.2 s.h.mark t.texts.length s.stack.length (dR s t v.clsW name (v.cls[j']).oop own).1.2;exact ⟨f,sl,hk.ob trivial hx⟩
   refine ⟨_,⟨al,fun p hp=>?_,B.rest,⟨?_,fun i=>?_⟩,fun o h4 O7=>?_,ni0⟩,.inr ⟨_,by unfold KV.addC;exact VV _ (Uu.2 rfl),rfl⟩⟩
   ·have hb:∀ (c:CV) d,cy (v.addC c d)=cy v++[(c.oop,48)]:=fun c d=>by simp [cy,KV.addC]
    rw [hb] at hp;rcases Uz.1 hp with hp | hp
    ·exact bo0 p hp
    ·rw [Uu.1 hp];exact Mp
   ·obtain ⟨a1,a2,a3,a4,a5,a6,a7,a8,a9,a10,a11⟩:=B.pair.pl;exact ⟨eJ a1 _ _,eJ a2 _ _,eJ a3 _ _,eJ a4 _ _,eJ a5 _ _,eJ a6 _ _,eJ a7 _ _,eJ a8 _ _,eJ a9 _ _,eJ a10 _ _,eJ a11 _ _⟩
   ·rcases Nat.lt_trichotomy i v.cls.length with hi | hi | hi
    ·have e:∀ (c:CV) d,dt (v.addC c d) i=dt v i:=fun c d=>by
      unfold dt
      have:(v.addC c d).cls[i]?=v.cls[i]?:=VN hi;rw [this]
     rw [e];rcases B.pair.up i with h1 | h1 | ⟨m,h1,h2⟩
     ·exact .inl h1
     ·exact .inr (.inl h1)
     ·exact .inr (.inr ⟨m,eJ h1 _ _,h2⟩)
    ·have e:∀ (c:CV) d,dt (v.addC c d) i=if c.up=1 then 0 else c.up:=fun c d=>by
      unfold dt
      have:(v.addC c d).cls[i]?=some c:=by
       show (v.cls++[c])[i]?=some c;rw [hi,List.getElem?_append_right (UI _),W3];rfl
      rw [this]
     rw [e];simp only;split
     ·exact .inl rfl
     ·rcases cx with h0 | In
      ·right;left
       have:=B.pair.pl.1;obtain ⟨KO,e0⟩:=dE this;subst h0;exact e0
      ·exact .inr (.inr ⟨j',eJ Lc _ _,In⟩)
    ·left;unfold dt
     have:∀ (c:CV) d,(v.addC c d).cls[i]?=none:=fun c d=>by
      show (v.cls++[c])[i]?=none;rw [Vd];simp;omega
     rw [this]
   ·obtain ⟨i,hi⟩:=B.kern o h4 O7;exact ⟨i,eJ hi _ _⟩
  ·exact ⟨v,⟨(A.1 he).2.1,bo0,B.rest,B.pair,B.kern,ni0⟩,.inl (A.1 he).1⟩
 ·rw [Ur (by simpa using h)];exact ⟨v,B,.inl rfl⟩
def ji (s s':SP) (ρ:Int->Int->Prop):Int->Int->Prop:=fun k k'=>ρ k k'∧Reaches s.h s.roots k∧Reaches s'.h s'.roots k'
section
variable {s s':SP}{t t':TB}{v:KV}{Gw Gw':Int->Prop}{ρ:Int->Int->Prop}
theorem SRel.trim (h:SRel s s' v ρ) (hk:KS s v) (dn:KS s' v) (hU:UW s v Gw) (OA:UW s' v Gw') (hR:gZ v):SRel s s' v (ji s s' ρ):=by
 have Q0:=hk.roots;have Q6:=dn.roots;refine ⟨h.rl.trim,h.len,fun i hi=>?_,⟨h.king,hk.reach (19,v.rootW) (by simp [KV.roles]),dn.reach (19,v.rootW) (by simp [KV.roles])⟩,fun p hp=>⟨h.base p hp,hU.breach hk hR p hp,OA.breach dn hR p hp⟩,h.words,h.oops,h.m1,h.m2⟩;have k8:i<s'.stack.length:=by rw [←h.len];exact hi
 have m1:s.stack.getD i 0∈s.roots:=by
  rw [Q0,UD,UF hi];exact Vb _ (UQ hi)
 have m2:s'.stack.getD i 0∈s'.roots:=by
  rw [Q6,UD,UF k8];exact Vb _ (UQ k8)
 rcases h.stk i hi with hw | ⟨h3,s5,hr⟩
 ·exact .inl hw
 ·obtain ⟨_,_,_,_,_,a1,a2,_⟩:=h.rl.ob _ _ hr;have n1:=kx h3 a1;have n2:=kx s5 a2;have q1:=bX h3;have q2:=bX s5;have r1:=Reaches.root (r:=s.h) m1 (by rw [n1];omega);have r2:=Reaches.root (r:=s'.h) m2 (by rw [n2];omega);rw [n1] at r1;rw [n2] at r2;exact .inr ⟨h3,s5,hr,r1,r2⟩
theorem pH {r:RH} (hm:r.mark=0) (c n f:Int):(r.alloc c n f).2.words=r.words∧(r.alloc c n f).2.oops=r.oops∧(r.alloc c n f).2.mark=0:=by
 unfold RH.alloc;split
 ·exact ⟨rfl,rfl,hm⟩
 split
 ·exact ⟨rfl,rfl,hm⟩
 split
 ·exact ⟨rfl,rfl,hm⟩
 split
 ·exact ⟨rfl,rfl,rfl⟩
 ·refine ⟨rfl,rfl,?_⟩;show (if 0<r.mark then r.mark-1 else r.mark)=0;rw [hm];rfl
theorem rJ {r:RH} (l:List Int):(r.keep l).2.words=r.words∧(r.keep l).2.oops=r.oops∧(r.keep l).2.mark=r.mark:=by
 unfold RH.keep;split
 ·exact ⟨rfl,rfl,rfl⟩
 ·exact ⟨rfl,rfl,rfl⟩
theorem oc (hm:s.h.mark=0) (c n f:Int):(s.alloc c n f).2.h.words=s.h.words∧(s.alloc c n f).2.h.oops=s.h.oops∧(s.alloc c n f).2.h.mark=0:=by
 unfold SP.alloc;split
 ·exact pH hm c n f
 ·obtain ⟨k1,k2,k3⟩:=rJ (r:=s.h) s.reach;obtain ⟨a1,a2,a3⟩:=pH (r:=(s.h.keep s.reach).2) (k3.trans hm) c n f;exact ⟨a1.trans k1,a2.trans k2,a3⟩
theorem SRel.alloc (h:SRel s s' v ρ) (hv:KAllW s t v) (Ld:KAllW s' t' v) (hU:UW s v Gw) (OA:UW s' v Gw') (hR:gZ v){c n f:Int} (hc:∃ cv∈v.cls,c=4*cv.oop) (kv:aA c=3) (hf:f=0∨f=1) (hn:0<=n) (Fd:n<=8192) :
  (s.alloc c n f).1.2=(s'.alloc c n f).1.2∧((s.alloc c n f).1.2≠0->SRel (s.alloc c n f).2 (s'.alloc c n f).2 v (ji s s' ρ)) ∧
  ((s.alloc c n f).1.2=0->∃ o o',(s.alloc c n f).1.1=4*o∧(s'.alloc c n f).1.1=4*o'∧1<=o∧o<=65536∧1<=o'∧o'<=65536∧SRel (s.alloc c n f).2 (s'.alloc c n f).2 v (fun k k'=>ji s s' ρ k k'∨(k=o∧k'=o'))):=by
 have hT:=h.trim hv.ks Ld.ks hU OA hR;have hw:cP c:=by unfold cP;omega
 have ecode:=h.code hv.ks Ld.ks (c:=c) (c':=c) (n:=n) (f:=f) hw hw hf hn Fd;obtain ⟨A,_⟩:=jC hv kv n f;obtain ⟨A',_⟩:=jC Ld kv n f;obtain ⟨z1,z2,z3⟩:=oc h.m1 c n f;obtain ⟨y1,y2,y3⟩:=oc h.m2 c n f;have Sb:(s.alloc c n f).2.h.words=(s'.alloc c n f).2.h.words:=by rw [z1,y1,h.words]
 have Sc:(s.alloc c n f).2.h.oops=(s'.alloc c n f).2.h.oops:=by rw [z2,y2,h.oops]
 have old:∀ {σ:Int->Int->Prop},(∀ k k',ji s s' ρ k k'->σ k k')->∀ k k',ji s s' ρ k k'->∃ c1 f1 l1 c1' l1',ob (s.alloc c n f).2.h k=some (c1,f1,l1)∧ob (s'.alloc c n f).2.h k'=some (c1',f1,l1')∧WR σ c1 c1'∧l1.length=l1'.length∧(f1=1->l1=l1')∧(f1=0->∀ i,i<l1.length->WR σ (l1.getD i 0) (l1'.getD i 0)):=fun {σ} hs k k' hk=>by
  obtain ⟨c1,f1,l1,c1',l1',e1,e2,e3,e4,e5,e6⟩:=hT.rl.ob k k' hk;exact ⟨c1,f1,l1,c1',l1',A.keep k hk.2.1 _ e1,A'.keep k' hk.2.2 _ e2,e3.mono hs,e4,e5,fun h0 i hi=>(e6 h0 i hi).mono hs⟩
 have stk:∀ {σ:Int->Int->Prop},(∀ k k',ji s s' ρ k k'->σ k k')->(s.alloc c n f).2.stack.length=(s'.alloc c n f).2.stack.length∧∀ i,i<(s.alloc c n f).2.stack.length->WR σ ((s.alloc c n f).2.stack.getD i 0) ((s'.alloc c n f).2.stack.getD i 0):=fun {σ} hs=>by
  rw [A.stk,A'.stk];exact ⟨hT.len,fun i hi=>(hT.stk i hi).mono hs⟩
 refine ⟨ecode,fun he=>?_,fun he=>?_⟩
 ·exact ⟨⟨hT.rl.fn,hT.rl.inj,old fun _ _ h=>h⟩,(stk fun _ _ h=>h).1,(stk fun _ _ h=>h).2,hT.king,hT.base,Sb,Sc,z3,y3⟩
 ·obtain ⟨o,e,o1,o2,ho,MB,_⟩:=A.good he;obtain ⟨o',e',o1',o2',eF,OB,_⟩:=A'.good (by rw [←ecode];exact he);have sub:∀ k k',ji s s' ρ k k'->(ji s s' ρ k k'∨(k=o∧k'=o')):=fun _ _ h=>.inl h;refine ⟨o,o',e,e',o1,o2,o1',o2',⟨fun k a b h1 h2=>?_,fun a b k h1 h2=>?_,fun k k' hk=>?_⟩,(stk sub).1,(stk sub).2,.inl hT.king,fun p hp=>.inl (hT.base p hp),Sb,Sc,z3,y3⟩
  ·rcases h1 with h1 | ⟨rfl,rfl⟩ <;> rcases h2 with h2 | ⟨h2,rfl⟩
   ·exact hT.rl.fn _ _ _ h1 h2
   ·exact absurd (h2 ▸ h1.2.1) MB
   ·exact absurd h2.2.1 MB
   ·rfl
  ·rcases h1 with h1 | ⟨rfl,rfl⟩ <;> rcases h2 with h2 | ⟨rfl,h2⟩
   ·exact hT.rl.inj _ _ _ h1 h2
   ·exact absurd (h2 ▸ h1.2.2) OB
   ·exact absurd h2.2.2 OB
   ·rfl
  ·rcases hk with hk | ⟨rfl,rfl⟩
   ·exact old sub k k' hk
   ·obtain ⟨cv,Q7,ec⟩:=hc;have hb:=hT.base (cv.oop,48) (by
     unfold cy;simp only [Us,UM];exact .inr (.inr (.inr (.inr ⟨cv,Q7,rfl⟩))))
    have h1:=hT.base (1,20) (by simp [cy]);have e4:c / 4=cv.oop:=by omega
    refine ⟨c,f,_,c,_,ho,eF,.inr ⟨kv,kv,by rw [e4];exact .inl hb⟩,rfl,fun _=>rfl,fun h0 i hi=>?_⟩;rw [VG] at hi;rw [UD,List.getElem?_replicate,Ur hi,Uq (by omega)];exact .inr ⟨by decide,by decide,.inl h1⟩
theorem SRel.put (h:SRel s s' v ρ){k k' c f c' i w w':Int}{l l':List Int} (hr:ρ k k') (hx:ob s.h k=some (c,f,l)) (Gt:ob s'.h k'=some (c',f,l')) (hi:0<=i∧i<l.length) (hm:dY f w) (w7:dY f w') (h1:f=1->w'=w) (h0:f=0->WR ρ w w') :
  SRel { s with h:=(s.h.put k i w).2 } { s' with h:=(s'.h.put k' i w').2 } v ρ:=by
 obtain ⟨c1,f1,l1,c1',l1',e1,e2,e3,e4,e5,e6⟩:=h.rl.ob _ _ hr;rw [hx] at e1;rw [Gt] at e2;simp only [Option.some.injEq,Prod.mk.injEq] at e1 e2;obtain ⟨rfl,rfl,rfl⟩:=e1;obtain ⟨rfl,_,rfl⟩:=e2;have p1:=jw hx hi hm;have p2:=jw Gt (i:=i) ⟨hi.1,by omega⟩ w7;have same:∀ (r:RH) (k i w:Int),(r.put k i w).2.words=r.words∧(r.put k i w).2.oops=r.oops∧(r.put k i w).2.mark=r.mark:=fun r k i w=>by
  unfold RH.put;split
  ·exact ⟨rfl,rfl,rfl⟩
  split
  ·exact ⟨rfl,rfl,rfl⟩
  split
  ·exact ⟨rfl,rfl,rfl⟩
  ·exact ⟨rfl,rfl,rfl⟩
 obtain ⟨z1,z2,z3⟩:=same s.h k i w;obtain ⟨y1,y2,y3⟩:=same s'.h k' i w';refine ⟨⟨h.rl.fn,h.rl.inj,fun j j' hj=>?_⟩,h.len,h.stk,h.king,h.base,by rw [z1,y1];exact h.words,by rw [z2,y2];exact h.oops,z3.trans h.m1,y3.trans h.m2⟩;by_cases JQ:j=k
 ·subst JQ
  have:j'=k':=h.rl.fn _ _ _ hj hr;subst this;refine ⟨_,_,_,_,_,p1.2,p2.2,e3,by simp [e4],fun hf=>by rw [e5 hf,h1 hf],fun hf i' k8=>?_⟩;rw [WD] at k8;have MT:i'<l'.length:=by omega
  rw [UD,UD,VY,VY];by_cases O8:i.toNat=i'
  ·rw [Ur O8,Ur O8,Ur (by omega),Ur (by omega)];exact h0 hf
  ·rw [Uq O8,Uq O8,←UD,←UD];exact e6 hf i' k8
 ·have Q8:j'≠k':=fun e=>JQ (h.rl.inj _ _ _ hj (e ▸ hr));obtain ⟨c2,f2,l2,c2',l2',q1,q2,q3⟩:=h.rl.ob _ _ hj;exact ⟨c2,f2,l2,c2',l2',(jo k i w j JQ).trans q1,(jo k' i w' j' Q8).trans q2,q3⟩
end
end
section
attribute [local irreducible] ba bQ bS eX d8 fx fu fo fA lz fj cE cG d7
section
variable {s s':SP}{t t':TB}{v:KV}{Gw Gw':Int->Prop}{ρ:Int->Int->Prop}{w w' z z':Int}
theorem SRel.eq_iff (h:SRel s s' v ρ) (h1:WR ρ w w') (h2:WR ρ z z'):w=z↔w'=z':=by
 rcases h1 with ⟨a,rfl⟩ | ⟨a,a',ra⟩ <;> rcases h2 with ⟨b,rfl⟩ | ⟨b,b',rb⟩
 ·exact Iff.rfl
 ·refine ⟨fun e=>absurd (e ▸ b) a,fun e=>absurd (e ▸ b') a⟩
 ·refine ⟨fun e=>absurd (e ▸ a) b,fun e=>absurd (e ▸ a') b⟩
 ·have q1:=bX a;have q2:=bX a';have q3:=bX b;have q4:=bX b';constructor
  ·rintro rfl
   have:=h.rl.fn _ _ _ ra rb;omega
  ·rintro rfl
   have:=h.rl.inj _ _ _ ra rb;omega
theorem SRel.const (h:SRel s s' v ρ){k c:Int} (hk:(k,c)∈cy v) (h3:aA (4*k)=3):WR ρ (4*k) (4*k):=by
 have e:4*k / 4=k:=by omega
 exact .inr ⟨h3,h3,by rw [e];exact h.base _ hk⟩
theorem WR.num (h:WR ρ w w'):dp w=dp w'∧aA w=aA w':=by
 rcases h with ⟨_,rfl⟩ | ⟨a,b,_⟩
 ·exact ⟨rfl,rfl⟩
 ·unfold dp;rw [Uq (by omega),Uq (by omega),a,b];exact ⟨rfl,rfl⟩
theorem WR.small (h:aA w≠3):WR ρ w w:=.inl ⟨h,rfl⟩
theorem SRel.of (h:SRel s s' v ρ) (hv:KAllW s t v) (hU:UW s v Gw) (hp:PairV v) (hw:WR ρ w w') (hk:WK v Gw w) (h0:bV s.h w≠0) (Ld:KAllW s' t' v):bV s'.h w'=bV s.h w∧cq s'.h w'=cq s.h w:=by
 obtain ⟨p4,p5,p6,p7,p8,p9,p10,p11,p12,_⟩:=gE hp;rcases hw with ⟨a,rfl⟩ | ⟨a,a',ra⟩
 ·obtain ⟨k1,k2,k3⟩:=gO (r:=s.h) (w:=w');obtain ⟨g1,g2,g3⟩:=gO (r:=s'.h) (w:=w');have Jb:aA w'=0∨aA w'=1∨aA w'=2∨aA w'=3:=by have:=bl w';omega
  refine ⟨?_,by unfold cq;rw [Uq a,Uq a]⟩;rcases Jb with hk | hk | hk | hk
  ·exact absurd (k3 hk) h0
  ·rw [k1 hk,g1 hk]
  ·rw [k2 hk,g2 hk]
  ·exact absurd hk a
 ·obtain ⟨c,f,l,c',l',e1,e2,e3,e4,_,_⟩:=h.rl.ob _ _ ra;rcases hU.view hv hk h0 with ⟨k1,_⟩ | ⟨k1,_⟩ | ⟨_,c1,f1,l1,hx,kv,eo,hc⟩
  ·omega
  ·omega
  rw [e1] at hx;simp only [Option.some.injEq,Prod.mk.injEq] at hx;obtain ⟨rfl,rfl,rfl⟩:=hx;have u0:∃ i,eK v (c / 4)=some i:=by
   rcases hc with (rfl | rfl | rfl) | ⟨_,rfl,_⟩ | ⟨rfl,_⟩ | ⟨_,⟨_,rfl⟩ | ⟨_,hO,_⟩⟩
   ·exact ⟨_,p5⟩
   ·exact ⟨_,p6⟩
   ·exact ⟨_,p7⟩
   ·exact ⟨_,p11⟩
   ·exact ⟨_,p12⟩
   ·exact ⟨_,p10⟩
   ·rcases jr hp hO kv with e' | e' | ⟨i,e',_⟩
    ·rw [e'];exact ⟨_,p11⟩
    ·rw [e'];exact ⟨_,p4⟩
    ·exact ⟨_,e'⟩
  obtain ⟨i,hi⟩:=u0;obtain ⟨k8,ei⟩:=dE hi;have hb:=h.base ((v.cls[i]).oop,48) (by
   unfold cy;simp only [Us,UM];exact .inr (.inr (.inr (.inr ⟨v.cls[i],UQ k8,rfl⟩))))
  simp only [ei] at hb;have ec:c' / 4=c / 4∧aA c'=3:=by
   rcases e3 with ⟨g,_⟩ | ⟨_,g',gr⟩
   ·exact absurd kv g
   ·exact ⟨h.rl.fn _ _ _ gr hb,g'⟩
  refine ⟨?_,?_⟩
  ·rw [eo,wT a' e2 ec.2,ec.1]
  ·rw [eD a e1,eD a' e2,e4]
end
section
variable {s s':SP}{t t':TB}{v:KV}{Gw Gw':Int->Prop}{ρ:Int->Int->Prop}{w w':Int}
theorem SRel.text (h:SRel s s' v ρ) (hv:KAllW s t v) (hw:WR ρ w w') (ht:aA w=2∨lM s w):bG s'.h t w'=bG s.h t w:=by
 rcases hw with ⟨a,rfl⟩ | ⟨a,a',ra⟩
 ·rcases ht with h2 | ⟨k,y,rfl,hs,_⟩
  ·unfold bG;rw [Ur h2,Ur h2]
  ·obtain ⟨k1,k2⟩:=iE hv hs;exact absurd (cW k1 k2) a
 ·rcases ht with h2 | ⟨k,y,rfl,hs,_⟩
  ·omega
  ·obtain ⟨o,ho,hf,hc,hl⟩:=hs;have e4:4*k / 4=k:=by omega
   obtain ⟨c,f,l,c',l',e1,e2,_,e4',e5,_⟩:=h.rl.ob _ _ ra;have hx:ob s.h (4*k / 4)=some (40,1,bL y):=by rw [e4];exact bO.2 ⟨o,ho,hc,hf,hl⟩
   rw [hx] at e1;simp only [Option.some.injEq,Prod.mk.injEq] at e1;obtain ⟨rfl,rfl,rfl⟩:=e1;have el:=e5 rfl;subst el;unfold bG;rw [Uq (by omega),Uq (by omega),eD a' e2,eD a hx];simp only [Uy];rw [ki a' e2,ki a hx]
theorem SRel.slot (h:SRel s s' v ρ) (hw:WR ρ w w') (h3:aA w=3){c:Int}{l:List Int} (hx:ob s.h (w / 4)=some (c,0,l)){i:Int} (i0:0<=i) (i1:i<l.length):WR ρ (dQ s.h w i) (dQ s'.h w' i):=by
 rcases hw with ⟨a,_⟩ | ⟨a,a',ra⟩
 ·exact absurd h3 a
 ·obtain ⟨c1,f,l1,c',l',e1,e2,_,e4,_,e6⟩:=h.rl.ob _ _ ra;rw [hx] at e1;simp only [Option.some.injEq,Prod.mk.injEq] at e1;obtain ⟨rfl,rfl,rfl⟩:=e1;rw [gF a hx i0 i1,gF a' e2 i0 (by omega)];exact e6 rfl _ (by omega)
end
def AR (f:Int) (ρ:Int->Int->Prop):List Int->List Int->Prop
 | [],[]=>True
 | x :: xs,y :: ys=>(dY f x∧dY f y∧(f=1->y=x)∧(f=0->WR ρ x y))∧AR f ρ xs ys
 | _,_=>False
section
variable {v:KV}{ρ:Int->Int->Prop}
theorem AR.len {f:Int}:∀ {xs ys:List Int},AR f ρ xs ys->xs.length=ys.length
 | [],[],_=>rfl
 | _ :: _,_ :: _,h=>by simp [AR.len h.2]
 | [],_ :: _,h=>h.elim
 | _ :: _,[],h=>h.elim
theorem SRel.lay {k k' c c' f:Int} (k1:1<=k) (k2:k<=65536) (k1':1<=k') (k2':k'<=65536) (hr:ρ k k'):∀ (xs ys done done' rest rest':List Int) (s s':SP),SRel s s' v ρ->ob s.h k=some (c,f,done++rest)->ob s'.h k'=some (c',f,done'++rest')->done.length=done'.length->rest.length=xs.length->rest'.length=ys.length->AR f ρ xs ys ->
  ∃ s2 s2',s.layE (4*k) (done.length:Int) xs=(0,s2)∧s'.layE (4*k') (done'.length:Int) ys=(0,s2')∧SRel s2 s2' v ρ
 | [],[],_,_,_,_,s,s',h,_,_,_,_,_,_=>⟨s,s',rfl,rfl,h⟩
 | [],_ :: _,_,_,_,_,_,_,_,_,_,_,_,_,ha=>ha.elim
 | _ :: _,[],_,_,_,_,_,_,_,_,_,_,_,_,ha=>ha.elim
 | x :: xs,y :: ys,done,done',[],_,_,_,_,_,_,_,hl,_,_=>by simp at hl
 | x :: xs,y :: ys,done,done',_ :: _,[],_,_,_,_,_,_,_,hl,_=>by simp at hl
 | x :: xs,y :: ys,done,done',a :: rest,b :: rest',s,s',h,hx,Gt,hd,hl,t6,ha=>by
  obtain ⟨⟨m1,m2,g1,g0⟩,Ja⟩:=ha;have hi:(0:Int)<=(done.length:Int)∧(done.length:Int)<((done++a :: rest).length:Int):=by simp;omega
  have k8:(0:Int)<=(done'.length:Int)∧(done'.length:Int)<((done'++b :: rest').length:Int):=by simp;omega
  obtain ⟨p1,p2⟩:=jw hx hi m1;obtain ⟨q1,q2⟩:=jw Gt k8 m2;have hp:=h.put hr hx Gt hi m1 m2 g1 g0;have e1:s.putW (4*k) (done.length:Int) x=(0,{ s with h:=(s.h.put k (done.length:Int) x).2 }):=by
   unfold SP.putW;rw [dP k1 k2,p1]
  have e2:s'.putW (4*k') (done'.length:Int) y=(0,{ s' with h:=(s'.h.put k' (done'.length:Int) y).2 }):=by
   unfold SP.putW;rw [dP k1' k2',q1]
  have es:(done++a :: rest).set (done.length:Int).toNat x=(done++[x])++rest:=by simp
  have es':(done'++b :: rest').set (done'.length:Int).toNat y=(done'++[y])++rest':=by simp
  rw [es] at p2;rw [es'] at q2;rw [hd] at hp;have Lz:(done.length:Int)=(done'.length:Int):=by omega
  obtain ⟨s2,s2',r1,r2,r3⟩:=SRel.lay k1 k2 k1' k2' hr xs ys (done++[x]) (done'++[y]) rest rest' { s with h:=(s.h.put k (done.length:Int) x).2 } { s' with h:=(s'.h.put k' (done'.length:Int) y).2 } (by rw [hd];exact hp) p2 q2 (by simp [hd]) (by simpa using hl) (by simpa using t6) Ja;refine ⟨s2,s2',?_,?_,r3⟩
  ·unfold SP.layE;rw [e1];simp only;rw [Uq (by simp),←r1];simp
  ·unfold SP.layE;rw [e2];simp only;rw [Uq (by simp),←r2];simp
end
theorem AR.mono {f:Int}{ρ σ:Int->Int->Prop} (hm:∀ k k',ρ k k'->σ k k'):∀ {xs ys:List Int},AR f ρ xs ys->AR f σ xs ys
 | [],[],_=>trivial
 | _ :: _,_ :: _,h=>⟨⟨h.1.1,h.1.2.1,h.1.2.2.1,fun h0=>(h.1.2.2.2 h0).mono hm⟩,AR.mono hm h.2⟩
 | [],_ :: _,h=>h.elim
 | _ :: _,[],h=>h.elim
section
variable {s s':SP}{t t':TB}{v:KV}{Gw Gw':Int->Prop}{ρ:Int->Int->Prop}
theorem SRel.make (h:SRel s s' v ρ) (hv:KAllW s t v) (Ld:KAllW s' t' v) (hU:UW s v Gw) (OA:UW s' v Gw') (hR:gZ v){c f:Int} (hc:∃ cv∈v.cls,c=cv.oop) (na:1<=c∧c<=65536) (hf:f=0∨f=1){xs ys:List Int} (hl:xs.length<=8192) (ha:AR f (ji s s' ρ) xs ys) :
  (s.makeP c f xs).1.2=(s'.makeP c f ys).1.2∧∃ σ:Int->Int->Prop,SRel (s.makeP c f xs).2 (s'.makeP c f ys).2 v σ∧((s.makeP c f xs).1.2=0->WR σ (s.makeP c f xs).1.1 (s'.makeP c f ys).1.1):=by
 have ai:=ha.len;have kv:=cW na.1 na.2;obtain ⟨cv,Q7,ecv⟩:=hc;obtain ⟨ecode,bad,good⟩:=h.alloc hv Ld hU OA hR (c:=4*c) (n:=(xs.length:Int)) (f:=f) ⟨cv,Q7,by rw [ecv]⟩ kv hf (by omega) (by omega);have A:=(jC hv kv (xs.length:Int) f).1.good;have A':=(jC Ld kv (xs.length:Int) f).1.good;unfold SP.makeP;rw [show (ys.length:Int)=(xs.length:Int) by omega];generalize s.alloc (4*c) (xs.length:Int) f=Z at ecode bad good A ⊢;generalize s'.alloc (4*c) (xs.length:Int) f=Z' at ecode bad good A' ⊢;by_cases he:Z.1.2=0
 ·have Jp:Z'.1.2=0:=by rw [←ecode];exact he
  obtain ⟨o,o',e,e',o1,o2,o1',o2',hS⟩:=good he;obtain ⟨p,ep,_,_,hp,_⟩:=A he;obtain ⟨p',ep',_,_,J3,_⟩:=A' Jp
  have:p=o:=by omega
  subst this
  have:p'=o':=by omega
  subst this;obtain ⟨s2,s2',r1,r2,r3⟩:=SRel.lay o1 o2 o1' o2' (.inr ⟨rfl,rfl⟩) xs ys [] [] _ _ Z.2 Z'.2 hS hp J3 rfl (by simp) (by simp;omega) (ha.mono fun _ _ h=>.inl h);have e0:((List.nil (α:=Int)).length:Int)=0:=rfl;rw [e0] at r1 r2;rw [Uq (show ¬ (Z.1.2≠0) from fun hh=>hh he),Uq (show ¬ (Z'.1.2≠0) from fun hh=>hh Jp),e,e',r1,r2];refine ⟨rfl,_,r3,fun _=>?_⟩;show WR _ (if (0:Int)=0 then 4*p else 0) (if (0:Int)=0 then 4*p' else 0);rw [Ur rfl,Ur rfl];exact .inr ⟨cW o1 o2,cW o1' o2',by rw [show 4*p / 4=p by omega,show 4*p' / 4=p' by omega];exact .inr ⟨rfl,rfl⟩⟩
 ·have Jp:¬ Z'.1.2=0:=by rw [←ecode];exact he
  rw [Ur (show Z.1.2≠0 from he),Ur (show Z'.1.2≠0 from Jp)];exact ⟨ecode,_,bad he,fun h=>absurd h he⟩
end
structure RelP (v:KV) (R R':PR):Prop where
 code:R.1.2=R'.1.2
 tab:R.2.2=R'.2.2
 rel:∃ σ:Int->Int->Prop,SRel R.2.1 R'.2.1 v σ∧WR σ R.1.1 R'.1.1
structure Two (s s':SP) (t:TB) (v:KV) (Gw Gw':Int->Prop) (ρ:Int->Int->Prop):Prop where
 h:SRel s s' v ρ
 live:∀ k k',ρ k k'->ji s s' ρ k k'
 a:KAllW s t v
 b:KAllW s' t v
 u:UW s v Gw
 u':UW s' v Gw'
 p:PairV v
 r:gZ v
theorem AR.bytes {ρ:Int->Int->Prop}:∀ {xs:List Int},(∀ w∈xs,0<=w∧w<=255)->AR 1 ρ xs xs
 | [],_=>trivial
 | x :: xs,h=>by
  have m:dY 1 x:=by unfold dY;rw [Ur rfl];exact h x (by simp)
  exact ⟨⟨m,m,fun _=>rfl,fun e=>absurd e (by decide)⟩,AR.bytes fun w hw=>h w (by simp [hw])⟩
theorem AR.words {ρ:Int->Int->Prop}:∀ {xs ys:List Int},xs.length=ys.length->(∀ w∈xs,dY 0 w)->(∀ w∈ys,dY 0 w)->(∀ i,i<xs.length->WR ρ (xs.getD i 0) (ys.getD i 0))->AR 0 ρ xs ys
 | [],[],_,_,_,_=>trivial
 | [],_ :: _,h,_,_,_=>by simp at h
 | _ :: _,[],h,_,_,_=>by simp at h
 | x :: xs,y :: ys,h,m,m',hw=>by
  refine ⟨⟨m x (by simp),m' y (by simp),fun e=>absurd e (by decide),fun _=>?_⟩,AR.words (by simpa using h) (fun w hx=>m w (by simp [hx])) (fun w hx=>m' w (by simp [hx])) fun i hi=>?_⟩
  ·have:=hw 0 (by simp);simpa using this
  ·have:=hw (i+1) (by simpa using hi);simpa using this
theorem rQ {ρ:Int->Int->Prop}{x x':Int} (m:Int) (h:WR ρ x x'):aV m x'=aV m x:=by
 unfold aV;by_cases hk:aA x=1
 ·rcases h with ⟨_,rfl⟩ | ⟨a,_⟩
  ·rfl
  ·omega
 ·have:=(WR.num h).2;rw [Ur (show aA x'≠1 by omega),Ur (show aA x≠1 from hk)]
theorem qM {s:SP}{c n f:Int} (hc:cP c) (hf:f=0∨f=1) (hn:8192<n):s.alloc c n f=((0,22),s):=by
 have e:s.h.alloc c n f=((0,22),s.h):=by
  unfold RH.alloc;rw [Uq (by rintro (h | h | h | h);exact h hc;all_goals omega),Ur hn]
 unfold SP.alloc;rw [e,Ur (.inl (show (22:Int)≠23 by decide))];rfl
section
variable {s s':SP}{t:TB}{v:KV}{Gw Gw':Int->Prop}{ρ:Int->Int->Prop}{r r' w w':Int}{ar ar':List Int}
theorem SRel.ext (h:SRel s s' v ρ) (hw:WR ρ w w'):cq s'.h w'=cq s.h w:=by
 rcases hw with ⟨a,rfl⟩ | ⟨a,a',ra⟩
 ·unfold cq;rw [Uq a,Uq a]
 ·obtain ⟨c,f,l,c',l',e1,e2,_,e4,_⟩:=h.rl.ob _ _ ra;rw [eD a e1,eD a' e2,e4]
theorem SRel.of0 (h:SRel s s' v ρ) (hv:KAllW s t v) (hU:UW s v Gw) (hp:PairV v) (hw:WR ρ w w') (hk:WK v Gw w) (Ld:KAllW s' t v):bV s'.h w'=bV s.h w:=by
 by_cases h0:bV s.h w≠0
 ·exact (h.of hv hU hp hw hk h0 Ld).1
 ·rcases hw with ⟨a,rfl⟩ | ⟨a,a',ra⟩
  ·obtain ⟨k1,k2,k3⟩:=gO (r:=s.h) (w:=w');obtain ⟨g1,g2,g3⟩:=gO (r:=s'.h) (w:=w');have Jb:aA w'=0∨aA w'=1∨aA w'=2∨aA w'=3:=by have:=bl w';omega
   rcases Jb with hk | hk | hk | hk
   ·rw [k3 hk,g3 hk]
   ·rw [k1 hk,g1 hk]
   ·rw [k2 hk,g2 hk]
   ·exact absurd hk a
  ·exfalso;apply h0;obtain ⟨c,f,l,c',l',e1,_⟩:=h.rl.ob _ _ ra;have hc:aA c=3:=by
    obtain ⟨o,ho,rfl,_⟩:=bO.1 e1;exact hv.ks.gc o (aD ho).1
   rw [wT a e1 hc]
   have:=bX hc;omega
theorem IS (h:SRel s s' v ρ) (z:Bool):WR ρ (tw z) (tw z):=by
 cases z
 ·exact h.const (k:=2) (c:=24) (by simp [cy]) (by decide)
 ·exact h.const (k:=3) (c:=28) (by simp [cy]) (by decide)
theorem FT (n:Int):WR ρ (fe n).1 (fe n).1:=by
 refine WR.small ?_;unfold fe;split
 ·show aA (2*n+1)≠3;unfold aA;rw [Ur (by omega)];decide
 ·show aA 0≠3;decide
theorem Bi:WR ρ 0 0:=WR.small (by decide)
theorem RelP.look (h:SRel s s' v ρ){res res':Int × Int} (e:res'.2=res.2) (hw:WR ρ res.1 res'.1):RelP v (res,s,t) (res',s',t):=⟨e.symm,rfl,ρ,h,hw⟩
theorem RelP.eq (h:SRel s s' v ρ){res res':Int × Int} (e:res'=res) (hw:WR ρ res.1 res.1):RelP v (res,s,t) (res',s',t):=by
 subst e;exact .look h rfl hw
theorem RelP.no (h:SRel s s' v ρ){e:Int}:RelP v ((0,e),s,t) ((0,e),s',t):=.look h rfl Bi
theorem RelP.truth (h:SRel s s' v ρ){b b':Bool} (e:b'=b):RelP v ((tw b,0),s,t) ((tw b',0),s',t):=by
 subst e;exact .look h rfl (IS h _)
theorem RelP.int (h:SRel s s' v ρ){n n':Int} (e:n'=n):RelP v (fe n,s,t) (fe n',s',t):=by
 subst e;exact .look h rfl (FT _)
theorem UW.pl (hU:UW s v Gw) (hv:KAllW s t v) (hp:PairV v) (hw:WK v Gw w) (h0:bV s.h w≠0):∃ i,eK v (bV s.h w)=some i:=by
 obtain ⟨p4,p5,p6,p7,p8,p9,p10,p11,p12,_⟩:=gE hp;rcases hU.view hv hw h0 with ⟨_,e⟩ | ⟨_,e⟩ | ⟨h3,c,f,l,hx,kv,e,hc⟩
 ·rw [e];exact ⟨_,p8⟩
 ·rw [e];exact ⟨_,p9⟩
 ·rw [e];rcases hc with (rfl | rfl | rfl) | ⟨_,rfl,_⟩ | ⟨rfl,_⟩ | ⟨_,⟨_,rfl⟩ | ⟨_,hO,_⟩⟩
  ·exact ⟨_,p5⟩
  ·exact ⟨_,p6⟩
  ·exact ⟨_,p7⟩
  ·exact ⟨_,p11⟩
  ·exact ⟨_,p12⟩
  ·exact ⟨_,p10⟩
  ·rcases jr hp hO kv with e' | e' | ⟨j,e',hj⟩
   ·rw [e'];exact ⟨_,p11⟩
   ·rw [e'];exact ⟨_,p4⟩
   ·exact ⟨_,e'⟩
theorem UW.cls12 (hU:UW s v Gw) (hv:KAllW s t v) (hp:PairV v) (hw:WK v Gw w) (k9:bV s.h w=12):aA w=3∧∃ i,∃ hi:i<v.cls.length,w / 4=(v.cls[i]).oop∧ob s.h (w / 4)=some (48,0,(v.cls[i]).slots i):=by
 obtain ⟨p4,p5,p6,p7,p8,p9,p10,p11,p12,_⟩:=gE hp;rcases hU.view hv hw (by omega) with ⟨_,e⟩ | ⟨_,e⟩ | ⟨h3,c,f,l,hx,kv,e,hc⟩
 ·omega
 ·omega
 ·refine ⟨h3,?_⟩;rcases hc with (rfl | rfl | rfl) | ⟨_,rfl,_⟩ | ⟨rfl,rfl,i,hi,e1,rfl⟩ | ⟨_,⟨_,rfl⟩ | ⟨_,hO,_⟩⟩
  ·omega
  ·omega
  ·omega
  ·omega
  ·exact ⟨i,hi,e1,hx⟩
  ·omega
  ·rcases jr hp hO kv with e' | e' | ⟨j,e',hj⟩
   ·omega
   ·omega
   ·rw [←e,k9,p12] at e';cases e';omega
theorem ul {i:Nat} (hi:i<v.cls.length):((v.cls[i]).oop,48)∈cy v:=by
 unfold cy;simp only [Us,UM];exact .inr (.inr (.inr (.inr ⟨v.cls[i],UQ hi,rfl⟩)))
theorem Two.same12 (T:Two s s' t v Gw Gw' ρ) (hw:WR ρ w w') (hk:WK v Gw w) (k9:bV s.h w=12):w'=w:=by
 obtain ⟨h3,i,hi,e,_⟩:=T.u.cls12 T.a T.p hk k9;rcases hw with ⟨a,_⟩ | ⟨a,a',ra⟩
 ·exact absurd h3 a
 ·have hb:=T.h.base _ (ul hi);simp only at hb;rw [e] at ra
  have:=T.h.rl.fn _ _ _ ra hb;have q1:=bX a;have q2:=bX a';omega
theorem RelP.elem (T:Two s s' t v Gw Gw' ρ) (l4:WR ρ r r') (hA:∀ i,WR ρ (ar.getD i 0) (ar'.getD i 0)) (hl:ar.length=ar'.length) (hW:∀ i,i<ar.length->cP (ar.getD i 0)) (hW':∀ i,i<ar'.length->cP (ar'.getD i 0)){m:Int} (hm:0<m->aA r=3∧∃ c l,ob s.h (r / 4)=some (c,0,l)∧(l.length:Int)=m):RelP v (dK s t r ar m) (dK s' t r' ar' m):=by
 unfold dK;rw [rQ m (hA 0),←hl];by_cases h0:(aV m (ar.getD 0 0)).2=0
 ·have Jm:¬ (aV m (ar.getD 0 0)).2≠0:=fun h=>h h0;rw [Uq Jm,Uq Jm];obtain ⟨i0,i1⟩:=i8 h0;obtain ⟨h3,c,l,hx,Mo⟩:=hm (by omega);by_cases h2:ar.length<2
  ·rw [Ur h2,Ur h2];exact .look T.h rfl (T.h.slot l4 h3 hx i0 (by omega))
  ·rw [Uq h2,Uq h2];rcases l4 with ⟨a,_⟩ | ⟨_,a',ra⟩
   ·exact absurd h3 a
   obtain ⟨c1,f1,l1,c1',l1',e1,e2,_,e4,_,_⟩:=T.h.rl.ob _ _ ra;have e1':=e1;rw [hx] at e1';simp only [Option.some.injEq,Prod.mk.injEq] at e1';obtain ⟨rfl,rfl,rfl⟩:=e1';have iw:=hW 1 (by omega);have iw':=hW' 1 (by omega);obtain ⟨er,r1,r2⟩:=bX h3;obtain ⟨er',r1',r2'⟩:=bX a';have eo:jN r=r / 4:=by have:=dP r1 r2;rwa [←er] at this
   have eo':jN r'=r' / 4:=by have:=dP r1' r2';rwa [←er'] at this
   have my:∀ {y},cP y->dY 0 y:=fun {y} hy=>by unfold dY;rw [Uq (by decide)];exact hy
   have p1:=jw hx (i:=(aV m (ar.getD 0 0)).1) ⟨i0,by omega⟩ (my iw);have p2:=jw e2 (i:=(aV m (ar.getD 0 0)).1) ⟨i0,by omega⟩ (my iw');have hS:=T.h.put ra hx e2 (i:=(aV m (ar.getD 0 0)).1) ⟨i0,by omega⟩ (my iw) (my iw') (fun h=>absurd h (by decide)) fun _=>hA 1;have q1:s.putW r (aV m (ar.getD 0 0)).1 (ar.getD 1 0)=(0,{ s with h:=(s.h.put (r / 4) (aV m (ar.getD 0 0)).1 (ar.getD 1 0)).2 }):=by unfold SP.putW;rw [eo,p1.1]
   have q2:s'.putW r' (aV m (ar.getD 0 0)).1 (ar'.getD 1 0)=(0,{ s' with h:=(s'.h.put (r' / 4) (aV m (ar.getD 0 0)).1 (ar'.getD 1 0)).2 }):=by unfold SP.putW;rw [eo',p2.1]
   rw [q1,q2];exact ⟨rfl,rfl,ρ,hS,hA 1⟩
 ·rw [Ur h0,Ur h0];exact .no T.h
theorem rz {s:SP}{c f:Int}{xs:List Int} (h:(s.makeP c f xs).1.2≠0):(s.makeP c f xs).1.1=0:=by
 unfold SP.makeP at h ⊢;by_cases he:(s.alloc (4*c) xs.length f).1.2=0
 ·have Jp:¬ (s.alloc (4*c) xs.length f).1.2≠0:=fun h=>h he;rw [Uq Jp] at h ⊢;show (if ((s.alloc (4*c) xs.length f).2.layE (s.alloc (4*c) xs.length f).1.1 0 xs).1=0 then (s.alloc (4*c) xs.length f).1.1 else 0)=0;rw [Uq h]
 ·rw [Ur he]
theorem RelP.made (T:Two s s' t v Gw Gw' ρ){c f:Int}{i:Nat} (hc:eK v c=some i) (na:1<=c∧c<=65536) (hf:f=0∨f=1){xs ys:List Int} (hl:xs.length<=8192) (ha:AR f ρ xs ys):RelP v (sG s t c f xs) (sG s' t c f ys):=by
 obtain ⟨hi,e⟩:=dE hc;obtain ⟨e1,σ,h1,h2⟩:=T.h.make T.a T.b T.u T.u' T.r ⟨_,UQ hi,e.symm⟩ na hf hl (ha.mono T.live);unfold sG;refine ⟨e1,rfl,σ,h1,?_⟩;by_cases he:(s.makeP c f xs).1.2=0
 ·exact h2 he
 ·have z:=rz he;have z':=rz (s:=s') (c:=c) (f:=f) (xs:=ys) (by rw [←e1];exact he);show WR σ (s.makeP c f xs).1.1 (s'.makeP c f ys).1.1;rw [z,z'];exact Bi
theorem RelP.new (T:Two s s' t v Gw Gw' ρ){c n f:Int} (hc:∃ cv∈v.cls,c=4*cv.oop) (kv:aA c=3) (hf:f=0∨f=1) (hn:0<=n):RelP v (kg s t c n f) (kg s' t c n f):=by
 unfold kg vQ;by_cases hb:8192<n
 ·have hw:cP c:=by unfold cP;omega
  rw [qM hw hf hb,qM hw hf hb];exact ⟨rfl,rfl,ρ,T.h,Bi⟩
 ·obtain ⟨ec,bad,good⟩:=T.h.alloc T.a T.b T.u T.u' T.r (n:=n) hc kv hf hn (by omega);by_cases he:(s.alloc c n f).1.2=0
  ·obtain ⟨o,o',e1,e2,o1,o2,o1',o2',hS⟩:=good he;have Jp:(s'.alloc c n f).1.2=0:=by rw [←ec];exact he
   rw [Ur he,Ur Jp];refine ⟨ec,rfl,_,hS,?_⟩;show WR _ (s.alloc c n f).1.1 (s'.alloc c n f).1.1;rw [e1,e2];exact .inr ⟨cW o1 o2,cW o1' o2',by rw [show 4*o / 4=o by omega,show 4*o' / 4=o' by omega];exact .inr ⟨rfl,rfl⟩⟩
  ·have Jp:¬ (s'.alloc c n f).1.2=0:=by rw [←ec];exact he
   rw [Uq he,Uq Jp];exact ⟨ec,rfl,_,bad he,Bi⟩
def GQ (s:SP) (r:Int):PO->Prop
 | .at=>bV s.h r=11
 | .byteAt | .bytePut | .join | .eq | .less | .asSym=>lM s r
 | .fresh | .sized=>bV s.h r=12
 | .slot i=>bV s.h r=12∧(i=0∨i=1)
 | .len | .asStr | .symLess=>aA r=2
 | _=>True
end
section
variable {s s':SP}{t:TB}{v:KV}{Gw Gw':Int->Prop}{ρ:Int->Int->Prop}{r r':Int}{ar ar':List Int}
theorem Two.str (T:Two s s' t v Gw Gw' ρ){w w':Int} (hw:WR ρ w w') (hs:lM s w):aA w=3∧aA w'=3∧ρ (w / 4) (w' / 4)∧∃ l c',ob s.h (w / 4)=some (40,1,l)∧ob s'.h (w' / 4)=some (c',1,l):=by
 obtain ⟨k,y,rfl,hs,hy⟩:=hs;obtain ⟨k1,k2⟩:=iE T.a hs;have h3:=cW k1 k2;rcases hw with ⟨a,_⟩ | ⟨a,a',ra⟩
 ·exact absurd h3 a
 obtain ⟨o,ho,hf,hc,hl⟩:=hs;have e4:4*k / 4=k:=by omega
 obtain ⟨c,f,l,c',l',e1,e2,_,e4',e5,_⟩:=T.h.rl.ob _ _ ra;have hx:ob s.h (4*k / 4)=some (40,1,bL y):=by rw [e4];exact bO.2 ⟨o,ho,hc,hf,hl⟩
 have e1':=e1;rw [hx] at e1';simp only [Option.some.injEq,Prod.mk.injEq] at e1';obtain ⟨rfl,rfl,rfl⟩:=e1'
 have:=e5 rfl;subst this;exact ⟨a,a',ra,_,_,e1,e2⟩
theorem BS (T:Two s s' t v Gw Gw' ρ) (hr:WK v Gw r) (h0:bV s.h r≠0) (l4:WR ρ r r') (hA:∀ i,WR ρ (ar.getD i 0) (ar'.getD i 0)) (hK:∀ i,WK v Gw (ar.getD i 0)) (hl:ar.length=ar'.length) (hW:∀ i,i<ar.length->cP (ar.getD i 0)) (hW':∀ i,i<ar'.length->cP (ar'.getD i 0)) :
  ∀ {o:PO},GQ s r o->RelP v (ch s t v r ar o) (ch s' t v r' ar' o):=by
 obtain ⟨p4,p5,p6,p7,p8,p9,p10,p11,p12,_⟩:=gE T.p;have eof:=T.h.of0 T.a T.u T.p l4 hr T.b;have eext:=T.h.ext l4;have eofx:=T.h.of0 T.a T.u T.p (hA 0) (hK 0) T.b;have nr:=WR.num l4;have nx:=WR.num (hA 0);have ef:cU s'.h v r'=cU s.h v r:=by unfold cU;rw [eof,eext]
 have w4:WR ρ 4 4:=T.h.const (k:=1) (c:=20) (by simp [cy]) (by decide);have w8:WR ρ 8 8:=T.h.const (k:=2) (c:=24) (by simp [cy]) (by decide);have w12:WR ρ 12 12:=T.h.const (k:=3) (c:=28) (by simp [cy]) (by decide);have w72:WR ρ 72 72:=T.h.const (k:=18) (c:=44) (by simp [cy]) (by decide);have is8:=T.h.eq_iff l4 w8;have is12:=T.h.eq_iff l4 w12;have x8:=T.h.eq_iff (hA 0) w8;have x12:=T.h.eq_iff (hA 0) w12;have lj:=sT T.a h0;have one:∀ {w w':Int},WR ρ w w'->aA w=1->w'=w:=fun {w w'} h hk=>by
  rcases h with ⟨_,rfl⟩ | ⟨a,_⟩
  ·rfl
  ·omega
 have new:∀ {n f:Int},bV s.h r=12->f=0∨f=1->0<=n->RelP v (kg s t r n f) (kg s' t r n f):=fun {n f} k9 hf hn=>by
  obtain ⟨h3,i,hi,e,_⟩:=T.u.cls12 T.a T.p hr k9
  have:=bX h3;exact .new T ⟨_,UQ hi,by omega⟩ h3 hf hn
 intro o ho;cases o with
 | same=>exact .truth T.h (decide_eq_decide.2 (T.h.eq_iff l4 (hA 0)).symm)
 | other=>exact .truth T.h (decide_eq_decide.2 (not_congr (T.h.eq_iff l4 (hA 0))).symm)
 | cls =>
  obtain ⟨i,hi⟩:=T.u.pl T.a T.p hr h0;obtain ⟨k8,e⟩:=dE hi;show RelP v ((4*bV s.h r,0),s,t) ((4*bV s'.h r',0),s',t);rw [eof];refine .look T.h rfl ?_;have hb:=ul k8;rw [e] at hb;exact T.h.const hb (cW lj.1 lj.2)
 | isNil=>exact .truth T.h (decide_eq_decide.2 (T.h.eq_iff l4 w4).symm)
 | notNil=>exact .truth T.h (decide_eq_decide.2 (not_congr (T.h.eq_iff l4 w4)).symm)
 | self=>exact .look T.h rfl l4
 | isKind =>
  refine .eq T.h ?_ ?_
  ·rw [eofx,eof];split
   ·rfl
   ·rename_i h;rw [T.same12 (hA 0) (hK 0) (Uv h)]
  ·split
   ·exact Bi
   ·exact IS T.h _
 | ivSize=>exact .int T.h ef
 | ivAt =>
  show RelP v (dK s t r ar (cU s.h v r)) (dK s' t r' ar' (cU s'.h v r'));rw [ef];refine .elem T l4 hA hl hW hW' fun hm=>?_;unfold cU at hm ⊢;cases hi:gi v (bV s.h r) with
  | false=>rw [hi] at hm;simp at hm
  | true =>
   obtain ⟨h3,c,l,hx,_⟩:=T.u.inst T.a T.p hr h0 hi;refine ⟨h3,c,l,hx,?_⟩;simp only [if_true];rw [eD h3 hx]
 | copy =>
  show RelP v (if bV s.h r=10∨(bV s.h r=11∧(cq s.h r).1.toNat≠0)∨gi v (bV s.h r)=true then sG s t (bV s.h r) (cq s.h r).2 (dC s.h r (cq s.h r).1.toNat) else ((r,0),s,t))
   (if bV s'.h r'=10∨(bV s'.h r'=11∧(cq s'.h r').1.toNat≠0)∨gi v (bV s'.h r')=true then sG s' t (bV s'.h r') (cq s'.h r').2 (dC s'.h r' (cq s'.h r').1.toNat) else ((r',0),s',t))
  rw [eof,eext];by_cases hc:bV s.h r=10∨(bV s.h r=11∧(cq s.h r).1.toNat≠0)∨gi v (bV s.h r)=true
  ·rw [Ur hc,Ur hc];have h3:aA r=3:=by
    rcases hc with h | h | h
    ·rcases T.u.view T.a hr h0 with ⟨_,e⟩ | ⟨_,e⟩ | ⟨h3,_⟩
     ·omega
     ·omega
     ·exact h3
    ·rcases T.u.view T.a hr h0 with ⟨_,e⟩ | ⟨_,e⟩ | ⟨h3,_⟩
     ·omega
     ·omega
     ·exact h3
    ·exact (T.u.inst T.a T.p hr h0 h).1
   rcases l4 with ⟨a,_⟩ | ⟨_,a',ra⟩
   ·exact absurd h3 a
   obtain ⟨c,f,l,c',l',e1,e2,_,e4,e5,e6⟩:=T.h.rl.ob _ _ ra;rw [eD h3 e1];simp only [Uy];rw [ki h3 e1,e4,ki a' e2];obtain ⟨i,hi⟩:=T.u.pl T.a T.p hr h0;have fm:f=0∨f=1:=by
    obtain ⟨x,hx,_,rfl,_⟩:=bO.1 e1;exact (T.a.ks.wf.h.objs.good x (aD hx).1).fmt
   have may:∀ {s:SP}{k c f:Int}{l:List Int},KAllW s t v->ob s.h k=some (c,f,l)->∀ w∈l,dY f w:=fun {s k c f l} hv hx w hw=>by
    obtain ⟨x,Gt,_,rfl,rfl⟩:=bO.1 hx;exact (hv.ks.wf.h.objs.good x (aD Gt).1).may w hw
   refine .made T hi lj fm (z8 T.a e1) ?_;rcases fm with rfl | rfl
   ·exact AR.words e4 (may T.a e1) (may T.b e2) (e6 rfl)
   ·rw [←e5 rfl];exact AR.bytes (nH T.a e1).1
  ·rw [Uq hc,Uq hc];exact .look T.h rfl l4
 | not=>exact .truth T.h (decide_eq_decide.2 is8.symm)
 | and =>
  show RelP v (if ar.getD 0 0=12 then (tw (decide (r=12)),0) else if ar.getD 0 0=8 then (8,0) else (0,170),s,t) (if ar'.getD 0 0=12 then (tw (decide (r'=12)),0) else if ar'.getD 0 0=8 then (8,0) else (0,170),s',t);by_cases h1:ar.getD 0 0=12
  ·rw [Ur h1,Ur (x12.1 h1)];exact .truth T.h (decide_eq_decide.2 is12.symm)
  ·rw [Uq h1,Uq (fun e=>h1 (x12.2 e))];by_cases h2:ar.getD 0 0=8
   ·rw [Ur h2,Ur (x8.1 h2)];exact .look T.h rfl w8
   ·rw [Uq h2,Uq (fun e=>h2 (x8.2 e))];exact .no T.h
 | or =>
  show RelP v (if ar.getD 0 0=12 then (12,0) else if ar.getD 0 0=8 then (tw (decide (r=12)),0) else (0,170),s,t) (if ar'.getD 0 0=12 then (12,0) else if ar'.getD 0 0=8 then (tw (decide (r'=12)),0) else (0,170),s',t);by_cases h1:ar.getD 0 0=12
  ·rw [Ur h1,Ur (x12.1 h1)];exact .look T.h rfl w12
  ·rw [Uq h1,Uq (fun e=>h1 (x12.2 e))];by_cases h2:ar.getD 0 0=8
   ·rw [Ur h2,Ur (x8.1 h2)];exact .truth T.h (decide_eq_decide.2 is12.symm)
   ·rw [Uq h2,Uq (fun e=>h2 (x8.2 e))];exact .no T.h
 | num f =>
  refine .eq T.h (by rw [←nr.1,←nx.1,←nx.2]) ?_;split
  ·exact Bi
  ·split
   ·exact Bi
   ·exact FT _
 | cmp f =>
  refine .eq T.h (by rw [←nr.1,←nx.1,←nx.2]) ?_;split
  ·exact Bi
  ·exact IS T.h _
 | neg=>exact .int T.h (by rw [nr.1])
 | abs =>
  show RelP v (if dp r<0 then fe (d8 0 (dp r)).1 else (r,0),s,t) (if dp r'<0 then fe (d8 0 (dp r')).1 else (r',0),s',t);rw [←nr.1];by_cases h:dp r<0
  ·rw [Ur h,Ur h];exact .int T.h rfl
  ·rw [Uq h,Uq h];exact .look T.h rfl l4
 | even=>exact .truth T.h (by rw [nr.1])
 | odd=>exact .truth T.h (by rw [nr.1])
 | print =>
  show RelP v (sG s t 10 1 (bL (d7 (dp r)))) (sG s' t 10 1 (bL (d7 (dp r'))));rw [←nr.1];have hsz:=pL (oQ r);exact .made T p10 (by decide) (.inr rfl) (by rw [gz];omega) (AR.bytes (fB _))
 | len=>exact .int T.h (by rw [T.h.text T.a l4 (.inl ho)])
 | asStr =>
  show RelP v (sG s t 10 1 (bL (bG s.h t r))) (sG s' t 10 1 (bL (bG s'.h t r')));rw [T.h.text T.a l4 (.inl ho)];have hsz:(bG s.h t r).size<=8192:=by
   unfold bG;rw [Ur (show aA r=2 from ho)];exact Ux (qP T.a _) (by decide)
  exact .made T p10 (by decide) (.inr rfl) (by rw [gz];exact hsz) (AR.bytes (fB _))
 | symLess =>
  show RelP v (if aA (ar.getD 0 0)≠2 then (0,170) else (tw (rY (bG s.h t r) (bG s.h t (ar.getD 0 0))),0),s,t) (if aA (ar'.getD 0 0)≠2 then (0,170) else (tw (rY (bG s'.h t r') (bG s'.h t (ar'.getD 0 0))),0),s',t);rw [←nx.2];by_cases hk:aA (ar.getD 0 0)=2
  ·rw [Uq (by simpa using hk),Uq (by simpa using hk)];exact .truth T.h (by rw [T.h.text T.a l4 (.inl ho),T.h.text T.a (hA 0) (.inl hk)])
  ·rw [Ur hk,Ur hk];exact .no T.h
 | size=>exact .int T.h (by rw [eext])
 | empty=>exact .truth T.h (by rw [eext])
 | byteAt =>
  obtain ⟨h3,s5,ra,l,c',hx,Gt⟩:=T.str l4 ho;refine .eq T.h ?_ ?_
  ·unfold oa;rw [eext,rQ _ (hA 0)];split
   ·rfl
   ·rename_i h;obtain ⟨i0,i1⟩:=i8 (Uv h);rw [eD h3 hx] at i1 ⊢;simp only at i1 ⊢;rw [eD h3 hx] at i0;rw [gF s5 Gt i0 i1,gF h3 hx i0 i1]
  ·unfold oa;split
   ·exact Bi
   ·exact FT _
 | bytePut =>
  obtain ⟨h3,s5,ra,l,c',hx,Gt⟩:=T.str l4 ho;show RelP v (if aA (ar.getD 0 0)≠1∨aA (ar.getD 1 0)≠1∨ar.getD 1 0 / 2<0∨255<ar.getD 1 0 / 2 then ((0,170),s,t) else if (aV (cq s.h r).1 (ar.getD 0 0)).2≠0 then ((0,(aV (cq s.h r).1 (ar.getD 0 0)).2),s,t)
   else ((ar.getD 1 0,(s.putW r (aV (cq s.h r).1 (ar.getD 0 0)).1 (ar.getD 1 0 / 2)).1),(s.putW r (aV (cq s.h r).1 (ar.getD 0 0)).1 (ar.getD 1 0 / 2)).2,t))
   (if aA (ar'.getD 0 0)≠1∨aA (ar'.getD 1 0)≠1∨ar'.getD 1 0 / 2<0∨255<ar'.getD 1 0 / 2 then ((0,170),s',t) else if (aV (cq s'.h r').1 (ar'.getD 0 0)).2≠0 then ((0,(aV (cq s'.h r').1 (ar'.getD 0 0)).2),s',t)
   else ((ar'.getD 1 0,(s'.putW r' (aV (cq s'.h r').1 (ar'.getD 0 0)).1 (ar'.getD 1 0 / 2)).1),(s'.putW r' (aV (cq s'.h r').1 (ar'.getD 0 0)).1 (ar'.getD 1 0 / 2)).2,t))
  have ny:=WR.num (hA 1);by_cases hk:aA (ar.getD 0 0)=1∧aA (ar.getD 1 0)=1
  ·rw [one (hA 0) hk.1,one (hA 1) hk.2,eext];by_cases hc:aA (ar.getD 0 0)≠1∨aA (ar.getD 1 0)≠1∨ar.getD 1 0 / 2<0∨255<ar.getD 1 0 / 2
   ·rw [Ur hc,Ur hc];exact .no T.h
   ·rw [Uq hc,Uq hc];by_cases hi:(aV (cq s.h r).1 (ar.getD 0 0)).2=0
    ·rw [Uq (by simpa using hi),Uq (by simpa using hi)];obtain ⟨i0,i1⟩:=i8 hi;have e1:(cq s.h r).1=(l.length:Int):=by rw [eD h3 hx]
     rw [e1] at i0 i1 ⊢;generalize (aV (l.length:Int) (ar.getD 0 0)).1=i at i0 i1 ⊢;simp only [Vt] at hc;obtain ⟨er,r1,r2⟩:=bX h3;obtain ⟨er',r1',r2'⟩:=bX s5;have eo:jN r=r / 4:=by have:=dP r1 r2;rwa [←er] at this
     have eo':jN r'=r' / 4:=by have:=dP r1' r2';rwa [←er'] at this
     have m:dY 1 (ar.getD 1 0 / 2):=by unfold dY;rw [Ur rfl];omega
     have p1:=jw hx (i:=i) ⟨i0,i1⟩ m;have p2:=jw Gt (i:=i) ⟨i0,i1⟩ m;have hS:=T.h.put ra hx Gt (i:=i) ⟨i0,i1⟩ m m (fun _=>rfl) fun h=>absurd h (by decide);have q1:s.putW r i (ar.getD 1 0 / 2)=(0,{ s with h:=(s.h.put (r / 4) i (ar.getD 1 0 / 2)).2 }):=by unfold SP.putW;rw [eo,p1.1]
     have q2:s'.putW r' i (ar.getD 1 0 / 2)=(0,{ s' with h:=(s'.h.put (r' / 4) i (ar.getD 1 0 / 2)).2 }):=by unfold SP.putW;rw [eo',p2.1]
     rw [q1,q2];exact ⟨rfl,rfl,ρ,hS,WR.small (by show aA (ar.getD 1 0)≠3;omega)⟩
    ·rw [Ur hi,Ur hi];exact .no T.h
  ·rw [Ur (by omega),Ur (by omega)];exact .no T.h
 | join =>
  show RelP v (if bV s.h (ar.getD 0 0)≠10 then ((0,170),s,t) else if 8192<(bG s.h t r).size+(bG s.h t (ar.getD 0 0)).size then ((0,170),s,t) else sG s t 10 1 (bL (bG s.h t r++bG s.h t (ar.getD 0 0))))
   (if bV s'.h (ar'.getD 0 0)≠10 then ((0,170),s',t) else if 8192<(bG s'.h t r').size+(bG s'.h t (ar'.getD 0 0)).size then ((0,170),s',t) else sG s' t 10 1 (bL (bG s'.h t r'++bG s'.h t (ar'.getD 0 0))))
  rw [eofx];by_cases dc:bV s.h (ar.getD 0 0)=10
  ·have Le:¬ bV s.h (ar.getD 0 0)≠10:=fun h=>h dc;rw [Uq Le,Uq Le,T.h.text T.a l4 (.inr ho),T.h.text T.a (hA 0) (.inr (qi T.u T.a T.p (hK 0) dc))];by_cases hb:8192<(bG s.h t r).size+(bG s.h t (ar.getD 0 0)).size
   ·rw [Ur hb,Ur hb];exact .no T.h
   ·rw [Uq hb,Uq hb];exact .made T p10 (by decide) (.inr rfl) (by rw [gz,WA];omega) (AR.bytes (fB _))
  ·rw [Ur dc,Ur dc];exact .no T.h
 | eq =>
  refine .truth T.h ?_;rw [eofx];by_cases dc:bV s.h (ar.getD 0 0)=10
  ·rw [T.h.text T.a l4 (.inr ho),T.h.text T.a (hA 0) (.inr (qi T.u T.a T.p (hK 0) dc))]
  ·rw [Vz dc,WL,WL]
 | less =>
  show RelP v (if bV s.h (ar.getD 0 0)≠10 then (0,170) else (tw (rY (bG s.h t r) (bG s.h t (ar.getD 0 0))),0),s,t) (if bV s'.h (ar'.getD 0 0)≠10 then (0,170) else (tw (rY (bG s'.h t r') (bG s'.h t (ar'.getD 0 0))),0),s',t);rw [eofx];by_cases dc:bV s.h (ar.getD 0 0)=10
  ·have Le:¬ bV s.h (ar.getD 0 0)≠10:=fun h=>h dc;rw [Uq Le,Uq Le];exact .truth T.h (by rw [T.h.text T.a l4 (.inr ho),T.h.text T.a (hA 0) (.inr (qi T.u T.a T.p (hK 0) dc))])
  ·rw [Ur dc,Ur dc];exact .no T.h
 | asSym =>
  show RelP v (if (bG s.h t r).size<1∨96<(bG s.h t r).size then ((0,170),s,t) else (if (t.add (bG s.h t r)).1.2≠0 then (0,(t.add (bG s.h t r)).1.2) else (4*(t.add (bG s.h t r)).1.1+2,0),s,(t.add (bG s.h t r)).2))
   (if (bG s'.h t r').size<1∨96<(bG s'.h t r').size then ((0,170),s',t) else (if (t.add (bG s'.h t r')).1.2≠0 then (0,(t.add (bG s'.h t r')).1.2) else (4*(t.add (bG s'.h t r')).1.1+2,0),s',(t.add (bG s'.h t r')).2))
  rw [T.h.text T.a l4 (.inr ho)];by_cases hc:(bG s.h t r).size<1∨96<(bG s.h t r).size
  ·rw [Ur hc,Ur hc];exact .no T.h
  ·rw [Uq hc,Uq hc];refine ⟨rfl,rfl,ρ,T.h,WR.small ?_⟩;show aA (if (t.add (bG s.h t r)).1.2≠0 then (0,(t.add (bG s.h t r)).1.2) else (4*(t.add (bG s.h t r)).1.1+2,0)).1≠3;split
   ·show aA 0≠3;decide
   ·show aA (4*(t.add (bG s.h t r)).1.1+2)≠3
    have:=bl (4*(t.add (bG s.h t r)).1.1+2);omega
 | «at» =>
  have nb:bV s.h r=11:=ho;show RelP v (dK s t r ar (cq s.h r).1) (dK s' t r' ar' (cq s'.h r').1);rw [eext];refine .elem T l4 hA hl hW hW' fun hm=>?_;rcases T.u.view T.a hr h0 with ⟨_,e⟩ | ⟨_,e⟩ | ⟨h3,c,f,l,hx,kv,e,hc⟩
  ·omega
  ·omega
  ·rw [eD h3 hx] at hm ⊢;rcases hc with (rfl | rfl | rfl) | ⟨_,rfl,JV⟩ | ⟨rfl,_⟩ | ⟨hG,⟨_,rfl⟩ | ⟨rfl,_,hl⟩⟩
   ·omega
   ·omega
   ·omega
   ·rw [JV] at hm;simp at hm
   ·omega
   ·omega
   ·exact ⟨h3,c,l,hx,rfl⟩
 | fresh =>
  have k9:bV s.h r=12:=ho;have e:=T.same12 l4 hr k9;subst e;simp only [ch];split
  ·exact .no T.h
  ·split
   ·exact .no T.h
   ·exact new k9 (.inl rfl) (by omega)
 | sized =>
  have k9:bV s.h r=12:=ho;have e:=T.same12 l4 hr k9;subst e;show RelP v (if (r' / 4≠10∧r' / 4≠11)∨aA (ar.getD 0 0)≠1∨ar.getD 0 0 / 2<0∨8192<ar.getD 0 0 / 2 then ((0,170),s,t) else if r' / 4=10 then kg s t r' (ar.getD 0 0 / 2) 1 else if ar.getD 0 0 / 2=0 then ((72,0),s,t) else kg s t r' (ar.getD 0 0 / 2) 0)
   (if (r' / 4≠10∧r' / 4≠11)∨aA (ar'.getD 0 0)≠1∨ar'.getD 0 0 / 2<0∨8192<ar'.getD 0 0 / 2 then ((0,170),s',t) else if r' / 4=10 then kg s' t r' (ar'.getD 0 0 / 2) 1 else if ar'.getD 0 0 / 2=0 then ((72,0),s',t) else kg s' t r' (ar'.getD 0 0 / 2) 0)
  by_cases hk:aA (ar.getD 0 0)=1
  ·rw [one (hA 0) hk];by_cases hc:(r' / 4≠10∧r' / 4≠11)∨aA (ar.getD 0 0)≠1∨ar.getD 0 0 / 2<0∨8192<ar.getD 0 0 / 2
   ·rw [Ur hc,Ur hc];exact .no T.h
   ·rw [Uq hc,Uq hc];by_cases dc:r' / 4=10
    ·rw [Ur dc,Ur dc];exact new k9 (.inr rfl) (by omega)
    ·rw [Uq dc,Uq dc];by_cases hz:ar.getD 0 0 / 2=0
     ·rw [Ur hz,Ur hz];exact .look T.h rfl w72
     ·rw [Uq hz,Uq hz];exact new k9 (.inl rfl) (by omega)
  ·rw [Ur (.inr (.inl hk)),Ur (.inr (.inl (by omega)))];exact .no T.h
 | slot i =>
  obtain ⟨k9,MQ⟩:=(show bV s.h r=12∧(i=0∨i=1) from ho);obtain ⟨h3,j,hj,ej,hx⟩:=T.u.cls12 T.a T.p hr k9;exact .look T.h rfl (T.h.slot l4 h3 hx (by omega) (by simp only [CV.slots,US,Vi];omega))
end
end
def xR (n:Nat):Prop:=(97<=n∧n<=122)∨(65<=n∧n<=90)
instance (n:Nat):Decidable (xR n):=inferInstanceAs (Decidable (_∨_))
def Fn (s:ByteArray):Prop:=1<=s.size∧s.size<=32∧xR (gB s 0)∧∀ i,i<s.size->eS (gB s i)
noncomputable instance (s:ByteArray):Decidable (Fn s):=Classical.propDecidable _
section
variable {H:ag}{Q:QT}
end
section
attribute [local irreducible] ba bQ bS eX d8 fx fu fo fA lz fj cE cG
theorem sI {r:RH}{w:Int} (h:bV r w≠0):cP w:=by
 obtain ⟨a,b,c⟩:=gO (r:=r) (w:=w);exact fun hk=>h (c hk)
section
variable {H:ag}{b:Nat}{F:aR}{s:SP}{t:TB}{v:KV}{Gw:Int->Prop}{G:Int->Prop}{Q:QT}{r x y:Int}{ar:List Int}{n:Int}{p:PF}{sel:ByteArray}
end
end
def su (c:Int):List ByteArray :=
 if c=4 then [⟨#[61]⟩,⟨#[61,61]⟩,⟨#[99,108,97,115,115]⟩,⟨#[99,111,112,121]⟩,⟨#[105,110,115,116,86,97,114,65,116,58]⟩,⟨#[105,110,115,116,86,97,114,65,116,58,112,117,116,58]⟩,⟨#[105,110,115,116,86,97,114,83,105,122,101]⟩,⟨#[105,115,75,105,110,100,79,102,58]⟩,⟨#[105,115,78,105,108]⟩,⟨#[110,111,116,78,105,108]⟩,⟨#[121,111,117,114,115,101,108,102]⟩,⟨#[126,126]⟩] else
 if c=6∨c=7 then [⟨#[38]⟩,⟨#[97,110,100,58]⟩,⟨#[110,111,116]⟩,⟨#[111,114,58]⟩] else
 if c=8 then [⟨#[42]⟩,⟨#[43]⟩,⟨#[45]⟩,⟨#[47,47]⟩,⟨#[60]⟩,⟨#[60,61]⟩,⟨#[61]⟩,⟨#[62]⟩,⟨#[62,61]⟩,⟨#[92,92]⟩,⟨#[97,98,115]⟩,⟨#[98,105,116,65,110,100,58]⟩,⟨#[98,105,116,79,114,58]⟩,⟨#[98,105,116,83,104,105,102,116,58]⟩,⟨#[98,105,116,88,111,114,58]⟩,⟨#[101,118,101,110]⟩,⟨#[109,97,120,58]⟩,⟨#[109,105,110,58]⟩,⟨#[110,101,103,97,116,101,100]⟩,⟨#[111,100,100]⟩,⟨#[112,114,105,110,116,83,116,114,105,110,103]⟩,⟨#[126,61]⟩] else
 if c=9 then [⟨#[60]⟩,⟨#[97,115,83,116,114,105,110,103]⟩,⟨#[115,105,122,101]⟩] else
 if c=10 then [⟨#[44]⟩,⟨#[60]⟩,⟨#[61]⟩,⟨#[97,115,83,121,109,98,111,108]⟩,⟨#[97,116,58]⟩,⟨#[97,116,58,112,117,116,58]⟩,⟨#[105,115,69,109,112,116,121]⟩,⟨#[115,105,122,101]⟩] else
 if c=11 then [⟨#[97,116,58]⟩,⟨#[97,116,58,112,117,116,58]⟩,⟨#[105,115,69,109,112,116,121]⟩,⟨#[115,105,122,101]⟩] else
 if c=12 then [⟨#[110,97,109,101]⟩,⟨#[110,101,119]⟩,⟨#[110,101,119,58]⟩,⟨#[115,117,112,101,114,99,108,97,115,115]⟩] else
 if c=14 then [⟨#[110,117,109,65,114,103,115]⟩] else
 if c=17 then [⟨#[97,114,103,117,109,101,110,116,115]⟩,⟨#[115,101,108,101,99,116,111,114]⟩] else
 []
section
variable {H:ag}{Q:QT}
end
section
variable {H:ag}{Q:QT}
end
theorem B8 {Ha Hb:ag}{Da Db:aR}{o:Obj} (u:Up Da (Ha.push o) Db Hb):Up Da Ha Db Hb:=by
 have fp:=Fr.push [] Ha o;exact ⟨⟨Ux fp.1 u.1.1,fun z hz hn=>by rw [u.1.2 z (UJ hz fp.1) hn,fp.2 z hz (by simp)]⟩,fun z hz=>(u.2 z hz).imp id fun h=>Ux fp.1 h⟩
section
variable {H:ag}{db:Nat}{D:aR}{s:SP}{t:TB}{v:KV}{ws:List Int}{N:Nat}{Q:QT}{r:Int}
end
section
attribute [local irreducible] eX d8 fx fu fo fA lz fj cE cG
theorem DK.fr {H H':ag}{db:Nat}{D X:aR}{s:SP}{t:TB}{ws:List Int} (h:DK H db D s t ws) (hf:Fr X H H') (hd:∀ x∈D,x∉X) (hg:aS∉X) (hp:gP∉X):DK H' db D s t ws:=by
 obtain ⟨b,F,a,l,c,G,rfl,hB,hO,hK,h1,h2,h3,h4,h5,h6⟩:=h;exact ⟨b,F,a,l,c,G,rfl,hB.fr hf (hd _ (by simp)),hO.fr hf (fun x hx=>hd x (by simp [hx])),hK.fr hf (fun x hx=>hd x (by simp [hx])) hg,h1,h2,h3,h4,h5,h6.fr hf hp⟩
theorem Aj {H0 H H':ag}{X:aR} (f:Fr [] H0 H) (g:Fr X H H') (hx:∀ x∈X,H0.size<=x):Fr [] H0 H' :=
 ⟨Ux f.1 g.1,fun y hy _=>by rw [g.2 y (UJ hy f.1) (fun hm=>by have:=hx y hm;omega),f.2 y hy (by simp)]⟩
section
variable {H0 H H':ag}{db:Nat}{D D' X:aR}{s s':SP}{t t':TB}{v:KV}{ws ws':List Int}{N N':Nat}
end
end
section
attribute [local irreducible] ba bQ bS
theorem Il {l:Nat} (hl:l<20000000000000):∀ c,c<l+1->Builtin.nextslicecap (l+1) c*8<=281474976710656:=fun c hc=>by
 have:=mT (need:=l+1) (c:=c) hc;omega
section
variable {H:ag}{Q:QT}
variable {db:Nat}{D:aR}{s:SP}{t:TB}{ws:List Int}
end
section
variable {H H1 H2:ag}{Q:QT}{db:Nat}{D:aR}{s:SP}{t:TB}{ws:List Int}{v:KV}
theorem DK.kern (hD:DK H db D s t ws):∃ b F,aq H ⟨db,0,none⟩=some (Kj b)∧PK H b F s t∧(∀ x∈F,x∈D)∧gL H∧∀ H' F' s' t',PK H' b F' s' t'->Up F H F' H'->∃ D',DK H' db D' s' t' ws∧Up D H D' H':=by
 have aa:=hD.lt;obtain ⟨b,F,a,l,c,G,rfl,hB,hO,hK,d1,d2,d3,d4,d5,d6⟩:=hD;have KQ:=d6.lt;have LB:=hK.kinds.lt;simp only [Us,Uz,Vt] at d4 d5;refine ⟨b,F,hB.cell 0,hK,fun x hx=>by simp [hx],d6,fun H' F' s' t' lc u=>⟨db :: (G++F'),⟨b,F',a,l,c,G,rfl,hB.fr u.1 d1,hO.fr u.1 d3,lc,fun hm=>?_,d2,fun x hx hm=>?_,?_,?_,d6.fr u.1 d5.2.2⟩,u.1.mono fun y hy=>by simp [hy],fun y hy=>?_⟩⟩
 ·rcases u.2 db hm with h1 | h1
  ·exact d1 h1
  ·have:=aa db (by simp);omega
 ·rcases u.2 x hm with h1 | h1
  ·exact d3 x hx h1
  ·have:=aa x (by simp [hx]);omega
 ·simp only [Us,Uz,Vt];refine ⟨d4.1,d4.2.1,fun hm=>?_⟩;rcases u.2 _ hm with h1 | h1
  ·exact d4.2.2 h1
  ·omega
 ·simp only [Us,Uz,Vt];refine ⟨d5.1,d5.2.1,fun hm=>?_⟩;rcases u.2 _ hm with h1 | h1
  ·exact d5.2.2 h1
  ·omega
 ·simp only [Us,Uz] at hy ⊢;rcases hy with rfl | hy | hy
  ·exact .inl (.inl rfl)
  ·exact .inl (.inr (.inl hy))
  ·exact (u.2 y hy).imp (fun h1=>.inr (.inr h1)) id
theorem DK.list (hD:DK H db D s t ws):∃ a c G,aq H ⟨db,1,none⟩=some (.slice a ws.length c)∧cZ 1 H a ws.length c (av ws) G∧∀ x∈G,x∈D:=by
 obtain ⟨b,F,a,l,c,G,rfl,hB,hO,hK,d1,d2,d3,d4,d5,d6⟩:=hD;have Nb:ws.length=l:=by have:=hO.len;simpa [av] using this
 subst Nb;exact ⟨a,c,G,hB.cell 1,hO,fun x hx=>by simp [hx]⟩
theorem nI {k:Nat}{H:ag}{a:Option Addr}{l c:Nat}{xs:List Value}{G:aR} (h:cZ k H a l c xs G):∀ p,a=some p->p.block∈G:=fun p hp=>by
 rcases h.2.2 with ⟨rfl,_⟩ | ⟨b,cs,rfl,rfl,_⟩
 ·cases hp
 ·cases hp;simp
end
structure StepP where
 kind:Int
 cls:Int
 sel:ByteArray
 r:Int
 args:List Int
 word:Int
def StepP.vals (x:StepP) (a:Option Addr) (l c:Nat):List Value:=[ac x.kind,ac x.cls,.string x.sel,ac x.r,.slice a l c,ac x.word]
section
variable {H H1 H2:ag}{Q:QT}{db:Nat}{D:aR}{s s':SP}{t t':TB}{v:KV}
end
theorem EU {H H':ag} (hf:Fr [] H H'){a:Addr}{v:Value} (h:aq H a=some v):aq H' a=some v:=by
 have hb:a.block<H.size:=by
  unfold aq at h;rcases Vp a.block H.size with h1 | h1
  ·exact h1
  ·rw [Ve h1] at h;cases h
 unfold aq at h ⊢;rw [hf.2 _ hb (by simp)];exact h
section
variable {H:ag}{Q:QT}{db:Nat}{D:aR}{s:SP}{t:TB}{v:KV}
end
end
section
variable {H:ag}{b:Nat}{cs:Array Value}{v0 v1 v2 v3 v4 v5 v6:Value}
theorem fR (h:bH H b cs) (j:Nat) (v:Value):bH (bc H ((⟨b,0,none⟩:Addr).add j) v) b (cs.setIfInBounds j v):=by rw [aC,UE];exact h.set j v
theorem mA (h:bH H b cs){j:Nat} (hj:j<cs.size):Wr H ((⟨b,0,none⟩:Addr).add j):=by rw [aC,UE];exact h.wr hj
theorem lJ (j:Nat) (v:Value):Fr [b] H (bc H ((⟨b,0,none⟩:Addr).add j) v):=by rw [aC];exact Fr.set (by simp)
def ES (H:ag) (b:Nat) (v0 v1 v2 v3:Value):ag:=bc (bc (bc (bc H (⟨b,0,none⟩:Addr) v0) ((⟨b,0,none⟩:Addr).add 1) v1) ((⟨b,0,none⟩:Addr).add 2) v2) ((⟨b,0,none⟩:Addr).add 3) v3
def tS (H:ag) (b:Nat) (v0 v1 v2 v3 v4 v5:Value):ag:=bc (bc (ES H b v0 v1 v2 v3) ((⟨b,0,none⟩:Addr).add 4) v4) ((⟨b,0,none⟩:Addr).add 5) v5
theorem yb:bc (bc (bc (bc (bc (bc H (⟨b,0,none⟩:Addr) v0) ((⟨b,0,none⟩:Addr).add 1) v1) ((⟨b,0,none⟩:Addr).add 2) v2) ((⟨b,0,none⟩:Addr).add 3) v3) ((⟨b,0,none⟩:Addr).add 4) v4) ((⟨b,0,none⟩:Addr).add 5) v5=tS H b v0 v1 v2 v3 v4 v5:=rfl
theorem Kv {R:Prop} (hB:bH H b cs) (hs:cs.size=6) (hR:R):Wr H (⟨b,0,none⟩:Addr)∧Wr (bc H (⟨b,0,none⟩:Addr) v0) ((⟨b,0,none⟩:Addr).add 1)∧Wr (bc (bc H (⟨b,0,none⟩:Addr) v0) ((⟨b,0,none⟩:Addr).add 1) v1) ((⟨b,0,none⟩:Addr).add 2) ∧
  Wr (bc (bc (bc H (⟨b,0,none⟩:Addr) v0) ((⟨b,0,none⟩:Addr).add 1) v1) ((⟨b,0,none⟩:Addr).add 2) v2) ((⟨b,0,none⟩:Addr).add 3) ∧
  Wr (bc (bc (bc (bc H (⟨b,0,none⟩:Addr) v0) ((⟨b,0,none⟩:Addr).add 1) v1) ((⟨b,0,none⟩:Addr).add 2) v2) ((⟨b,0,none⟩:Addr).add 3) v3) ((⟨b,0,none⟩:Addr).add 4) ∧
  Wr (bc (bc (bc (bc (bc H (⟨b,0,none⟩:Addr) v0) ((⟨b,0,none⟩:Addr).add 1) v1) ((⟨b,0,none⟩:Addr).add 2) v2) ((⟨b,0,none⟩:Addr).add 3) v3) ((⟨b,0,none⟩:Addr).add 4) v4) ((⟨b,0,none⟩:Addr).add 5)∧R:=by
 have h0:=hB.set 0 v0;have h1:=fR h0 1 v1;have h2:=fR h1 2 v2;have h3:=fR h2 3 v3;have h4:=fR h3 4 v4;exact ⟨hB.wr (by omega),mA h0 (by simp;omega),mA h1 (by simp;omega),mA h2 (by simp;omega),mA h3 (by simp;omega),mA h4 (by simp;omega),hR⟩
theorem zV:Fr [b] H (ES H b v0 v1 v2 v3):=(((Fr.set (by simp)).trans (lJ 1 v1)).trans (lJ 2 v2)).trans (lJ 3 v3)
theorem Ao:Fr [b] H (tS H b v0 v1 v2 v3 v4 v5):=(zV.trans (lJ 4 v4)).trans (lJ 5 v5)
theorem yV (hB:bH H b cs) (hs:cs.size=6):bH (tS H b v0 v1 v2 v3 v4 v5) b #[v0,v1,v2,v3,v4,v5]:=by
 have e:((((((cs.setIfInBounds 0 v0).setIfInBounds 1 v1).setIfInBounds 2 v2).setIfInBounds 3 v3).setIfInBounds 4 v4).setIfInBounds 5 v5)=#[v0,v1,v2,v3,v4,v5]:=by
  obtain ⟨l⟩:=cs
  match l,hs with
  | [_,_,_,_,_,_],_=>rfl
 rw [←e];exact fR (fR (fR (fR (fR (hB.set 0 v0) 1 v1) 2 v2) 3 v3) 4 v4) 5 v5
end
section
attribute [local irreducible] ba bQ bS
def StepP.ok (H:ag) (x:StepP) (a:Option Addr) (l c:Nat):Prop:=Rd 1 H a l (av x.args)∧l<=18000000000000
def sU (H:ag) (p:Addr) (x:StepP):Prop:=∃ a l c,(∀ j v,(x.vals a l c)[j]?=some v->aq H (p.add j)=some v)∧x.ok H a l c
def jf (H:ag) (a:Option Addr) (n:Nat) (xs:List StepP):Prop:=xs.length=n∧∀ i x,xs[i]?=some x->∃ p,a=some p∧sU H (p.add (i*6)) x
theorem jf.fr {H H':ag} (hf:Fr [] H H'){a:Option Addr}{n:Nat}{xs:List StepP} (h:jf H a n xs):jf H' a n xs :=
 ⟨h.1,fun i x hx=>by
  obtain ⟨p,hp,a',l,c,h1,h2,h3⟩:=h.2 i x hx;exact ⟨p,hp,a',l,c,fun j v hv=>EU hf (h1 j v hv),Rd.nilF h2 hf,h3⟩⟩
section
variable {H H1 H4:ag}{Q:QT}{db:Nat}{D:aR}{s:SP}{t:TB}{v:KV}
end
end
section
attribute [local irreducible] ba bQ bS eX d8 fx fu fo fA lz fj cE cG d7 su
section
variable {s:SP}{t:TB}{v:KV}{Gw:Int->Prop}{r:Int}{ar:List Int}{k:Int}{sel:ByteArray}
theorem zJ (hU:UW s v Gw) (hv:KAllW s t v) (hp:PairV v) (hR:gZ v) (hZ:∀ w∈r :: ar,bV s.h w≠0->WK v Gw w):PL s t v Gw (jk s t v k sel r ar):=by
 by_cases q6:tP s k sel r ar
 ·by_cases An:fc v k (bV s.h r)=true∧dz s.h k r=true
  ·obtain ⟨n,p,he,LH,hn,lj⟩:=q6;rw [oG he LH hn lj An.1 An.2];have hmem:=pK he;have Lu:=lj r (by simp);have O6:=hZ r (by simp) Lu;have Lb:∀ w∈ar,cP w∧WK v Gw w:=fun w hw=>⟨sI (lj w (by simp [hw])),hZ w (by simp [hw]) (lj w (by simp [hw]))⟩;obtain ⟨q8,q9,q10,q11,q12,q14,q17⟩:=sy hU hv hp O6 Lu An.1;refine GW hU hv hp hR O6 Lu Lb ?_;unfold ko at hmem;split at hmem
   ·simp only [rf,Us,Prod.mk.injEq,UO,U5] at hmem;rcases hmem with ⟨rfl,rfl,rfl⟩ | ⟨rfl,rfl,rfl⟩ | ⟨rfl,rfl,rfl⟩ | ⟨rfl,rfl,rfl⟩ | ⟨rfl,rfl,rfl⟩ | ⟨rfl,rfl,rfl⟩ | ⟨rfl,rfl,rfl⟩ | ⟨rfl,rfl,rfl⟩ | ⟨rfl,rfl,rfl⟩ | ⟨rfl,rfl,rfl⟩ | ⟨rfl,rfl,rfl⟩ | ⟨rfl,rfl,rfl⟩
    all_goals exact trivial
   split at hmem
   ·simp only [pd,Us,Prod.mk.injEq,UO,U5] at hmem;rcases hmem with ⟨rfl,rfl,rfl⟩ | ⟨rfl,rfl,rfl⟩ | ⟨rfl,rfl,rfl⟩ | ⟨rfl,rfl,rfl⟩
    all_goals exact trivial
   split at hmem
   ·simp only [rn,Us,Prod.mk.injEq,UO,U5] at hmem;rcases hmem with ⟨rfl,h1,rfl⟩ | ⟨rfl,h1,rfl⟩ | ⟨rfl,h1,rfl⟩ | ⟨rfl,h1,rfl⟩ | ⟨rfl,h1,rfl⟩ | ⟨rfl,h1,rfl⟩ | ⟨rfl,h1,rfl⟩ | ⟨rfl,h1,rfl⟩ | ⟨rfl,h1,rfl⟩ | ⟨rfl,h1,rfl⟩ | ⟨rfl,h1,rfl⟩ | ⟨rfl,h1,rfl⟩ | ⟨rfl,h1,rfl⟩ | ⟨rfl,h1,rfl⟩ | ⟨rfl,h1,rfl⟩ | ⟨rfl,h1,rfl⟩ | ⟨rfl,h1,rfl⟩ | ⟨rfl,h1,rfl⟩ | ⟨rfl,h1,rfl⟩ | ⟨rfl,h1,rfl⟩ | ⟨rfl,h1,rfl⟩ | ⟨rfl,h1,rfl⟩
    all_goals exact trivial
   split at hmem
   ·simp only [rD,Us,Prod.mk.injEq,UO,U5] at hmem;rcases hmem with ⟨rfl,rfl,rfl⟩ | ⟨rfl,rfl,rfl⟩ | ⟨rfl,rfl,rfl⟩
    all_goals exact trivial
   split at hmem
   ·rename_i e;have hs:=q10 e;simp only [mU,Us,Prod.mk.injEq,UO,U5] at hmem;rcases hmem with ⟨rfl,rfl,rfl⟩ | ⟨rfl,rfl,rfl⟩ | ⟨rfl,rfl,rfl⟩ | ⟨rfl,rfl,rfl⟩ | ⟨rfl,rfl,rfl⟩ | ⟨rfl,rfl,rfl⟩ | ⟨rfl,rfl,rfl⟩ | ⟨rfl,rfl,rfl⟩
    all_goals first | exact trivial | exact hs
   split at hmem
   ·rename_i e;have nb:=q11 e;simp only [nl,Us,Prod.mk.injEq,UO,U5] at hmem;rcases hmem with ⟨rfl,rfl,rfl⟩ | ⟨rfl,rfl,rfl⟩ | ⟨rfl,rfl,rfl⟩ | ⟨rfl,rfl,rfl⟩
    all_goals first | exact trivial | exact nb
   split at hmem
   ·rename_i e;have k9:bV s.h r=12:=by
     have p12:=hp.pl.2.2.2.2.2.2.2.2.1
     have:=nD hp (k:=k) (by omega) (by rw [e];exact p12) (by decide) An.1;omega
    simp only [mZ,Us,Prod.mk.injEq,UO,U5] at hmem;rcases hmem with ⟨rfl,rfl,rfl⟩ | ⟨rfl,rfl,rfl⟩ | ⟨rfl,rfl,rfl⟩ | ⟨rfl,rfl,rfl⟩
    all_goals first | exact k9 | exact ⟨k9,.inl rfl⟩ | exact ⟨k9,.inr rfl⟩
   first
    | cases hmem
    | (rw [Uq q14,Uq q17] at hmem;cases hmem)
  ·have e:jk s t v k sel r ar=((0,170),s,t):=by unfold jk;rw [Ur q6,Uq An]
   rw [e];exact .look hU hv fun h=>by cases h
 ·have e:jk s t v k sel r ar=((0,1),s,t):=by unfold jk;rw [Uq q6]
  rw [e];exact .look hU hv fun h=>by cases h
theorem UW.of_h {s':SP} (h:UW s v Gw) (e:s'.h=s.h):UW s' v Gw:=by
 refine ⟨?_,h.gm,?_,?_⟩
 ·rw [e];exact h.base
 ·rw [e];exact h.ni
 ·rw [e];exact h.own
end
structure PSt where
 bp:Nat
 br:Nat
 Fp:aR
 Fq:aR
 Ga:aR
 Gf:aR
 s:SP
 t:TB
 v:KV
 Gw:Int->Prop
 aw:Option Addr
 lw:Nat
 cw:Nat
 ws:List Int
 af:Option Addr
 lf:Nat
 cf:Nat
 fs:List Int
section
variable {H0 H H1 H2:ag}{pb:Nat}{x:PSt}{Q:QT}
end
end
section
attribute [local irreducible] ba bQ bS eX d8 fx fu fo fA lz fj cE cG d7
section
variable {s s':SP}{t:TB}{v:KV}{Gw Gw':Int->Prop}{ρ:Int->Int->Prop}{r r' k:Int}{ar ar':List Int}{sel:ByteArray}
theorem iI {P:Prop} (h:(170:Int)=0):P:=absurd h (by decide)
theorem jB {n:Int} (h:(fe n).2=0):cP (fe n).1:=by
 by_cases hr:-1073741824<=n∧n<=1073741823
 ·rw [CS hr];show aA (2*n+1)≠0;rw [mg hr];decide
 ·unfold fe at h;rw [Uq hr] at h;exact absurd (show (1:Int)=0 from h) (by decide)
theorem eQ (z:Bool):cP (tw z):=by
 cases z
 ·exact cH (o:=2) (by decide) (by decide)
 ·exact cH (o:=3) (by decide) (by decide)
theorem xr (hv:KAllW s t v){c:Int}{l:List Int} (hx:ob s.h k=some (c,0,l)):∀ w∈l,cP w:=fun w hw=>by
 obtain ⟨x,Gt,_,hf,rfl⟩:=bO.1 hx
 have:=(hv.ks.wf.h.objs.good x (aD Gt).1).may w hw;unfold dY at this;rw [Uq (by omega)] at this;exact this
theorem mo (hv:KAllW s t v){c f:Int}{xs:List Int} (kv:aA (4*c)=3) (h:(s.makeP c f xs).1.2=0):cP (s.makeP c f xs).1.1:=by
 have A:=(jC hv kv (xs.length:Int) f).1;unfold SP.makeP at h ⊢;by_cases he:(s.alloc (4*c) xs.length f).1.2=0
 ·have Jp:¬ (s.alloc (4*c) xs.length f).1.2≠0:=fun h=>h he;rw [Uq Jp] at h ⊢;obtain ⟨o,e,o1,o2,_⟩:=A.good he;show cP (if ((s.alloc (4*c) xs.length f).2.layE (s.alloc (4*c) xs.length f).1.1 0 xs).1=0 then (s.alloc (4*c) xs.length f).1.1 else 0);rw [Ur h,e];exact cH o1 o2
 ·rw [Ur he] at h;exact absurd h he
theorem tp (hv:KAllW s t v){c n f:Int} (kv:aA c=3) (h:(kg s t c n f).1.2=0):cP (kg s t c n f).1.1:=by
 have A:=(jC hv kv n f).1;unfold kg vQ at h ⊢;have he:(s.alloc c n f).1.2=0:=h;show cP (if (s.alloc c n f).1.2=0 then (s.alloc c n f).1.1 else 0);obtain ⟨o,e,o1,o2,_⟩:=A.good he;rw [Ur he,e];exact cH o1 o2
theorem uY (hv:KAllW s t v) (hW:∀ i,i<ar.length->cP (ar.getD i 0)){m:Int} (hm:0<m->aA r=3∧∃ c l,ob s.h (r / 4)=some (c,0,l)∧(l.length:Int)=m) (h:(dK s t r ar m).1.2=0):cP (dK s t r ar m).1.1:=by
 unfold dK at h ⊢;by_cases h0:(aV m (ar.getD 0 0)).2=0
 ·have Jm:¬ (aV m (ar.getD 0 0)).2≠0:=fun h=>h h0;rw [Uq Jm] at h ⊢;obtain ⟨i0,i1⟩:=i8 h0;obtain ⟨h3,c,l,hx,Mo⟩:=hm (by omega);by_cases h2:ar.length<2
  ·rw [Ur h2];show cP (dQ s.h r (aV m (ar.getD 0 0)).1);rw [gF h3 hx i0 (by omega)];exact xr hv hx _ (pR i0 (by omega))
  ·rw [Uq h2];exact hW 1 (by omega)
 ·rw [Ur h0] at h;exact absurd h h0
theorem By (hU:UW s v Gw) (hv:KAllW s t v) (hp:PairV v) (hr:WK v Gw r) (h0:bV s.h r≠0) (hW:∀ i,i<ar.length->cP (ar.getD i 0)):∀ {o:PO},GQ s r o->(ch s t v r ar o).1.2=0->cP (ch s t v r ar o).1.1:=by
 have lj:=sT hv h0;have h3of:=cW lj.1 lj.2;have me:=sI h0;intro o ho;cases o with
 | same=>exact fun _=>eQ _
 | other=>exact fun _=>eQ _
 | cls=>exact fun _=>cH lj.1 lj.2
 | isNil=>exact fun _=>eQ _
 | notNil=>exact fun _=>eQ _
 | self=>exact fun _=>me
 | isKind =>
  simp only [ch];split
  ·exact fun h=>iI h
  ·exact fun _=>eQ _
 | ivSize=>exact fun h=>jB h
 | ivAt =>
  refine uY hv hW fun hm=>?_;unfold cU at hm ⊢;cases hi:gi v (bV s.h r) with
  | false=>rw [hi] at hm;simp at hm
  | true =>
   obtain ⟨h3,c,l,hx,_⟩:=hU.inst hv hp hr h0 hi;refine ⟨h3,c,l,hx,?_⟩;simp only [if_true];rw [eD h3 hx]
 | copy =>
  simp only [ch];split
  ·exact fun h=>mo hv h3of h
  ·exact fun _=>me
 | not=>exact fun _=>eQ _
 | and =>
  simp only [ch];split
  ·exact fun _=>eQ _
  ·split
   ·exact fun _=>eQ false
   ·exact fun h=>iI h
 | or =>
  simp only [ch];split
  ·exact fun _=>eQ true
  ·split
   ·exact fun _=>eQ _
   ·exact fun h=>iI h
 | num f =>
  simp only [ch];split
  ·exact fun h=>iI h
  ·split
   ·rename_i h;exact fun h'=>absurd h' h
   ·exact fun h=>jB h
 | cmp f =>
  simp only [ch];split
  ·exact fun h=>iI h
  ·exact fun _=>eQ _
 | neg=>exact fun h=>jB h
 | abs =>
  simp only [ch];split
  ·exact fun h=>jB h
  ·exact fun _=>me
 | even=>exact fun _=>eQ _
 | odd=>exact fun _=>eQ _
 | print=>exact fun h=>mo hv (by decide) h
 | len=>exact fun h=>jB h
 | asStr=>exact fun h=>mo hv (by decide) h
 | symLess =>
  simp only [ch];split
  ·exact fun h=>iI h
  ·exact fun _=>eQ _
 | size=>exact fun h=>jB h
 | empty=>exact fun _=>eQ _
 | byteAt =>
  simp only [ch];unfold oa;split
  ·rename_i h;exact fun h'=>absurd h' h
  ·exact fun h=>jB h
 | bytePut =>
  simp only [ch];split
  ·exact fun h=>iI h
  rename_i hz;split
  ·rename_i h;exact fun h'=>absurd h' h
  ·intro _;show aA (ar.getD 1 0)≠0;simp only [Vt] at hz;omega
 | join =>
  simp only [ch];split
  ·exact fun h=>iI h
  ·split
   ·exact fun h=>iI h
   ·exact fun h=>mo hv (by decide) h
 | eq=>exact fun _=>eQ _
 | less =>
  simp only [ch];split
  ·exact fun h=>iI h
  ·exact fun _=>eQ _
 | asSym =>
  simp only [ch];split
  ·exact fun h=>iI h
  ·intro h;have w1:=fO hv.names.wf (bG s.h t r);simp only at h ⊢;split at h
   ·rename_i h';exact absurd h h'
   ·rename_i h';rw [Uq h'];obtain ⟨m,e1,e2,_⟩:=lC (bG s.h t r) (Uv h');have OX:=(V1.1 e2).1;have It:=(lT t (bG s.h t r)).1;have Mj:=w1.len;have Mi:=w1.m1;rw [e1];show aA (4*(m:Int)+2)≠0;unfold aA;rw [Uq (by omega),Ur (by omega)];decide
 | «at» =>
  have nb:bV s.h r=11:=ho;refine uY hv hW fun hm=>?_;rcases hU.view hv hr h0 with ⟨_,e⟩ | ⟨_,e⟩ | ⟨h3,c,f,l,hx,kv,e,hc⟩
  ·omega
  ·omega
  ·rw [eD h3 hx] at hm ⊢;rcases hc with (rfl | rfl | rfl) | ⟨_,rfl,JV⟩ | ⟨rfl,_⟩ | ⟨hG,⟨_,rfl⟩ | ⟨rfl,_,hl⟩⟩
   ·omega
   ·omega
   ·omega
   ·rw [JV] at hm;simp at hm
   ·omega
   ·omega
   ·exact ⟨h3,c,l,hx,rfl⟩
 | fresh =>
  obtain ⟨h3,_⟩:=hU.cls12 hv hp hr ho;simp only [ch];split
  ·exact fun h=>iI h
  ·split
   ·exact fun h=>iI h
   ·exact fun h=>tp hv h3 h
 | sized =>
  obtain ⟨h3,_⟩:=hU.cls12 hv hp hr ho;simp only [ch];split
  ·exact fun h=>iI h
  ·split
   ·exact fun h=>tp hv h3 h
   ·split
    ·exact fun _=>cH (o:=18) (by decide) (by decide)
    ·exact fun h=>tp hv h3 h
 | slot i =>
  obtain ⟨k9,MQ⟩:=(show bV s.h r=12∧(i=0∨i=1) from ho);obtain ⟨h3,j,hj,ej,hx⟩:=hU.cls12 hv hp hr k9;intro _;show cP (dQ s.h r i);have hl:(((v.cls[j]).slots j).length:Int)=7:=rfl;rw [gF h3 hx (by omega) (by omega)];exact xr hv hx _ (pR (by omega) (by omega))
theorem Bb (hU:UW s v Gw) (hv:KAllW s t v) (hp:PairV v) (hr:WK v Gw r) (h0:bV s.h r≠0) (fz:fc v k (bV s.h r)=true){n:Int}{p:PF} (he:fv (ko k) sel=some (n,p)):GQ s r (Bc p):=by
 have hmem:=pK he;obtain ⟨q8,q9,q10,q11,q12,q14,q17⟩:=sy hU hv hp hr h0 fz;unfold ko at hmem;split at hmem
 ·simp only [rf,Us,Prod.mk.injEq,UO,U5] at hmem;rcases hmem with ⟨rfl,rfl,rfl⟩ | ⟨rfl,rfl,rfl⟩ | ⟨rfl,rfl,rfl⟩ | ⟨rfl,rfl,rfl⟩ | ⟨rfl,rfl,rfl⟩ | ⟨rfl,rfl,rfl⟩ | ⟨rfl,rfl,rfl⟩ | ⟨rfl,rfl,rfl⟩ | ⟨rfl,rfl,rfl⟩ | ⟨rfl,rfl,rfl⟩ | ⟨rfl,rfl,rfl⟩ | ⟨rfl,rfl,rfl⟩
  all_goals exact trivial
 split at hmem
 ·simp only [pd,Us,Prod.mk.injEq,UO,U5] at hmem;rcases hmem with ⟨rfl,rfl,rfl⟩ | ⟨rfl,rfl,rfl⟩ | ⟨rfl,rfl,rfl⟩ | ⟨rfl,rfl,rfl⟩
  all_goals exact trivial
 split at hmem
 ·simp only [rn,Us,Prod.mk.injEq,UO,U5] at hmem;rcases hmem with ⟨rfl,h1,rfl⟩ | ⟨rfl,h1,rfl⟩ | ⟨rfl,h1,rfl⟩ | ⟨rfl,h1,rfl⟩ | ⟨rfl,h1,rfl⟩ | ⟨rfl,h1,rfl⟩ | ⟨rfl,h1,rfl⟩ | ⟨rfl,h1,rfl⟩ | ⟨rfl,h1,rfl⟩ | ⟨rfl,h1,rfl⟩ | ⟨rfl,h1,rfl⟩ | ⟨rfl,h1,rfl⟩ | ⟨rfl,h1,rfl⟩ | ⟨rfl,h1,rfl⟩ | ⟨rfl,h1,rfl⟩ | ⟨rfl,h1,rfl⟩ | ⟨rfl,h1,rfl⟩ | ⟨rfl,h1,rfl⟩ | ⟨rfl,h1,rfl⟩ | ⟨rfl,h1,rfl⟩ | ⟨rfl,h1,rfl⟩ | ⟨rfl,h1,rfl⟩
  all_goals exact trivial
 split at hmem
 ·rename_i e;have h2:=q9 e;simp only [rD,Us,Prod.mk.injEq,UO,U5] at hmem;rcases hmem with ⟨rfl,rfl,rfl⟩ | ⟨rfl,rfl,rfl⟩ | ⟨rfl,rfl,rfl⟩
  all_goals exact h2
 split at hmem
 ·rename_i e;have hs:=q10 e;simp only [mU,Us,Prod.mk.injEq,UO,U5] at hmem;rcases hmem with ⟨rfl,rfl,rfl⟩ | ⟨rfl,rfl,rfl⟩ | ⟨rfl,rfl,rfl⟩ | ⟨rfl,rfl,rfl⟩ | ⟨rfl,rfl,rfl⟩ | ⟨rfl,rfl,rfl⟩ | ⟨rfl,rfl,rfl⟩ | ⟨rfl,rfl,rfl⟩
  all_goals first | exact trivial | exact hs
 split at hmem
 ·rename_i e;have nb:=q11 e;simp only [nl,Us,Prod.mk.injEq,UO,U5] at hmem;rcases hmem with ⟨rfl,rfl,rfl⟩ | ⟨rfl,rfl,rfl⟩ | ⟨rfl,rfl,rfl⟩ | ⟨rfl,rfl,rfl⟩
  all_goals first | exact trivial | exact nb
 split at hmem
 ·rename_i e;have k9:bV s.h r=12:=by
   have p12:=hp.pl.2.2.2.2.2.2.2.2.1
   have:=nD hp (k:=k) (by omega) (by rw [e];exact p12) (by decide) fz;omega
  simp only [mZ,Us,Prod.mk.injEq,UO,U5] at hmem;rcases hmem with ⟨rfl,rfl,rfl⟩ | ⟨rfl,rfl,rfl⟩ | ⟨rfl,rfl,rfl⟩ | ⟨rfl,rfl,rfl⟩
  all_goals first | exact k9 | exact ⟨k9,.inl rfl⟩ | exact ⟨k9,.inr rfl⟩
 first
  | cases hmem
  | (rw [Uq q14,Uq q17] at hmem;cases hmem)
theorem fL {l:List Int}{i:Nat} (h:i<l.length):l.getD i 0=l[i]:=by
 rw [UD,UF h];rfl
theorem CK (T:Two s s' t v Gw Gw' ρ) (hr:WK v Gw r) (l4:WR ρ r r') (hA:∀ i,WR ρ (ar.getD i 0) (ar'.getD i 0)) (hK:∀ i,WK v Gw (ar.getD i 0)) (hl:ar.length=ar'.length) :
  RelP v (jk s t v k sel r ar) (jk s' t v k sel r' ar')∧((jk s t v k sel r ar).1.2=0->cP (jk s t v k sel r ar).1.1):=by
 have eof:=T.h.of0 T.a T.u T.p l4 hr T.b;have eofs:∀ i,bV s'.h (ar'.getD i 0)=bV s.h (ar.getD i 0):=fun i=>T.h.of0 T.a T.u T.p (hA i) (hK i) T.b;have all_:(∀ w∈r :: ar,bV s.h w≠0)->∀ w∈r' :: ar',bV s'.h w≠0:=fun h w hw=>by
  rcases Us.1 hw with rfl | hw
  ·rw [eof];exact h _ (by simp)
  ·obtain ⟨i,hi,rfl⟩:=Vc.1 hw;have k8:i<ar.length:=by omega
   rw [←fL hi,eofs i,fL k8];exact h _ (by simp)
 have all':(∀ w∈r' :: ar',bV s'.h w≠0)->∀ w∈r :: ar,bV s.h w≠0:=fun h w hw=>by
  rcases Us.1 hw with rfl | hw
  ·rw [←eof];exact h _ (by simp)
  ·obtain ⟨i,hi,rfl⟩:=Vc.1 hw;have k8:i<ar'.length:=by omega
   rw [←fL hi,←eofs i,fL k8];exact h _ (by simp)
 have no:∀ e:Int,e≠0->jk s t v k sel r ar=((0,e),s,t)->jk s' t v k sel r' ar'=((0,e),s',t)->RelP v (jk s t v k sel r ar) (jk s' t v k sel r' ar')∧((jk s t v k sel r ar).1.2=0->cP (jk s t v k sel r ar).1.1):=fun e he e1 e2=>by
  rw [e1,e2];exact ⟨.no T.h,fun h=>absurd h he⟩
 by_cases hf:tP s k sel r ar
 ·have ca:tP s' k sel r' ar':=by
   obtain ⟨n,p,h1,h2,h3,h4⟩:=hf;exact ⟨n,p,h1,h2,by rw [←hl];exact h3,all_ h4⟩
  obtain ⟨n,p,he,LH,hn,lj⟩:=hf;have Lu:=lj r (by simp);have ll:fc v k (bV s.h r)=true->dz s'.h k r'=dz s.h k r:=fun hk=>by
   obtain ⟨_,_,_,_,_,q14,_⟩:=sy T.u T.a T.p hr Lu hk;unfold dz;rw [T.h.ext l4,Uq q14,Uq q14]
  by_cases hk:fc v k (bV s.h r)=true∧dz s.h k r=true
  ·have dn:fc v k (bV s'.h r')=true∧dz s'.h k r'=true:=by rw [eof,ll hk.1];exact hk
   rw [oG he LH hn lj hk.1 hk.2,oG he LH (by rw [←hl];exact hn) (all_ lj) dn.1 dn.2];have fit:=Bb T.u T.a T.p hr Lu hk.1 he;have hW:∀ i,i<ar.length->cP (ar.getD i 0):=fun i hi=>by
    rw [fL hi];exact sI (lj _ (by simp))
   have hW':∀ i,i<ar'.length->cP (ar'.getD i 0):=fun i hi=>by
    rw [fL hi];exact sI (all_ lj _ (by simp))
   exact ⟨BS T hr Lu l4 hA hK hl hW hW' fit,By T.u T.a T.p hr Lu hW fit⟩
  ·have dn:¬ (fc v k (bV s'.h r')=true∧dz s'.h k r'=true):=fun ⟨h1,h2⟩=>hk (by
    rw [eof] at h1;rw [ll h1] at h2;exact ⟨h1,h2⟩)
   exact no 170 (by decide) (by unfold jk;rw [Ur ⟨n,p,he,LH,hn,lj⟩,Uq hk]) (by unfold jk;rw [Ur ca,Uq dn])
 ·have ca:¬ tP s' k sel r' ar':=fun ⟨n,p,h1,h2,h3,h4⟩=>hf ⟨n,p,h1,h2,by rw [hl];exact h3,all' h4⟩;exact no 1 (by decide) (by unfold jk;rw [Uq hf]) (by unfold jk;rw [Uq ca])
theorem KAllW.col (h:KAllW s t v):KAllW s.collect.2 t v:=by
 have hr:=ia s;exact ⟨⟨qq h.ks.wf,pW h.ks.gc,hr.2.2.trans h.ks.op,hr.1.trans h.ks.king,h.ks.view.keep (gH h.ks.wf.h) h.ks.reach,h.ks.sep,h.ks.shape⟩,h.names,by rw [hr.2.1];exact h.top⟩
theorem UW.col (hU:UW s v Gw) (hv:KAllW s t v) (hR:gZ v):UW s.collect.2 v Gw:=by
 have hk:=gH hv.ks.wf.h;refine ⟨fun p hp=>?_,hU.gm,?_,fun k hG c f l hx=>hU.own k hG c f l ?_⟩
 ·obtain ⟨f,l,hx⟩:=hU.base p hp;exact ⟨f,l,hk.ob (hU.breach hv.ks hR p hp) hx⟩
 ·unfold SP.collect;split
  ·exact hU.ni
  ·exact xn hU.ni _
 ·unfold SP.collect at hx;split at hx
  ·exact hx
  ·exact (jj (fun k hk=>((RH.mem_reach hv.ks.wf.h).1 hk).there) hx).1
theorem SRel.col (h:SRel s s' v ρ) (hl:∀ k k',ρ k k'->ji s s' ρ k k') (Ld:KAllW s' t v):SRel s s'.collect.2 v ρ:=by
 have hk:=gH Ld.ks.wf.h;have hr:=ia s';have hs:s'.collect.2.h.words=s'.h.words∧s'.collect.2.h.oops=s'.h.oops∧s'.collect.2.h.mark=s'.h.mark:=by
  unfold SP.collect;split
  ·exact ⟨rfl,rfl,rfl⟩
  ·exact rJ _
 refine ⟨⟨h.rl.fn,h.rl.inj,fun k k' Jb=>?_⟩,by rw [hr.2.1];exact h.len,by rw [hr.2.1];exact h.stk,h.king,h.base,by rw [hs.1];exact h.words,by rw [hs.2.1];exact h.oops,h.m1,by rw [hs.2.2];exact h.m2⟩;obtain ⟨c,f,l,c',l',e1,e2,e3⟩:=h.rl.ob _ _ Jb;exact ⟨c,f,l,c',l',e1,hk.ob (hl k k' Jb).2.2 e2,e3⟩
end
end
section
attribute [local irreducible] ba bQ bS
def I1 (v:KV):Int->Int->Prop:=fun k k'=>k'=k∧∃ p∈v.roles2,p.1=k
theorem zh {v:KV}:∀ p∈cy v,∃ q∈v.roles2,q.1=p.1:=by
 intro p hp;unfold cy at hp;simp only [Us] at hp;rcases hp with rfl | rfl | rfl | rfl | hp
 ·exact ⟨(1,[]),by simp [KV.roles2,KV.roles],rfl⟩
 ·exact ⟨(2,[]),by simp [KV.roles2],rfl⟩
 ·exact ⟨(3,[]),by simp [KV.roles2],rfl⟩
 ·exact ⟨(18,[]),by simp [KV.roles2,KV.roles],rfl⟩
 ·obtain ⟨c,hc,rfl⟩:=UM.1 hp;obtain ⟨i,hi,rfl⟩:=Vc.1 hc;exact ⟨_,iX hi,rfl⟩
theorem za {W O:Int}{s:SP}{t:TB}{v:KV} (h:K2 W O s t v) (hm:s.h.mark=0){L:List Int} (hL:∀ w∈L,aA w=3->∃ p∈v.roles2,p.1=w / 4):SRel { s with stack:=L } { s with stack:=L } v (I1 v):=by
 have hs:=h.all.ks.shape;have wr:∀ w:Int,(aA w=3->∃ p∈v.roles2,p.1=w / 4)->WR (I1 v) w w:=fun w hw=>by
  by_cases hk:aA w=3
  ·exact .inr ⟨hk,hk,rfl,hw hk⟩
  ·exact .inl ⟨hk,rfl⟩
 refine ⟨⟨?_,?_,?_⟩,rfl,fun i hi=>wr _ fun hk=>hL _ (by rw [UD,UF hi];exact UQ hi) hk,⟨rfl,(19,v.rootW),by simp [KV.roles2,KV.roles],rfl⟩,fun p hp=>⟨rfl,zh p hp⟩,rfl,rfl,hm,hm⟩
 ·rintro k a b ⟨rfl,_⟩ ⟨rfl,_⟩;rfl
 ·rintro a b k ⟨rfl,_⟩ ⟨e,_⟩;exact e
 ·rintro k k' ⟨rfl,p,hp,rfl⟩;obtain ⟨x,h1,h2,h3⟩:=h.view p hp;have hx:ob s.h p.1=some (x.cls,0,p.2):=bO.2 ⟨x,h1,rfl,h2,h3⟩;refine ⟨_,_,_,_,_,hx,hx,wr _ fun _=>?_,rfl,fun _=>rfl,fun _ i hi=>wr _ fun hk=>?_⟩
  ·obtain ⟨c,c1,c2,e⟩:=h.tight.cls x (aD h1).1;have hm:=hs.many0;have hi:(c-4).toNat<v.cls.length:=by omega
   have:=hs.kern _ hi (by omega);exact ⟨_,iX hi,by show (v.cls[(c-4).toNat]).oop=_;rw [this];omega⟩
  ·refine sQ hs h.tame hp ?_ hk;rw [UD,UF hi];exact UQ hi
structure Bgn (words oops:Int) (s:SP) (t:TB) (v:KV) (w10:Int):Prop where
 k2:K2 words oops s t v
 bo:BO s.h (cy v)
 ni:gb NI s.h
 pair:PairV v
 rest:gZ v
 mark:s.h.mark=0
 cls:∃ c∈v.cls,w10=4*c.oop
 w10:cP w10
def ten (w10:Int):List Int:=[4,12,8,7,16,32,40,44,2,w10]
section
variable {words oops w10:Int}{s:SP}{t:TB}{v:KV}
theorem Bgn.ws (B:Bgn words oops s t v w10):∀ w∈ten w10,cP w∧(aA w=3->∃ p∈v.roles2,p.1=w / 4)∧WK v (fun _=>False) w:=by
 obtain ⟨p4,p5,p6,p7,p8,p9,p10,p11,p12,_⟩:=gE B.pair;have cl:∀ {o:Int}{i:Nat},eK v o=some i->∃ p∈v.roles2,p.1=4*o / 4:=fun {o i} h=>by
  obtain ⟨hi,e⟩:=dE h;exact ⟨_,iX hi,by show (v.cls[i]).oop=_;omega⟩
 intro w hw;simp only [ten,Us,UO,U5] at hw;rcases hw with rfl | rfl | rfl | rfl | rfl | rfl | rfl | rfl | rfl | rfl
 ·exact ⟨by decide,fun _=>⟨(1,[]),by simp [KV.roles2,KV.roles],rfl⟩,WK.nil⟩
 ·exact ⟨by decide,fun _=>⟨(3,[]),by simp [KV.roles2],rfl⟩,WK.tw true⟩
 ·exact ⟨by decide,fun _=>⟨(2,[]),by simp [KV.roles2],rfl⟩,WK.tw false⟩
 ·exact ⟨by decide,fun h=>absurd h (by decide),WK.small (by decide)⟩
 ·exact ⟨by decide,fun _=>cl (o:=4) p4,WK.cls (o:=4) p4⟩
 ·exact ⟨by decide,fun _=>cl (o:=8) p8,WK.cls (o:=8) p8⟩
 ·exact ⟨by decide,fun _=>cl (o:=10) p10,WK.cls (o:=10) p10⟩
 ·exact ⟨by decide,fun _=>cl (o:=11) p11,WK.cls (o:=11) p11⟩
 ·exact ⟨by decide,fun h=>absurd h (by decide),WK.small (by decide)⟩
 ·obtain ⟨c,hc,rfl⟩:=B.cls;obtain ⟨i,hi,rfl⟩:=Vc.1 hc;exact ⟨B.w10,fun _=>⟨_,iX hi,by show (v.cls[i]).oop=_;omega⟩,WK.cls (B.k2.all.ks.idx hi)⟩
theorem Bgn.all (B:Bgn words oops s t v w10):KAllW { s with stack:=ten w10 } t v:=by
 have An:=B.k2.all.ks;exact ⟨⟨{ An.wf with many:=by simp [ten],words:=fun w hw=>(B.ws w hw).1 },An.gc,An.op,An.king,An.view,An.sep,An.shape⟩,B.k2.all.names,by simp [ten]⟩
theorem Bgn.uw (B:Bgn words oops s t v w10):UW { s with stack:=ten w10 } v fun _=>False:=⟨B.bo,fun _ h=>h.elim,B.ni,fun _ h=>h.elim⟩
theorem Bgn.rel (B:Bgn words oops s t v w10):SRel { s with stack:=ten w10 } { s with stack:=ten w10 } v (I1 v):=za B.k2 B.mark fun w hw=>(B.ws w hw).2.1
end
theorem y9 {words oops:Int}{k:Nat}{m:Int} (hw:words=160+(m+30)) (ho:oops=20+((k+3:Nat):Int)) (hm:0<=m) (h1:words<=1048576) (h2:oops<=65536):∃ s t v w10,Bgn words oops s t v w10 ∧
  ∀ {H:ag}{Q:QT},dT H->gL H->(∀ H' db D,DK H' db D { s with stack:=ten w10 } t (ten w10)->Fr [] H H'->(∀ x∈D,H.size<=x)->Q (Kj db) H')->ae PP 6 #[ac words,ac oops] Q H:=by
 obtain ⟨e0,_⟩:=nh (words:=words) (oops:=oops) (k:=k+3) (m:=m+30) hw ho (by omega);have hg:0<=words∧words<=1048576∧0<=oops∧oops<=65536:=⟨by omega,h1,by omega,h2⟩;have al:=mB (words:=words) (oops:=oops) (by omega) h1 (by omega) h2 e0;obtain ⟨p1,p2,_⟩:=rC hw ho hm h1 h2;have p6:=Ep hw ho hm h1 h2;obtain ⟨_,D5⟩:=we (zS hg.1 hg.2.1 hg.2.2.1 hg.2.2.2 e0) cn fy [xB,yB];obtain ⟨j,hj,n,ns,l,d,hf,k2,_⟩:=D5 p1;obtain ⟨v',Sd,_⟩:=yq (yd hg e0) cn fy [xB,yB];have e4:(bt.cls[j]).oop=4:=by
  have:fE bt bZ fy=(4,0):=by rfl
  rw [this] at hf;exact (congrArg Prod.fst hf).symm
 rw [e4] at k2;have Ox:=Sd.ni;have KZ:=k2.all.stack;have Jq:∀ c d,cy (bt.addC ⟨(aO (ce words oops) bt bZ cn fy [xB,yB]).1.1,n,4,ns,l,18,18,[],[],c⟩ d)=cy bt++[((aO (ce words oops) bt bZ cn fy [xB,yB]).1.1,48)]:=fun c d=>by
  simp [cy,KV.addC]
 have Ot:BO (aO (ce words oops) bt bZ cn fy [xB,yB]).2.1.h (cy (bt.addC ⟨(aO (ce words oops) bt bZ cn fy [xB,yB]).1.1,n,4,ns,l,18,18,[],[],0⟩ d)):=by
  rw [Jq];exact p6
 have JH:1<=(aO (ce words oops) bt bZ cn fy [xB,yB]).1.1∧(aO (ce words oops) bt bZ cn fy [xB,yB]).1.1<=65536:=by
  obtain ⟨f,sl,hx⟩:=p6 ((aO (ce words oops) bt bZ cn fy [xB,yB]).1.1,48) (by simp);obtain ⟨o,eF,_⟩:=bO.1 hx;have Oz:=aD eF;have Ly:=k2.all.ks.wf.h.objs.good o Oz.1;have g1:=Ly.oop1;have g2:=Ly.oop2;have g3:=k2.all.ks.wf.h.o1;have g4:o.oop=(aO (ce words oops) bt bZ cn fy [xB,yB]).1.1:=Oz.2;omega
 have hB:Bgn words oops (aO (ce words oops) bt bZ cn fy [xB,yB]).2.1 (aO (ce words oops) bt bZ cn fy [xB,yB]).2.2 (bt.addC ⟨(aO (ce words oops) bt bZ cn fy [xB,yB]).1.1,n,4,ns,l,18,18,[],[],0⟩ d) (4*(aO (ce words oops) bt bZ cn fy [xB,yB]).1.1) :=
  ⟨k2,Ot,Ox,vU.v ⟨_,_,_,_,_,rfl⟩,⟨show (8:Int)∈bt.rest by decide,show (12:Int)∈bt.rest by decide⟩,p2.1,⟨⟨(aO (ce words oops) bt bZ cn fy [xB,yB]).1.1,n,4,ns,l,18,18,[],[],0⟩,by simp [KV.addC],rfl⟩,cH JH.1 JH.2⟩
 refine ⟨_,_,_,_,hB,fun {H Q} hk ht h=>?_⟩;have OC:∀ x∈ten (4*(aO (ce words oops) bt bZ cn fy [xB,yB]).1.1),cP x:=fun x hx=>(hB.ws x hx).1;clear hB Ot Jq k2 Ox Sd D5 p6 hf;apply Ie;dsimp only [aK,aT,ao,ak,jl,gg,bv,aB,bq,ac,bu,cX,au,ck,fi,am,aJ,aZ,ax,bd];refine Es hk (fun hb=>absurd hg hb) (fun _ he=>absurd e0 he) fun _ _ b F H1 e9 f1 tl=>⟨_,_,rfl,?_⟩;simp only [Uw,Ut];refine jV ⟨_,rfl,?_⟩;simp only [show ((0:Int) != 0)=false from rfl,Ut];have fp:=Fr.push [] H1 (.cells #[.string xB,.string yB] 9);have hr:Rd 1 (H1.push (.cells #[.string xB,.string yB] 9)) (some ⟨H1.size,0,none⟩) 2 (bY [xB,yB]):=(show cZ 1 (H1.push (.cells #[.string xB,.string yB] 9)) (some ⟨H1.size,0,none⟩) 2 2 (bY [xB,yB]) [H1.size] from ⟨rfl,UI _,.inr ⟨_,_,rfl,rfl,bH.new _ _ _,rfl,rfl⟩⟩).rd;have QE:H1.size∉F:=fun hm=>by have:=e9.lt _ hm;omega
 refine yP (e9.nil fp) al.w (by rw [al.stack];decide) hr (.inr fun p hp=>?_) (UI _) (by decide) fun H3 F3 v7 u3=>⟨_,_,rfl,jV ⟨_,rfl,?_⟩⟩
 ·cases hp;exact ⟨by simp,QE⟩
 rw [p1];simp only [show ((0:Int) != 0)=false from rfl,Ut];generalize (aO (ce words oops) bt bZ cn fy [xB,yB])=R at p1 p2 KZ v7 JH OC h ⊢;have f13:Fr [] H H3:=by
  have fq:Fr [] H (H1.push (.cells #[.string xB,.string yB] 9)):=f1.trans fp;refine ⟨Ux fq.1 u3.1.1,fun y hy _=>?_⟩;rw [u3.1.2 y (UJ hy fq.1) (fun hm=>by have:=tl y hm;omega),fq.2 y hy (by simp)]
 have J2:∀ x∈F3,H.size<=x:=fun x hx=>by
  rcases u3.2 x hx with h4 | h4
  ·exact tl x h4
  ·have:=(f1.trans fp).1;omega
 have PD:=hk.lt;have I5:=v7.lt;have fa:=Fr.push [] H3 (.cells #[Kj b,.slice none 0 0] 32);have hB:=bH.new H3 #[Kj b,.slice none 0 0] 32;have sz:(H3.push (.cells #[Kj b,.slice none 0 0] 32)).size=H3.size+1:=by simp
 have K6:=v7.nil fa;generalize (H3.push (.cells #[Kj b,.slice none 0 0] 32))=H4 at fa hB sz K6 ⊢;have fb:=Fr.push [] H4 (.cells #[ac 4,ac 12,ac 8,ac 7,ac 16,ac 32,ac 40,ac 44,ac 2,ac (IntKind.wrap .i64 (4*R.1.1))] 26);have hA:bH (H4.push (.cells #[ac 4,ac 12,ac 8,ac 7,ac 16,ac 32,ac 40,ac 44,ac 2,ac (IntKind.wrap .i64 (4*R.1.1))] 26)) H4.size (av (ten (IntKind.wrap .i64 (4*R.1.1)))).toArray:=bH.new _ _ _;have eR:({ R.2.1 with stack:=(ten (4*R.1.1)).take 0 }:SP)=R.2.1:=by
  show ({ R.2.1 with stack:=[] }:SP)=R.2.1;rw [←KZ]
 have Q9:DK (H4.push (.cells #[ac 4,ac 12,ac 8,ac 7,ac 16,ac 32,ac 40,ac 44,ac 2,ac (IntKind.wrap .i64 (4*R.1.1))] 26)) H3.size (H3.size :: ([]++F3)) R.2.1 R.2.2 []:=by
  refine ⟨b,F3,none,0,0,[],rfl,hB.fr fb (by simp),cZ.nil 1 _,K6.nil fb,fun hm=>by have:=I5 _ hm;omega,by simp,dB.nil_left _,?_⟩;simp only [Wj,Us,Vt]
  have:=f13.1;have OT:=ht.lt;refine ⟨⟨by omega,v7.gk⟩,⟨by omega,fun hm=>by have:=J2 _ hm;omega⟩,((ht.fr f13 (by simp)).fr fa (by simp)).fr fb (by simp)⟩
 rw [←eR] at Q9;generalize (H4.push (.cells #[ac 4,ac 12,ac 8,ac 7,ac 16,ac 32,ac 40,ac 44,ac 2,ac (IntKind.wrap .i64 (4*R.1.1))] 26))=H5 at fb hA Q9 ⊢;have ew:IntKind.wrap .i64 (4*R.1.1)=4*R.1.1:=az (by omega) (by omega);rw [ew] at hA;have Nf:H4.size∉H3.size :: ([]++F3):=by
  simp only [Wj,Us,Vt];exact ⟨by omega,fun hm=>by have:=I5 _ hm;omega⟩
 have hA5:=hA.lt;have hten:(ten (4*R.1.1)).length=10:=rfl;refine ⟨fun w H'=>∃(i:Nat) (D':aR),w=[ac i]∧i<=10∧DK H' H3.size D' { R.2.1 with stack:=(ten (4*R.1.1)).take i } R.2.2 ((ten (4*R.1.1)).take i)∧Up (H3.size :: ([]++F3)) H5 D' H',fun w _=>match w with
  | [.int _ i]=>((10:Int)-i).toNat
  | _=>0,⟨0,_,rfl,U7 _,Q9,Up.refl _ _⟩,?_⟩
 rintro w H6 ⟨i,D6,rfl,hi,O9,u6⟩ _;have TZ:=hA.fr u6.1 Nf;refine ⟨_,rfl,iN (fun aa=>?_) fun JT=>?_⟩
 ·have lp:i<10:=by omega
  have e1:IntKind.wrap .i64 ((i:Int)+1)=((i+1:Nat):Int):=by rw [az (by omega) (by omega)];omega
  have hc:=TZ.cell i;have Li:∃ x:Int,(av (ten (4*R.1.1))).toArray[i]?=some (ac x)∧(ten (4*R.1.1))[i]?=some x:=by
   unfold ten;rcases i with _ | _ | _ | _ | _ | _ | _ | _ | _ | _ | i
   all_goals first | exact ⟨_,rfl,rfl⟩ | omega
  obtain ⟨x,hx,qz⟩:=Li;rw [hx] at hc;have ix:(ten (4*R.1.1)).take (i+1)=(ten (4*R.1.1)).take i++[x]:=by rw [Vj,qz];rfl
  have T1:cP x:=OC x (List.mem_of_getElem? qz);have ekw:=nv (s:={ R.2.1 with stack:=(ten (4*R.1.1)).take i }) T1 (by simp only [U4];omega);refine ⟨⟨by omega,aa⟩,_,rfl,x,by rw [Uy,UC,aC,UE];exact hc,sF O9 (by simp only [U4];omega) fun H7 D7 Mc u7=>⟨rfl,?_⟩⟩;rw [e1];rw [ekw] at Mc;simp only at Mc;rw [←ix] at Mc;exact ⟨⟨i+1,D7,rfl,by omega,Mc,u6.trans u7⟩,by simp;omega⟩
 ·have Ra:i=10:=by omega
  subst Ra;refine h H6 H3.size D6 O9 ?_ fun x hx=>?_
  ·have f35:Fr [] H H5:=(f13.trans fa).trans fb;refine ⟨Ux f35.1 u6.1.1,fun y hy _=>?_⟩;rw [u6.1.2 y (UJ hy f35.1) (fun hm=>?_),f35.2 y hy (by simp)];simp only [Wj,Us] at hm
   have:=f13.1;rcases hm with hm | hm
   ·omega
   ·have:=J2 y hm;omega
  ·have:=f13.1;rcases u6.2 x hx with h4 | h4
   ·simp only [Wj,Us] at h4;rcases h4 with rfl | h4
    ·omega
    ·exact J2 x h4
   ·have:=((f13.trans fa).trans fb).1;omega
end
section
attribute [local irreducible] ba bQ bS eX d8 fx fu fo fA lz fj cE cG d7
def gR:List Int->Int->Nat
 | [],_=>0
 | x :: l,w=>if x=w then 0 else gR l w+1
theorem kr:∀ {l l':List Int}{w w':Int},l.length=l'.length->(∀ i,i<l.length->(l.getD i 0=w↔l'.getD i 0=w'))->gR l w=gR l' w'
 | [],[],_,_,_,_=>rfl
 | [],_ :: _,_,_,h,_=>by simp at h
 | _ :: _,[],_,_,h,_=>by simp at h
 | x :: l,y :: l',w,w',h,hi=>by
  have h0:=hi 0 (by simp);simp only [U0] at h0;have ih:=kr (l:=l) (l':=l') (w:=w) (w':=w') (by simpa using h) fun i hl=>by
   have:=hi (i+1) (by simpa using hl);simpa only [List.getD_cons_succ] using this
  unfold gR;by_cases hx:x=w
  ·rw [Ur hx,Ur (h0.1 hx)]
  ·rw [Uq hx,Uq (fun e=>hx (h0.2 e)),ih]
structure Pairs (ws ws' ar ar':List Int):Prop where
 len:ar.length=ar'.length
 at_:∀ j,j<ar.length->∃ m,m<ws.length∧ar.getD j 0=ws.getD m 0∧ar'.getD j 0=ws'.getD m 0
theorem Pairs.nil (ws ws':List Int):Pairs ws ws' [] []:=⟨rfl,fun j h=>by simp at h⟩
theorem kF (l:List Int) (w:Int) (j:Nat):(l++[w]).getD j 0=if j=l.length then w else l.getD j 0:=by
 rw [UD,UD];by_cases h:j<l.length
 ·rw [VN h,Uq (by omega)]
 ·rw [List.getElem?_append_right (by omega)];by_cases e:j=l.length
  ·subst e;rw [Ur rfl,W3];rfl
  ·rw [Uq e,Vd (by simp;omega),Vd (by omega)]
theorem Pairs.snoc {ws ws' ar ar':List Int} (h:Pairs ws ws' ar ar'){m:Nat} (hm:m<ws.length):Pairs ws ws' (ar++[ws.getD m 0]) (ar'++[ws'.getD m 0]):=by
 refine ⟨by simp [h.len],fun j hj=>?_⟩;rw [kF,kF];by_cases e:j=ar.length
 ·rw [Ur e,Ur (by rw [←h.len];exact e)];exact ⟨m,hm,rfl,rfl⟩
 ·rw [Uq e,Uq (by rw [←h.len];exact e)];exact h.at_ j (by simp at hj;omega)
structure UR (s s':SP) (t:TB) (v:KV):Prop where
 a:KAllW s t v
 b:KAllW s' t v
 p:PairV v
 r:gZ v
 ten:10<=s.stack.length
 g:∃ Gw Gw':Int->Prop,∃ ρ:Int->Int->Prop,UW s v Gw∧UW s' v Gw'∧SRel s s' v ρ∧(∀ w∈s.stack,WK v Gw w)∧∀ w∈s'.stack,WK v Gw' w
section
variable {s s':SP}{t:TB}{v:KV}{ρ:Int->Int->Prop}
theorem UR.len (h:UR s s' t v):s.stack.length=s'.stack.length:=by
 obtain ⟨_,_,_,_,_,hS,_⟩:=h.g;exact hS.len
theorem uv (s s':SP) (ρ:Int->Int->Prop):∀ k k',ji s s' ρ k k'->ji s s' (ji s s' ρ) k k':=fun _ _ h=>⟨h,h.2.1,h.2.2⟩
theorem SRel.push (h:SRel s s' v ρ){w w':Int} (hw:WR ρ w w'):SRel { s with stack:=s.stack++[w] } { s' with stack:=s'.stack++[w'] } v ρ:=by
 refine ⟨h.rl,by simp [h.len],fun i hi=>?_,h.king,h.base,h.words,h.oops,h.m1,h.m2⟩;show WR ρ ((s.stack++[w]).getD i 0) ((s'.stack++[w']).getD i 0);rw [kF,kF];by_cases e:i=s.stack.length
 ·rw [Ur e,Ur (by rw [←h.len];exact e)];exact hw
 ·rw [Uq e,Uq (by rw [←h.len];exact e)];refine h.stk i ?_
  have:i<(s.stack++[w]).length:=hi;simp at this;omega
theorem uM (h:KAllW s t v) (n:Nat):KAllW { s with stack:=s.stack.take n } t v:=by
 have An:=h.ks;have htop:=h.top;have ai:(s.stack.take n).length<=65536:=by rw [U4];omega
 exact ⟨⟨{ An.wf with many:=ai,words:=fun w hw=>An.wf.words w (V0 hw) },An.gc,An.op,An.king,An.view,An.sep,An.shape⟩,h.names,ai⟩
theorem UR.take10 (h:UR s s' t v):UR { s with stack:=s.stack.take 10 } { s' with stack:=s'.stack.take 10 } t v:=by
 obtain ⟨Gw,Gw',ρ,u,u',hS,k,k'⟩:=h.g;have hl:=h.len;have dc:=h.ten;have tk:∀ (l:List Int) (i:Nat),i<10->(l.take 10).getD i 0=l.getD i 0:=fun l i hi=>by
  rw [UD,UD,WP,Ur hi]
 refine ⟨uM h.a 10,uM h.b 10,h.p,h.r,by simp only [U4];omega,Gw,Gw',ρ,u.of_h rfl,u'.of_h rfl,?_,fun w hw=>k w (V0 hw),fun w hw=>k' w (V0 hw)⟩;refine ⟨hS.rl,by simp only [U4];omega,fun i hi=>?_,hS.king,hS.base,hS.words,hS.oops,hS.m1,hS.m2⟩;have k8:i<(s.stack.take 10).length:=hi;simp only [U4] at k8;show WR ρ ((s.stack.take 10).getD i 0) ((s'.stack.take 10).getD i 0);rw [tk _ i (by omega),tk _ i (by omega)];exact hS.stk i (by omega)
theorem qg {w:Int} (hw:cP w) (hl:s.stack.length+1<=65536):(s.keepW [w]).2={ s with stack:=s.stack++[w] }:=by
 unfold SP.keepW;rw [Uq (by rintro ⟨x,hx,hn⟩;rw [Uu.1 hx] at hn;exact hn hw),Uq (by simp;omega)]
theorem UR.step (h:UR s s' t v) (ai:s.stack.length<=50000){k:Int}{sel:ByteArray}{m:Nat} (hm:m<s.stack.length){ar ar':List Int} (hp:Pairs s.stack s'.stack ar ar'){R R':PR} (eR:R=jk s t v k sel (s.stack.getD m 0) ar) (eR':R'=jk s'.collect.2 t v k sel (s'.stack.getD m 0) ar') :
  R.1.2=R'.1.2∧R.2.2=R'.2.2∧UR (gM R.2.1 s.stack R.1).1 (gM R'.2.1 s'.stack R'.1).1 R.2.2 v∧(gM R.2.1 s.stack R.1).1.stack=(gM R.2.1 s.stack R.1).2∧(gM R'.2.1 s'.stack R'.1).1.stack=(gM R'.2.1 s'.stack R'.1).2 ∧
  gR (gM R.2.1 s.stack R.1).2 R.1.1=gR (gM R'.2.1 s'.stack R'.1).2 R'.1.1∧(aA R.1.1≠3->R.1.1=R'.1.1)∧(gM R.2.1 s.stack R.1).2.length<=s.stack.length+1:=by
 obtain ⟨Gw,Gw',ρ,u,u',hS,hk,dn⟩:=h.g;have hl:=h.len;have MC:=ia s';have Jv:=(hS.trim h.a.ks h.b.ks u u' h.r).col (uv s s' ρ) h.b;have an:=KAllW.col h.b;have u1:=u'.col h.b h.r;have I3:=Jv.trim h.a.ks an.ks u u1 h.r;have T:Two s s'.collect.2 t v Gw Gw' (ji s s'.collect.2 (ji s s' ρ)):=⟨I3,uv _ _ _,h.a,an,u,u1,h.p,h.r⟩;have stk:∀ i,i<s.stack.length->WR (ji s s'.collect.2 (ji s s' ρ)) (s.stack.getD i 0) (s'.stack.getD i 0):=fun i hi=>by
  have:=I3.stk i hi;rw [MC.2.1] at this;exact this
 have kw:∀ i,i<s.stack.length->WK v Gw (s.stack.getD i 0)∧WK v Gw' (s'.stack.getD i 0):=fun i hi=>by
  have k8:i<s'.stack.length:=by omega
  rw [UD,UF hi,UD,UF k8];exact ⟨hk _ (UQ hi),dn _ (UQ k8)⟩
 have hA:∀ i,WR (ji s s'.collect.2 (ji s s' ρ)) (ar.getD i 0) (ar'.getD i 0)∧WK v Gw (ar.getD i 0)∧WK v Gw' (ar'.getD i 0):=fun i=>by
  by_cases hi:i<ar.length
  ·obtain ⟨m,hm,e1,e2⟩:=hp.at_ i hi;rw [e1,e2];exact ⟨stk m hm,kw m hm⟩
  ·have k8:¬ i<ar'.length:=by rw [←hp.len];exact hi
   rw [UD,Vd (by omega),UD,Vd (by omega)];exact ⟨Bi,WK.small (by decide),WK.small (by decide)⟩
 have el:∀ {l:List Int}{P:Int->Prop},(∀ i,P (l.getD i 0))->∀ w∈l,P w:=fun {l P} h w hw=>by
  obtain ⟨i,hi,rfl⟩:=Vc.1 hw;rw [←fL hi];exact h i
 obtain ⟨q,hw⟩:=CK (k:=k) (sel:=sel) T (kw m hm).1 (stk m hm) (fun i=>(hA i).1) (fun i=>(hA i).2.1) hp.len;have pl:=zJ (k:=k) (sel:=sel) (r:=s.stack.getD m 0) (ar:=ar) u h.a h.p h.r fun w hw _=>by
  rcases Us.1 hw with rfl | hw
  ·exact (kw m hm).1
  ·exact el (fun i=>(hA i).2.1) w hw
 have pl':=zJ (k:=k) (sel:=sel) (r:=s'.stack.getD m 0) (ar:=ar') u1 an h.p h.r fun w hw _=>by
  rcases Us.1 hw with rfl | hw
  ·exact (kw m hm).2
  ·exact el (fun i=>(hA i).2.2) w hw
 rw [←eR] at q hw pl;rw [←eR'] at q pl';clear eR eR';obtain ⟨σ,qS,qw⟩:=q.rel;obtain ⟨G1,g1,U1,a1⟩:=pl.uw;obtain ⟨G1',g1',U1',a1'⟩:=pl'.uw;have e1:R.2.1.stack=s.stack:=pl.stk;have e1':R'.2.1.stack=s'.stack:=pl'.stk.trans MC.2.1;have k1:∀ w∈R.2.1.stack,WK v G1 w:=fun w hw=>(hk w (by rw [←e1];exact hw)).mono g1;have k1':∀ w∈R'.2.1.stack,WK v G1' w:=fun w hw=>(dn w (by rw [←e1'];exact hw)).mono g1';have ka:=pl.all;have kb:=pl'.all;rw [←q.tab] at kb;have kinds:aA R.1.1≠3->R.1.1=R'.1.1:=fun JB=>by
  rcases qw with ⟨_,e⟩ | ⟨e,_⟩
  ·exact e.symm
  ·exact absurd e JB
 refine ⟨q.code,q.tab,?_⟩;unfold gM;by_cases h0:R.1.2=0
 ·have Jm:R'.1.2=0:=by rw [←q.code];exact h0
  rw [Ur h0,Ur Jm];have w1:=hw h0;have w1':cP R'.1.1:=by
   have:=(WR.num qw).2;have w1':aA R.1.1≠0:=w1;show aA R'.1.1≠0;omega
  have ek:=qg (s:=R.2.1) w1 (by rw [e1];omega);have ek':=qg (s:=R'.2.1) w1' (by rw [e1'];omega);obtain ⟨c1,_,_⟩:=qL ka R.1.1 (by rw [e1];omega);obtain ⟨c2,_,_⟩:=qL kb R'.1.1 (by rw [e1'];omega);rw [ek] at c1 ⊢;rw [ek'] at c2 ⊢;have hP:=qS.push qw;refine ⟨⟨c1,c2,h.p,h.r,?_,G1,G1',σ,U1.of_h rfl,U1'.of_h rfl,hP,fun w hw=>?_,fun w hw=>?_⟩,?_,?_,?_,kinds,by simp⟩
  ·show 10<=(R.2.1.stack++[R.1.1]).length
   have:=h.ten;rw [e1];simp;omega
  ·rcases Uz.1 hw with hw | hw
   ·exact k1 w hw
   ·rw [Uu.1 hw];exact a1 h0
  ·rcases Uz.1 hw with hw | hw
   ·exact k1' w hw
   ·rw [Uu.1 hw];exact a1' Jm
  ·show R.2.1.stack++[R.1.1]=s.stack++[R.1.1];rw [e1]
  ·show R'.2.1.stack++[R'.1.1]=s'.stack++[R'.1.1];rw [e1']
  ·refine kr (by simp [hl]) fun i hi=>?_
   have:=hP.stk i (by show i<(R.2.1.stack++[R.1.1]).length;rw [e1];exact hi);have e:(R.2.1.stack++[R.1.1]).getD i 0=(s.stack++[R.1.1]).getD i 0:=by rw [e1]
   have e':(R'.2.1.stack++[R'.1.1]).getD i 0=(s'.stack++[R'.1.1]).getD i 0:=by rw [e1']
   simp only [e,e'] at this;exact qS.eq_iff this qw
 ·have Jm:¬ R'.1.2=0:=by rw [←q.code];exact h0
  rw [Uq h0,Uq Jm];refine ⟨⟨ka,kb,h.p,h.r,by rw [e1];exact h.ten,G1,G1',σ,U1,U1',qS,k1,k1'⟩,e1,e1',?_,kinds,VO _⟩;refine kr hl fun i hi=>?_
  have:=qS.stk i (by rw [e1];exact hi);rw [e1,e1'] at this;exact qS.eq_iff this qw
theorem Bgn.ur {words oops w10:Int} (B:Bgn words oops s t v w10):UR { s with stack:=ten w10 } { s with stack:=ten w10 } t v :=
 ⟨B.all,B.all,B.pair,B.rest,UI _,_,_,_,B.uw,B.uw,B.rel,fun w hw=>(B.ws w hw).2.2,fun w hw=>(B.ws w hw).2.2⟩
end
end
section
theorem Ii:(if (eX 3 4).2≠0 then ((0:Int),(eX 3 4).2) else fe (eX 3 4).1)=(15,0):=by decide
attribute [local irreducible] ba bQ bS eX d8 fx fu fo fA lz fj cE cG d7
structure UH (H0 H:ag) (da db:Nat) (A B:aR) (s:SP) (t:TB) (ws:List Int) (s':SP) (t':TB) (ws':List Int):Prop where
 a:DK H da A s t ws
 b:DK H db B s' t' ws'
 dis:dB A B
 n1:∀ x∈A,H0.size<=x
 n2:∀ x∈B,H0.size<=x
 gk:aS<H0.size
 gp:gP<H0.size
 fr:Fr [] H0 H
section
variable {H0 H H1:ag}{da db:Nat}{A B A1:aR}{s s' s1:SP}{t t' t1:TB}{ws ws' ws1:List Int}{Q:QT}{D:aR}{v:KV}{Gw:Int->Prop}
theorem UH.nil (h:UH H0 H da db A B s t ws s' t' ws') (f:Fr [] H H1):UH H0 H1 da db A B s t ws s' t' ws':={ h with a:=h.a.nil f,b:=h.b.nil f,fr:=h.fr.trans f }
theorem UH.symm (h:UH H0 H da db A B s t ws s' t' ws'):UH H0 H db da B A s' t' ws' s t ws:=⟨h.b,h.a,h.dis.symm,h.n2,h.n1,h.gk,h.gp,h.fr⟩
theorem UH.seta (h:UH H0 H da db A B s t ws s' t' ws') (hD:DK H1 da A1 s1 t1 ws1) (u:Up A H A1 H1):UH H0 H1 da db A1 B s1 t1 ws1 s' t' ws':=by
 have lb:=h.b.lt;have h0:=h.fr.1;have gk:=h.gk;have gp:=h.gp;refine ⟨hD,h.b.fr u.1 (fun x hx hm=>h.dis x hm hx) (fun hm=>by have:=h.n1 _ hm;omega) (fun hm=>by have:=h.n1 _ hm;omega),fun x hx hm=>?_,fun x hx=>?_,h.n2,gk,gp,Aj h.fr u.1 h.n1⟩
 ·rcases u.2 x hx with h1 | h1
  ·exact h.dis x h1 hm
  ·have:=lb x hm;omega
 ·rcases u.2 x hx with h1 | h1
  ·exact h.n1 x h1
  ·omega
theorem UH.setb (h:UH H0 H da db A B s t ws s' t' ws'){B1:aR} (hD:DK H1 db B1 s1 t1 ws1) (u:Up B H B1 H1):UH H0 H1 da db A B1 s t ws s1 t1 ws1:=(h.symm.seta hD u).symm
def E0 (n:Int) (m:Nat):Nat:=(Int.tmod (Int.tmod n m+m) m).toNat
theorem AG {n:Int}{m:Nat} (h:0<m):E0 n m<m:=by
 have t1:-(m:Int)<Int.tmod n m∧Int.tmod n m<m:=(lI (n:=n) (m:=(m:Int)) (by omega)).1 (by omega);have t2:=(lI (n:=Int.tmod n m+m) (m:=(m:Int)) (by omega)).1 (by omega);have t3:0<=Int.tmod (Int.tmod n m+m) m:=Int.tmod_nonneg _ (by omega);unfold E0;omega
theorem mC (hD:DK H db D s t ws) (h0:0<ws.length) (hl:ws.length<=100000){n:Int} (h:Q (ac (ws.getD (E0 n ws.length) 0)) H):ae PP 9 #[Kj db,ac n] Q H:=by
 obtain ⟨b,F,a1,l1,c1,G,rfl,hB,hO,hK,d1,d2,d3,d4,d5,d6⟩:=hD;have Nb:ws.length=l1:=by have:=hO.len;simpa [av] using this
 unfold E0 at h;rw [Nb] at h;apply ID;dsimp only [ao,aB,aH,bq,ac,bu,aN,ax,bd];have t1:-(l1:Int)<Int.tmod n l1∧Int.tmod n l1<l1:=(lI (n:=n) (m:=(l1:Int)) (by omega)).1 (by omega);have w1:IntKind.wrap .i64 (Int.tmod n l1+l1)=Int.tmod n l1+l1:=az (by omega) (by omega);have t2:=(lI (n:=Int.tmod n l1+l1) (m:=(l1:Int)) (by omega)).1 (by omega);have t3:0<=Int.tmod (Int.tmod n l1+l1) l1:=Int.tmod_nonneg _ (by omega);refine ⟨_,rfl,_,_,_,hB.cell 1,_,rfl,_,_,_,hB.cell 1,?_⟩;rw [ah,Uq (by omega),ah,Uq (by omega),w1];generalize Int.tmod (Int.tmod n l1+l1) l1=m at t2 t3 h ⊢;obtain ⟨p,hp,hc,aa⟩:=hO.rd.int (i:=m) t3 t2.2;exact ⟨⟨t3,t2.2⟩,p,hp,_,by rw [UC];exact hc,h⟩
theorem E2 (hD:DK H db D s t ws) (hl:ws.length<=100000) (hv:KAllW s t v) (hU:UW s v Gw) (hp:PairV v){k r:Int}{x:ByteArray}{ar:List Int}{a:Option Addr}{l c:Nat} (hr:Rd 1 H a l (av ar)) (ho:∀ p,a=some p->p.block∉D) (hZ:∀ w∈r :: ar,bV s.h w≠0->WK v Gw w)
  (h:∀ H' D',DK H' db D' (gM (jk s t v k x r ar).2.1 ws (jk s t v k x r ar).1).1 (jk s t v k x r ar).2.2 (gM (jk s t v k x r ar).2.1 ws (jk s t v k x r ar).1).2->Up D H D' H'->Q (.tuple #[ac (jk s t v k x r ar).1.1,ac (jk s t v k x r ar).1.2]) H') :
  ae PP 11 #[Kj db,ac k,.string x,ac r,.slice a l c] Q H:=by
 obtain ⟨b,F,hc,hK,ap,ht,cx⟩:=hD.kern;apply z6;dsimp only [aF,aT,ao,ak,gg,aE,ac,au,aN,am,aZ];refine ⟨_,rfl,_,hc,HR hK hv hU hp ht hr (fun p hp hm=>ho p hp (ap _ hm)) hZ fun H2 F2 K7 uF=>⟨_,_,rfl,jV ⟨_,rfl,?_⟩⟩⟩;obtain ⟨D2,L5,u2⟩:=cx H2 F2 _ _ K7 uF;generalize jk s t v k x r ar=R at h L5 ⊢;unfold gM at h;rw [bI,ah];refine aP (fun h0=>?_) fun h0=>?_
 ·simp only [Ur h0] at h;exact sF L5 hl fun H3 D3 QH u3=>⟨rfl,jV ⟨_,rfl,h H3 D3 QH (u2.trans u3)⟩⟩
 ·simp only [Uq h0] at h;exact jV ⟨_,rfl,h H2 _ L5 u2⟩
theorem vp (hD:DK H db D s t ws){R:ag->Prop} (h:∀ H' D',DK H' db D' s.collect.2 t ws->Up D H D' H'->R H') :
  ∃ q,(some ⟨db,0,none⟩:Option Addr)=some q∧∃ p:Option Addr,aq H q=some (.pointer p)∧ae PP 7 #[.pointer p] (fun v1 H1=>∃ p1:Option Addr,v1=.pointer p1∧ae PP 10 #[.pointer p1] (fun v2 H2=>∃ n1:Int,∃ n2:Int,∃ n3:Int,v2=.tuple #[ac n1,ac n2,ac n3]∧R H2) H1) H:=by
 obtain ⟨b,F,hc,hK,ap,ht,cx⟩:=hD.kern;refine ⟨_,rfl,_,hc,dS hK fun sb F1 _ hS I2 _ G9=>⟨_,rfl,oe hS fun H1 Jv be _=>⟨_,_,_,rfl,?_⟩⟩⟩;obtain ⟨D',Rb,u'⟩:=cx H1 F _ _ (G9 H1 _ Jv be) ⟨be.mono I2,fun _ h=>.inl h⟩;exact h H1 D' Rb u'
theorem tU (hD:DK H db D s t s.stack) (dc:10<=s.stack.length) (hl:s.stack.length<=100000){R:ag->Prop} (h:∀ H' D',DK H' db D' { s with stack:=s.stack.take 10 } t s.stack->Up D H D' H'->R H') :
  ∃ q,(some ⟨db,0,none⟩:Option Addr)=some q∧∃ p:Option Addr,aq H q=some (.pointer p)∧∃ q2,(some ⟨db,0,none⟩:Option Addr)=some q2∧∃ a:Option Addr,∃ l:Nat,∃ c:Nat,aq H (q2.add 1)=some (.slice a l c) ∧
   ae PP 7 #[.pointer p] (fun v1 H1=>∃ p1:Option Addr,v1=.pointer p1∧((aq H1 (q2.add 1)=some (.slice a l c)∧True)∧True) ∧
    ae PP 8 #[.pointer p1,ac (IntKind.wrap .i64 ((l:Int)-10))] (fun v2 H2=>∃ n:Int,v2=ac n∧True∧R H2) H1) H:=by
 obtain ⟨aw,cw,G,Jf,_,_⟩:=hD.list;obtain ⟨b,F,hc,hK,ap,ht,cx⟩:=hD.kern;refine ⟨_,rfl,_,hc,_,rfl,_,_,_,Jf,dS hK fun sb F1 _ hS I2 _ G9=>⟨_,rfl,⟨⟨Jf,trivial⟩,trivial⟩,?_⟩⟩;have e1:IntKind.wrap .i64 ((s.stack.length:Int)-10)=(s.stack.length:Int)-10:=az (by omega) (by omega);rw [e1];refine o5 hS ⟨by omega,by omega⟩ fun H6 N3 f6=>⟨_,rfl,trivial,?_⟩;have edrop:(s.drop ((s.stack.length:Int)-10)).2={ s with stack:=s.stack.take 10 }:=by
  unfold SP.drop;rw [Uq (by omega)];simp only;rw [show s.stack.length-((s.stack.length:Int)-10).toNat=10 by omega]
 have Lq:=G9 H6 _ N3 f6;rw [edrop] at Lq;obtain ⟨D',Rb,u'⟩:=cx H6 F _ _ Lq ⟨f6.mono I2,fun _ h=>.inl h⟩;exact h H6 D' Rb u'
theorem zM (hD:DK H db D s t ws) (dc:10<=ws.length) :
  ∃ a c,aq H ((⟨db,0,none⟩:Addr).add 1)=some (.slice a ws.length c)∧(10:Int)<=(c:Int)∧Wr H ((⟨db,0,none⟩:Addr).add 1)∧DK (bc H ((⟨db,0,none⟩:Addr).add 1) (.slice a (Int.toNat 10) c)) db D s t (ws.take 10)∧Up D H D (bc H ((⟨db,0,none⟩:Addr).add 1) (.slice a (Int.toNat 10) c)):=by
 obtain ⟨b,F,a,l,c,G,rfl,hB,hO,hK,d1,d2,d3,d4,d5,d6⟩:=hD;have Nb:ws.length=l:=by have:=hO.len;simpa [av] using this
 subst Nb;simp only [Us,Uz,Vt] at d4 d5;have J7:=hO.2.1;have fs:Fr [db] H (bc H ((⟨db,0,none⟩:Addr).add 1) (.slice a (Int.toNat 10) c)):=Fr.set (by show db∈[db];simp);have Is:bH (bc H ((⟨db,0,none⟩:Addr).add 1) (.slice a (Int.toNat 10) c)) db #[Kj b,.slice a 10 c]:=hB.set 1 _;have Pa:cZ 1 H a 10 c (av (ws.take 10)) G:=by
  refine AW (m:=ws.length-10) (ys:=av (ws.drop 10)) ?_ (by simp [av];omega);rw [show 10+(ws.length-10)=ws.length by omega]
  have:av (ws.take 10)++av (ws.drop 10)=av ws:=by
   unfold av;rw [←Vf,List.take_append_drop]
  rw [this];exact hO
 refine ⟨a,c,hB.cell 1,by omega,hB.wr (o:=1) (by simp),⟨b,F,a,10,c,G,rfl,Is,Pa.fr fs (fun x hx hm=>d2 (by rw [←Uu.1 hm];exact hx)),hK.fr fs (fun x hx hm=>d1 (by rw [←Uu.1 hm];exact hx)) (by simpa using d4.1),d1,d2,d3,?_,?_,d6.fr fs (by simpa using d5.1)⟩,⟨fs.1,fun y hy hn=>?_⟩,fun y hy=>.inl hy⟩
 ·simp only [Us,Uz,Vt];exact d4
 ·simp only [Us,Uz,Vt];exact d5
 ·simp only [Us,Uz,Vt] at hn;exact fs.2 y hy (by simpa using hn.1)
theorem t8 {l:List Int}{w:Int}{i:Nat} (h:i<l.length):gR (l.drop i) w=if l.getD i 0=w then 0 else gR (l.drop (i+1)) w+1:=by
 rw [Vr h,fL h];rfl
theorem rh {a:Option Addr}{l c:Nat}{xs:List Int} (hr:Rd 1 H a l (av xs)) (hl:l<=1000000){w:Int} (h:Q (ac (gR xs w:Int)) H):ae PP 12 #[.slice a l c,ac w] Q H:=by
 have ai:l=xs.length:=by have:=hr.1;simpa [av] using this.symm
 apply FO;dsimp only [ao,bv,aB,bq,ac,bu,cX,ck,bd];refine ⟨fun u H'=>H'=H∧∃ i:Nat,u=[ac i]∧i<=l∧gR xs w=i+gR (xs.drop i) w,fun u _=>match u with
  | [.int _ i]=>((l:Int)-i).toNat
  | _=>0,⟨rfl,0,rfl,U7 _,by simp⟩,?_⟩
 rintro u H1 ⟨rfl,i,rfl,hi,e⟩ _;refine ⟨_,rfl,iN (fun aa=>?_) fun JT=>?_⟩
 ·have lp:i<xs.length:=by omega
  have e1:IntKind.wrap .i64 ((i:Int)+1)=((i+1:Nat):Int):=by rw [az (by omega) (by omega)];omega
  obtain ⟨p,hp,hc,_⟩:=hr.int (i:=(i:Int)) (by omega) (by omega);rw [Uy] at hc;rw [t8 lp] at e;refine ⟨⟨by omega,aa⟩,p,hp,_,by rw [Uy,UC];exact hc,?_⟩;rw [bI,ah,e1];refine aP (fun hx=>?_) fun hx=>?_
  ·rw [Ur hx,WX] at e;rw [e] at h;exact h
  ·rw [Uq hx] at e;exact ⟨⟨rfl,i+1,rfl,by omega,by omega⟩,by simp;omega⟩
 ·have lp:i=l:=by omega
  subst lp;rw [ai,Wd] at e
  have:gR xs w=xs.length:=e;rw [this,←ai] at h;exact h
theorem Ar {b:Bool}{X Y:Prop} (h1:b=true->X) (h2:b=false->Y):cond b X Y:=by
 cases b
 ·exact h2 rfl
 ·exact h1 rfl
theorem HT {a b:Prop} [Decidable a] [Decidable b] {S F:Prop} (h1:a->b->S) (h2:F):cond (decide a) (cond (decide b) S F) F:=by
 refine Ar (fun ha=>Ar (fun hb=>h1 (of_decide_eq_true ha) (of_decide_eq_true hb)) fun _=>h2) fun _=>h2
theorem Gn (hD:DK H da A s t ws) (hl:ws.length<=5000) (hv:KAllW s t v) (h:∀ H' D',Up A H D' H'->Q (.bool true) H'):ae PP 15 #[ac 3] (fun v1 H1=>∃ n1:Int,v1=ac n1∧ae PP 15 #[ac 4] (fun v2 H2=>∃ n2:Int,v2=ac n2∧ae PP 15 #[ac 7] (fun v3 H3=>∃ n3:Int,v3=ac n3 ∧
  ae PP 14 #[Kj da,ac 8,.string (⟨#[43]⟩:ByteArray),ac n1,.slice (some (⟨H2.size,0,none⟩:Addr)) 1 1,ac n3] (fun v4 H4=>∃ b:Bool,v4=.bool b∧Q (.bool b) H4) H3) (H2.push (.cells #[ac n2] 26))) H1) H:=by
 have i3:pN 3:=⟨by decide,by decide⟩;have i4:pN 4:=⟨by decide,by decide⟩;have i7:pN 7:=⟨by decide,by decide⟩;refine vV i3 ⟨_,rfl,vV i4 ⟨_,rfl,vV i7 ⟨_,rfl,?_⟩⟩⟩;have M7:=AJ hv (x:=⟨#[43]⟩) (by rfl) Au i3 i4;rw [Ii] at M7;refine Ih (hD.nil (Fr.push _ _ _)) (by omega) M7 (Et _ _ _) (HO hD (Fr.refl _ _)) (by decide) fun H' D' _ u=>⟨_,rfl,?_⟩;exact h H' D' (B8 u)
end
end
section
attribute [local irreducible] ba bQ bS eX d8 fx fu fo fA lz fj cE cG d7
theorem mM {H H1:ag}{S:Nat}{cs:Array Value}{A A1:aR} (hB:bH H S cs) (hn:S∉A) (u:Up A H A1 H1):bH H1 S cs∧S∉A1:=⟨hB.fr u.1 hn,Up.out u hn hB.lt⟩
theorem sL {H:ag}{a:Option Addr}{l c:Nat}{xs:List StepP} (hk:dT H) (ht:gL H) (hs:jf H a l xs):ae PP 3 #[.slice a l c] (fun v H'=>v=.bool true∧Fr [] H H') H:=by
 have L4:bj PP 30=some (1,8,some (ac 0)):=by kernel_rfl
 obtain ⟨s0,t0,v,w10,B,go⟩:=y9 (words:=30000) (oops:=3000) (k:=2977) (m:=29810) (by decide) (by decide) (by decide) (by decide) (by decide);apply Iy;dsimp only [aK,aY,bk,bJ,aT,dd,ao,cB,ak,cS,bv,aB,aH,aE,jT,bq,ac,bu,zp,cX,zq,au,ck,aN,fi,am,aJ,cC,aZ,ax,bP,bd];refine go hk ht fun H1 da A Rc f1 nA=>⟨_,rfl,go (hk.fr f1 (by simp)) (ht.fr f1 (by simp)) fun H2 db Bf Se f2 nB=>⟨_,rfl,?_⟩⟩;simp only [Uw,Ut];have M4:=Rc.lt;have ic:=f1.1;have uh0:UH H H2 da db A Bf { s0 with stack:=ten w10 } t0 (ten w10) { s0 with stack:=ten w10 } t0 (ten w10):=⟨Rc.nil f2,Se,fun x hx hm=>by have:=M4 x hx;have:=nB x hm;omega,nA,fun x hx=>by have:=nB x hx;omega,hk.lt,ht.lt,f1.trans f2⟩;have JV:xs.length=l:=hs.1;refine ⟨fun w H'=>∃(i:Nat) (A Bf:aR) (s s':SP) (t:TB),w=[ac i]∧i<=l∧i<=300∧UH H H' da db A Bf s t s.stack s' t s'.stack∧UR s s' t v∧s.stack.length<=10+i,fun w _=>match w with
  | [.int _ i]=>((l:Int)-i).toNat
  | _=>0,⟨0,A,Bf,_,_,t0,rfl,U7 _,U7 _,uh0,B.ur,UI _⟩,?_⟩
 clear uh0 Rc Se f1 f2 nA nB M4 ic go B;rintro w H4 ⟨i,A,Bf,s,s',t,rfl,hi,hi3,uh,ur,ai⟩ _;refine ⟨_,rfl,HT (fun aa h300=>?_) (Gn (Q:=fun v H'=>v=.bool true∧Fr [] H H') uh.a (by omega) ur.a fun H' D' u=>⟨rfl,Aj uh.fr u.1 uh.n1⟩)⟩;have lp:i<xs.length:=by omega
 have e1:IntKind.wrap .i64 ((i:Int)+1)=((i+1:Nat):Int):=by rw [az (by omega) (by omega)];omega
 obtain ⟨p,JX,a6,l6,c6,hcells,N1,S8⟩:=hs.2 i xs[i] (UF lp);generalize xs[i]=x at hcells N1;have f4:=uh.fr;have cel:∀ j v,(x.vals a6 l6 c6)[j]?=some v->aq H4 ((p.add (i*6)).add j)=some v:=fun j v hv=>EU f4 (hcells j v hv);have cel0:aq H4 (p.add (i*6))=some (ac x.kind):=by
  have:=cel 0 _ rfl;rw [Addr.add_zero'] at this;exact this
 refine ⟨⟨by omega,aa⟩,p,JX,_,by rw [Uy];exact cel0,_,by rw [Uy];exact cel 1 _ rfl,_,by rw [Uy];exact cel 2 _ rfl,_,by rw [Uy];exact cel 3 _ rfl,_,_,_,by rw [Uy];exact cel 4 _ rfl,_,by rw [Uy];exact cel 5 _ rfl,?_⟩;have If:=bH.new H4 #[ac 0,ac 0,.string (⟨#[]⟩:ByteArray),ac 0,.slice none 0 0,ac 0] 28;refine Kv If rfl ?_;simp only [yb];have hB:=yV (v0:=ac x.kind) (v1:=ac x.cls) (v2:=.string x.sel) (v3:=ac x.r) (v4:=.slice a6 l6 c6) (v5:=ac x.word) If rfl;have f45:Fr [] H4 (tS (H4.push (.cells #[ac 0,ac 0,.string (⟨#[]⟩:ByteArray),ac 0,.slice none 0 0,ac 0] 28)) H4.size (ac x.kind) (ac x.cls) (.string x.sel) (ac x.r) (.slice a6 l6 c6) (ac x.word)):=by
  have fp:=Fr.push [] H4 (.cells #[ac 0,ac 0,.string (⟨#[]⟩:ByteArray),ac 0,.slice none 0 0,ac 0] 28);have ff:=Ao (H:=(H4.push (.cells #[ac 0,ac 0,.string (⟨#[]⟩:ByteArray),ac 0,.slice none 0 0,ac 0] 28))) (b:=H4.size) (v0:=ac x.kind) (v1:=ac x.cls) (v2:=.string x.sel) (v3:=ac x.r) (v4:=.slice a6 l6 c6) (v5:=ac x.word);exact ⟨Ux fp.1 ff.1,fun y hy _=>by rw [ff.2 y (UJ hy fp.1) (by simp;omega),fp.2 y hy (by simp)]⟩
 generalize (tS (H4.push (.cells #[ac 0,ac 0,.string (⟨#[]⟩:ByteArray),ac 0,.slice none 0 0,ac 0] 28)) H4.size (ac x.kind) (ac x.cls) (.string x.sel) (ac x.r) (.slice a6 l6 c6) (ac x.word))=HS at hB f45 ⊢;have sA:H4.size∉A:=fun hm=>by have:=uh.a.lt _ hm;omega
 have sB:H4.size∉Bf:=fun hm=>by have:=uh.b.lt _ hm;omega
 have uS:=uh.nil f45;generalize H4.size=S at hB sA sB ⊢;clear cel cel0 If hcells f45 f4 uh JX;have M2:=ur.len;have dc:=ur.ten;rw [e1];refine ⟨fun w H'=>w=[]∧∃ A1 B1 s1 s1',UH H H' da db A1 B1 s1 t s1.stack s1' t s1'.stack∧UR s1 s1' t v∧s1.stack.length<=10+i∧bH H' S #[ac x.kind,ac x.cls,.string x.sel,ac x.r,.slice a6 l6 c6,ac x.word]∧S∉A1∧S∉B1,⟨_,hB.cell 0,?_⟩,?_⟩
 ·obtain ⟨aw,cw,G,Jf,_,_⟩:=uS.a.list;rw [bI,ah];refine aP (fun _=>⟨_,rfl,_,_,_,Jf,iN (fun hgt=>?_) fun _=>⟨rfl,_,_,_,_,uS,ur,ai,hB,sA,sB⟩⟩) fun _=>⟨rfl,_,_,_,_,uS,ur,ai,hB,sA,sB⟩;refine tU uS.a (by omega) (by omega) fun H6 A6 O9 u6=>?_;obtain ⟨K8,sA6⟩:=mM hB sA u6;have uh6:=uS.seta O9 u6;refine tU uh6.b (by omega) (by omega) fun H7 B7 Mc u7=>?_;obtain ⟨Is,sB7⟩:=mM K8 sB u7;have uh7:=uh6.setb Mc u7;obtain ⟨a7,c7,QO,OD,Re,Rf,u8⟩:=zM uh7.a (by omega);obtain ⟨MR,_⟩:=mM Is sA6 u8;have uh8:=uh7.seta Rf u8;obtain ⟨a8,c8,Oo,OE,Rg,Rh,u9⟩:=zM uh8.b (by omega);obtain ⟨Jy,_⟩:=mM MR sB7 u9;refine ⟨_,rfl,_,_,_,QO,⟨by decide,OD⟩,_,rfl,Re,_,rfl,_,_,_,Oo,⟨by decide,OE⟩,_,rfl,Rg,?_⟩;exact ⟨rfl,_,_,_,_,uh8.setb Rh u9,ur.take10,by simp only [U4];omega,Jy,sA6,sB7⟩
 clear hB sA sB uS M2 dc ur ai s s' A Bf;rintro _ H5 ⟨rfl,A,Bf,s,s',uh,ur,ai,hB,sA,sB⟩ _;refine ⟨rfl,?_⟩;have M2:=ur.len;have dc:=ur.ten;have again:(∃(i':Nat) (A Bf:aR) (s s':SP) (t:TB),([Value.int .i64 ((i+1:Nat):Int)]:List Value)=[ac i']∧i'<=l∧i'<=300∧UH H H5 da db A Bf s t s.stack s' t s'.stack∧UR s s' t v∧s.stack.length<=10+i')∧((l:Int)-((i+1:Nat):Int)).toNat<((l:Int)-(i:Int)).toNat :=
  ⟨⟨i+1,A,Bf,s,s',t,rfl,by omega,by omega,uh,ur,by omega⟩,by omega⟩
 refine ⟨fun w H'=>w=[]∧H'=H5,⟨_,hB.cell 0,?_⟩,?_⟩
 ·rw [bK,ah];refine aP (fun _=>again) fun _=>⟨_,hB.cell 2,Ar (fun _=>⟨_,hB.cell 1,?_⟩) fun _=>⟨rfl,rfl⟩⟩;rw [bI,ah];exact aP (fun _=>again) fun _=>⟨rfl,rfl⟩
 rintro _ H9 ⟨rfl,rfl⟩ _;refine ⟨rfl,?_⟩;clear again;have OF:=Rd.nilF N1 uh.fr;have hlen6:x.args.length=l6:=by have:=N1.1;simpa [av] using this
 have hlt5a:=uh.a.lt;have hlt5b:=uh.b.lt;refine ⟨fun w H'=>∃(j:Nat) (a1:Option Addr) (c1:Nat) (Y:aR) (ar:List Int) (a2:Option Addr) (c2:Nat) (Y':aR) (ar':List Int),w=[.slice a1 j c1,.slice a2 j c2,ac j]∧j<=l6∧Fr [] H9 H'∧cZ 1 H' a1 j c1 (av ar) Y∧cZ 1 H' a2 j c2 (av ar') Y'∧(∀ y∈Y,H9.size<=y)∧(∀ y∈Y',H9.size<=y)∧dB Y Y'∧Pairs s.stack s'.stack ar ar',fun w _=>match w with
  | [_,_,.int _ j]=>((l6:Int)-j).toNat
  | _=>0,⟨0,none,0,[],[],none,0,[],[],rfl,U7 _,Fr.refl _ _,cZ.nil 1 _,cZ.nil 1 _,by simp,by simp,dB.nil_left _,Pairs.nil _ _⟩,?_⟩
 rintro w H6 ⟨j,a1,c1,Y,ar,a2,c2,Y',ar',rfl,hj,f56,Ln,J0,hY,Pb,Sf,hP⟩ _;have K8:=hB.fr f56 (by simp);have uh6:=uh.nil f56;have hs56:=f56.1;refine ⟨_,_,_,_,_,_,_,rfl,_,_,_,K8.cell 4,iN (fun OG=>?_) fun JT=>?_⟩
 ·have JY:j<x.args.length:=by omega
  have e2:IntKind.wrap .i64 ((j:Int)+1)=((j+1:Nat):Int):=by rw [az (by omega) (by omega)];omega
  obtain ⟨q,hq,Sg,_⟩:=(Rd.nilF OF f56).int (i:=(j:Int)) (by omega) (by omega);simp only [Uy] at Sg;refine ⟨_,_,_,K8.cell 4,⟨by omega,OG⟩,q,hq,_,by rw [Uy,UC];exact Sg,mC uh6.a (by omega) (by omega) ⟨_,rfl,?_⟩⟩;have hw:=AG (n:=x.args.getD j 0) (m:=s.stack.length) (by omega);have Ri:=J0.lt;refine io L4 rfl (by kernel_rfl) Ln rfl (by simp [ge]) (Il (by omega)) (by decide) fun a7 c7 Y7 H7 Pa u7 _=>⟨_,_,_,rfl,?_⟩;obtain ⟨f57,T2⟩:=Up.fresh f56 u7 hY;have Is:=hB.fr f57 (by simp);have uh7:=uh.nil f57;have MS:=J0.fr u7.1 Sf.symm;have Sh:dB Y7 Y':=fun y hy hm=>by
   rcases u7.2 y hy with h1 | h1
   ·exact Sf y h1 hm
   ·have:=Ri y hm;omega
  obtain ⟨q',J4,OH,_⟩:=(Rd.nilF OF f57).int (i:=(j:Int)) (by omega) (by omega);simp only [Uy] at OH;refine ⟨_,_,_,Is.cell 4,⟨by omega,OG⟩,q',J4,_,by rw [Uy,UC];exact OH,mC uh7.b (by omega) (by omega) ⟨_,rfl,?_⟩⟩;rw [←M2];have Rj:=Pa.lt;refine io L4 rfl (by kernel_rfl) MS rfl (by simp [ge]) (Il (by omega)) (by decide) fun a8 c8 Y8 H8 T3 u8 _=>⟨_,_,_,rfl,?_⟩;obtain ⟨f58,T4⟩:=Up.fresh f57 u8 Pb;rw [e2];refine ⟨⟨j+1,a7,c7,Y7,_,a8,c8,Y8,_,rfl,by omega,f58,by rw [cT];exact Pa.fr u8.1 Sh,by rw [cT];exact T3,T2,T4,fun y hy hm=>?_,hP.snoc hw⟩,by simp;omega⟩;rcases u8.2 y hm with h1 | h1
  ·exact Sh y hy h1
  ·have:=Rj y hy;omega
 have T5:j=l6:=by omega
 subst T5;clear JT hj;have oA:∀ p,a1=some p->p.block∉A:=fun p hp hm=>by have:=hY _ (nI Ln p hp);have:=hlt5a _ hm;omega
 have oB:∀ p,a2=some p->p.block∉Bf:=fun p hp hm=>by have:=Pb _ (nI J0 p hp);have:=hlt5b _ hm;omega
 have lY:=Ln.lt;have lY':=J0.lt;have dYA:dB Y A:=fun y hy hm=>by have:=hY y hy;have:=hlt5a y hm;omega
 have dYB:dB Y Bf:=fun y hy hm=>by have:=hY y hy;have:=hlt5b y hm;omega
 have dYA':dB Y' A:=fun y hy hm=>by have:=Pb y hy;have:=hlt5a y hm;omega
 have dYB':dB Y' Bf:=fun y hy hm=>by have:=Pb y hy;have:=hlt5b y hm;omega
 refine vp uh6.b fun H7 B7 Mc u7=>?_;obtain ⟨Is,sB7⟩:=mM K8 sB u7;have uh7:=uh6.setb Mc u7;have Rk:=Ln.fr u7.1 dYB;have MS:=J0.fr u7.1 dYB';have oB7:∀ p,a2=some p->p.block∉B7:=fun p hp=>Up.out u7 (oB p hp) (lY' _ (nI J0 p hp));have dYB7:dB Y' B7:=fun y hy=>Up.out u7 (dYB' y hy) (lY' y hy);obtain ⟨Gw,Gw',ρ,ua,ub,hS,wk,wk'⟩:=ur.g;have hw:=AG (n:=x.r) (m:=s.stack.length) (by omega);have lr:E0 x.r s.stack.length<s'.stack.length:=by omega
 have mem:∀ {l:List Int}{m:Nat},m<l.length->l.getD m 0∈l:=fun {l m} h=>by rw [fL h];exact UQ h
 have arm:∀ w∈ar,w∈s.stack:=fun w hw=>by
  obtain ⟨y,hy,rfl⟩:=Vc.1 hw;obtain ⟨m,hm,e,_⟩:=hP.at_ y hy;rw [←fL hy,e];exact mem hm
 have arm':∀ w∈ar',w∈s'.stack:=fun w hw=>by
  obtain ⟨y,hy,rfl⟩:=Vc.1 hw;obtain ⟨m,hm,_,e⟩:=hP.at_ y (by rw [hP.len];exact hy);rw [←fL hy,e];exact mem (by omega)
 refine ⟨_,Is.cell 1,_,Is.cell 2,_,Is.cell 3,mC uh7.a (by omega) (by omega) ⟨_,rfl,⟨⟨Is.cell 2,trivial⟩,⟨Is.cell 1,trivial⟩,trivial⟩,?_⟩⟩;have st:=ur.step (k:=x.cls) (sel:=x.sel) (m:=E0 x.r s.stack.length) (ar:=ar) (ar':=ar') (by omega) hw hP rfl rfl;refine E2 uh7.a (by omega) ur.a ua ur.p Rk.rd oA (fun w hw _=>?_) fun H8 A8 Rf u8=>⟨_,_,rfl,trivial,?_⟩
 ·rcases Us.1 hw with rfl | hw
  ·exact wk _ (mem (by omega))
  ·exact wk _ (arm w hw)
 obtain ⟨MR,sA8⟩:=mM Is sA u8;have uh8:=uh7.seta Rf u8;refine ⟨_,MR.cell 1,_,MR.cell 2,_,MR.cell 3,mC uh8.b (by omega) (by omega) ⟨_,rfl,⟨⟨MR.cell 2,trivial⟩,⟨MR.cell 1,trivial⟩,trivial⟩,?_⟩⟩;rw [←M2];have Rl:=MS.fr u8.1 dYA';refine E2 uh8.b (by omega) (KAllW.col ur.b) (ub.col ur.b ur.r) ur.p Rl.rd oB7 (fun w hw _=>?_) fun H9 B9 Rh u9=>⟨_,_,rfl,trivial,?_⟩
 ·rcases Us.1 hw with rfl | hw
  ·exact wk' _ (mem lr)
  ·exact wk' _ (arm' w hw)
 have uh9:=uh8.setb Rh u9;generalize jk s t v x.cls x.sel (s.stack.getD (E0 x.r s.stack.length) 0) ar=R at st uh9 ⊢;generalize jk s'.collect.2 t v x.cls x.sel (s'.stack.getD (E0 x.r s.stack.length) 0) ar'=R' at st uh9 ⊢;obtain ⟨ec,et,urN,es,es',ef,ek,el⟩:=st;have lenN:=urN.len;have lenN':(gM R'.2.1 s'.stack R'.1).2.length<=s.stack.length+1:=by
  rw [es,es'] at lenN;omega
 rw [bK,ah,Uq (fun hn=>hn ec)];obtain ⟨aw,cw,G,Jf,T6,_⟩:=uh9.a.list;obtain ⟨aw',cw',G',OI,Rm,_⟩:=uh9.b.list;obtain ⟨_,_,_,T7,_⟩:=uh9.a.kern;refine ⟨_,rfl,_,_,_,Jf,_,rfl,_,_,_,OI,rh T6.rd (by omega) ⟨_,rfl,⟨⟨OI,trivial⟩,trivial⟩,rh Rm.rd (by omega) ⟨_,rfl,trivial,?_⟩⟩⟩;rw [ef,bK,ah,Uq (fun hn=>hn rfl)];rw [←es,←es',←et] at uh9;have fin:(∃(i':Nat) (A Bf:aR) (s s':SP) (t:TB),([Value.int .i64 ((i+1:Nat):Int)]:List Value)=[ac i']∧i'<=l∧i'<=300∧UH H H9 da db A Bf s t s.stack s' t s'.stack∧UR s s' t v∧s.stack.length<=10+i')∧((l:Int)-((i+1:Nat):Int)).toNat<((l:Int)-(i:Int)).toNat :=
  ⟨⟨i+1,_,_,_,_,_,rfl,by omega,by omega,uh9,urN,by rw [es];omega⟩,by omega⟩
 refine jF T7.kinds ⟨_,rfl,?_⟩;rw [bK,ah];refine aP (fun JB=>?_) fun _=>fin;rw [bK,ah,Uq (fun hn=>hn (ek JB))];exact fin
end
end Go.Proofs.YtgjfejoohojokaaGreatDoor
namespace Kw
open Go
theorem vE {W W':World}{may:MemPlace->Prop} (hf:Fr [] W.heap W'.heap) (ho:W'.os=W.os) (hout:W'.output=W.output):W.keptBut W' may:=by
 refine ⟨ho,hout,fun i hi=>?_⟩;rw [hf.2 i hi (by simp)];cases h:W.heap[i]? with
 | none=>trivial
 | some o=>cases o <;> first | exact ⟨rfl,rfl,rfl,fun _ _=>rfl⟩ | exact .inr ⟨rfl,rfl⟩ | rfl
theorem post_law {H:Type}{enc:TypeId × Value->H}{P:Program}{f:Func}{s:ChangeSpec}{apart fresh handsOn:Bool}{W W':World}{args:Array Value}{v:Value}{ds gs:List (DataW H)}{before pa pv:List MemPlace}
  (hW:DataW.Whole enc P f.params.toList s.vars apart W args.toList ds gs before)
  (Rn:∀ (b:Nat) (sp:Nat->Bool) (hd:Bool),DataW.TrodAll enc P W' b sp hd f.resultTypes.toList (v.resultList f.resultTypes.size) (s.fn H (ds++gs)).results [])
  (OJ:∀ sp:Nat->Bool,(∀ p∈before,sp p.block=true)->DataW.TrodAll enc P W' 0 sp true f.params.toList args.toList (s.fn H (ds++gs)).args pa)
  (OK:∀ sp:Nat->Bool,(∀ p∈before,sp p.block=true)->DataW.TrodVars enc P W' sp s.vars (s.fn H (ds++gs)).vars pv)
  (hf:Fr [] W.heap W'.heap) (ho:W'.os=W.os) (hout:W'.output=W.output):s.post enc P f apart fresh handsOn false W args v W' :=
 ⟨ds,gs,before,[],pa,pv,hW,Rn _ _ _,OJ _ (fun p hp=>by simpa using hW.lt p hp),OK _ (fun p hp=>by simpa using hW.lt p hp),vE hf ho hout,fun h=>by cases h⟩
end Kw
namespace Go.Proofs.YtgjfejoohojokaaGreatDoor
open Kw
section
theorem IZ:ownKnob Tryz.prog.godebug=none:=by kernel_rfl
theorem AY : Tryz.prog.globalNamed "kiln/word.kinds" = some aS := by kernel_rfl
theorem Ip : Tryz.prog.globalNamed "internal/strconv.uint64pow10" = some gP := by kernel_rfl
theorem EM:(Tryz.prog.globals[aS]?).map (·.type)=some 77:=by kernel_rfl
theorem Hx:(Tryz.prog.globals[gP]?).map (·.type)=some 343:=by kernel_rfl
theorem Fk:Tryz.prog.underlying 77=some (.array 4 3):=by kernel_rfl
theorem IM:Tryz.prog.underlying 343=some (.array 20 288):=by kernel_rfl
theorem zQ:Tryz.prog.underlying 3=some (.int .i64):=by kernel_rfl
theorem IP:Tryz.prog.underlying 288=some (.int .u64):=by kernel_rfl
theorem AI:Tryz.prog.cellsOf 3=1:=by kernel_rfl
theorem IW:Tryz.prog.cellsOf 288=1:=by kernel_rfl
theorem Kc:Tryz.prog.cellsOf 343=20:=by kernel_rfl
theorem AN {W:World}{n:String}{g:Nat}{cs:Array Value}{i:Nat}{v:Value} (hg:PP.globalNamed n=some g) (hv:W.var? PP n=some cs) (h:cs[i]?=some v):aq W.heap ⟨g,i,none⟩=some v:=by
 have:=World.var?_cell hg hv i;rw [h] at this;exact this
open Go.Lib in
theorem qH {L : List (String × DataW Unit)} (hm : ("kiln/word.kinds", Rows.laid_kiln_word_kinds) ∈ L) {W : World} (h : laidMet PP L W) : dT W.heap := by
 obtain ⟨g, t, cs, fuel, p, hg, ht, hv, hd⟩ := laidMet.reads h (n := "kiln/word.kinds") (d := Rows.laid_kiln_word_kinds) hm
 obtain rfl:=Option.some.inj (AY.symm.trans hg);obtain rfl:=Option.some.inj (EM.symm.trans ht);have one:∀ i (k:Int),i<4->([3,1,2,1]:List Int)[i]?=some k->aq W.heap ⟨aS,i,none⟩=some (.int .i64 k):=by
  intro i k hi hk;obtain ⟨fuel',d,q,he,JP⟩:=array_elem Fk hd i hi;rw [AI,UC] at JP;obtain ⟨n,Hc,hx,_⟩:=DataW.trod_int zQ JP;obtain ⟨T8,_⟩:=Prod.mk.inj hx;have hc:cs.toList[i]?=some (.int .i64 n):=by
   have:=congrArg (·[0]?) Hc;simpa [WP,List.getElem?_drop] using this
  have hs:n=k:=by
   have e:some d=some (.lit (.int .i64 k):DataW Unit):=by
    rw [←he];rcases i with _ | _ | _ | _ | i
    all_goals first | omega | (cases hk;rfl)
   rw [T8] at e;simpa using e
  have hf:=AN AY hv (i:=i) (v:=.int .i64 n) (by rw [←hc];simp);rw [hs] at hf;exact hf
 exact ⟨one 0 3 (by decide) rfl,one 1 1 (by decide) rfl,one 2 2 (by decide) rfl,one 3 1 (by decide) rfl⟩
open Go.Lib in
theorem tW {L : List (String × DataW Unit)} (hm : ("internal/strconv.uint64pow10", Rows.laid_internal_strconv_uint64pow10) ∈ L) {W : World} (h : laidMet PP L W) : gL W.heap := by
 obtain ⟨g, t, cs, fuel, p, hg, ht, hv, hd⟩ := laidMet.reads h (n := "internal/strconv.uint64pow10") (d := Rows.laid_internal_strconv_uint64pow10) hm
 obtain rfl:=Option.some.inj (Ip.symm.trans hg);obtain rfl:=Option.some.inj (Hx.symm.trans ht);have JP:DataW.trod _ PP W _ _ _ fuel 343 cs.toList=some (tabData .u64 Lib.pow10Tab,p):=hd;have hc:=cells_of_tab IM IP IW Kc JP;unfold World.var? at hv;rw [Ip] at hv;simp only [Option.bind_some] at hv;cases hb:W.heap[gP]? with
 | none=>rw [hb] at hv;simp at hv
 | some ob =>
  rw [hb] at hv;cases ob with
  | cells a b c =>
   simp only [Option.some.injEq] at hv;subst hv;refine ⟨(b,c),?_⟩;rw [hb,←hc]
  | _=>simp at hv
end
end Go.Proofs.YtgjfejoohojokaaGreatDoor
namespace Go.Proofs.YtgjfejoohojokaaGreatDoor
section
open Kw Go.Deep
noncomputable def kA:Array Field:=match PP.underlying 28 with
 | some (.struct fs)=>fs
 | _=>#[]
theorem E1:PP.underlying 28=some (.struct kA):=by kernel_rfl
theorem vn:PP.underlying 22=some (.slice 28):=by kernel_rfl
theorem E6:PP.underlying 25=some (.slice 3):=by kernel_rfl
theorem II:PP.underlying 9=some .string:=by kernel_rfl
theorem Hq:PP.underlying 26=some (.int .i64):=by kernel_rfl
theorem HF:PP.cellsOf 26=1:=by kernel_rfl
theorem IR:PP.cellsOf 9=1:=by kernel_rfl
theorem HQ:PP.cellsOf 25=1:=by kernel_rfl
theorem EY:PP.cellsOf 28=6:=by kernel_rfl
theorem IU:PP.bytesOf 3=8:=by kernel_rfl
theorem Iu:PP.bytesOf 28=72:=by kernel_rfl
theorem Gu:(kA[0]?).map (fun f=>(f.type,f.offset))=some (3,0):=by kernel_rfl
theorem GR:(kA[1]?).map (fun f=>(f.type,f.offset))=some (3,1):=by kernel_rfl
theorem Fu:(kA[2]?).map (fun f=>(f.type,f.offset))=some (9,2):=by kernel_rfl
theorem E8:(kA[3]?).map (fun f=>(f.type,f.offset))=some (3,3):=by kernel_rfl
theorem zU:(kA[4]?).map (fun f=>(f.type,f.offset))=some (25,4):=by kernel_rfl
theorem Fv:(kA[5]?).map (fun f=>(f.type,f.offset))=some (26,5):=by kernel_rfl
theorem gt {Hh:Type}{enc:TypeId × Value->Hh}{W:World}{n:Nat}{fs:Array Field}{cs:List Value}{xs:List (DataW Hh × List MemPlace)} (ai:xs.length=fs.size)
  (h:∀ (i:Nat) (f:Field),fs[i]?=some f->DataW.trod enc PP W 0 (fun _=>true) true n f.type ((cs.drop f.offset).take (PP.cellsOf f.type))=xs[i]?){j:Nat}{t:TypeId}{off:Nat}
  (hf:(fs[j]?).map (fun f=>(f.type,f.offset))=some (t,off)) (hc:PP.cellsOf t=1):∃ y,xs[j]?=some y∧DataW.trod enc PP W 0 (fun _=>true) true n t ((cs.drop off).take 1)=some y:=by
 obtain ⟨f,be,bw⟩:=V9.1 hf;obtain ⟨rfl,rfl⟩:=Prod.mk.inj bw;have hj:j<fs.size:=by
  rcases Vp j fs.size with h1 | h1
  ·exact h1
  ·rw [Ve h1] at be;cases be
 have hx:xs[j]?=some (xs[j]'(by omega)):=UF (by omega);refine ⟨_,hx,?_⟩
 have:=h j f be;rw [hc,hx] at this;exact this
theorem yw {Hh:Type}{enc:TypeId × Value->Hh}{W:World}{n:Nat}{cs:List Value}{x:DataW Hh × List MemPlace} (h:DataW.trod enc PP W 0 (fun _=>true) true n 28 cs=some x) :
  ∃ y a l c,cs=StepP.vals y a l c∧Rd 1 W.heap a l (av y.args)∧(l=0∨∃ m,(l+m)*8∈x.1.weights PP 28):=by
 obtain ⟨xs,n',_,rfl,hl,LN,hx⟩:=DataW.trod_struct E1 h;rw [EY] at hl;obtain ⟨y0,e0,t0⟩:=gt LN hx Gu AI;obtain ⟨y1,e1,t1⟩:=gt LN hx GR AI;obtain ⟨y2,e2,t2⟩:=gt LN hx Fu IR;obtain ⟨y3,e3,t3⟩:=gt LN hx E8 AI;obtain ⟨y4,e4,t4⟩:=gt LN hx zU HQ;obtain ⟨y5,e5,t5⟩:=gt LN hx Fv HF;obtain ⟨k0,v0,_,_⟩:=DataW.trod_int zQ t0;obtain ⟨k1,v1,_,_⟩:=DataW.trod_int zQ t1;obtain ⟨s2,v2,_⟩:=DataW.trod_string II t2;obtain ⟨k3,v3,_,_⟩:=DataW.trod_int zQ t3;obtain ⟨k5,v5,_,_⟩:=DataW.trod_int Hq t5;have Hc:∀ v4,(cs.drop 4).take 1=[v4]->cs=[ac k0,ac k1,.string s2,ac k3,v4,ac k5]:=fun v4 h4=>by
  match cs,hl with
  | [a,b,c,d,e,f],_ =>
   simp at v0 v1 v2 v3 v5 h4;subst v0;subst v1;subst v2;subst v3;subst v5;subst h4;rfl
 rcases Go.ChangeShapes.open_ints E6 zQ AI t4 with ⟨h4,_⟩ | ⟨a,len,cap,zs,h4,_,JK,_,hm,hy,hS,_⟩
 ·exact ⟨⟨k0,k1,s2,k3,[],k5⟩,none,0,0,Hc _ h4,⟨rfl,fun _=>rfl,fun p hp=>by cases hp⟩,.inl rfl⟩
 ·have hlz:len<=zs.length:=by rw [hm];simpa using JK
  refine ⟨⟨k0,k1,s2,k3,zs.take len,k5⟩,some a,len,cap,Hc _ h4,⟨by simp [av];omega,fun h=>(by cases h),fun p hp i hi=>?_⟩,.inr ⟨zs.length-len,?_⟩⟩
  ·cases hp
   have:=hS i (by omega);have k8:i<len:=by omega
   show W.cell? (a.add i)=_;rw [this];simp only [av,List.map_take,WP,Va];rw [Ur k8,UF (by omega)];simp only [Vw,Option.some.injEq,Value.int.injEq,UU];rw [UD,UF (by omega)];rfl
  ·simp only [DataW.weights,E1];have hj:(kA.toList.map (·.type))[4]?=some 25:=by
    obtain ⟨f,be,bw⟩:=V9.1 zU;obtain ⟨la,_⟩:=Prod.mk.inj bw;rw [Va,Vm,be];simp [la]
   refine DataW.weights_mem_each hj (d:=y4.1) (by rw [Va,e4];rfl) _ ?_;rw [hy];simp only [DataW.weights,E6,IU];refine Us.2 (.inl ?_);simp only [Go.ChangeShapes.lits,UZ,U4,Wb];omega
theorem ke {Hh:Type}{P:Program}{e:TypeId}{d:DataW Hh}:∀ {ds:List (DataW Hh)},d∈ds->∀ n∈d.weights P e,n∈DataW.weightsAll P e ds
 | [],h,_,_=>by cases h
 | _ :: _,h,n,hn=>by
  simp only [DataW.weightsAll,Uz];rcases Us.1 h with rfl | h
  ·exact Or.inl hn
  ·exact Or.inr (ke h n hn)
theorem wo {Hh:Type}{enc:TypeId × Value->Hh}{W:World}{v:Value}{d:DataW Hh}{p:List MemPlace} (h:DataW.Trod enc PP W 0 (fun _=>true) true 22 v d p)
  (hv:∃ a l c,v=.slice a l c) (hz:∀ n∈d.weights PP 22,n<=reachBytes):∃ a l c xs,v=.slice a l c∧jf W.heap a l xs∧l<=10000000000000:=by
 obtain ⟨a0,l0,c0,rfl⟩:=hv;obtain ⟨fuel,h⟩:=h;rcases open_slice vn h with ⟨h0,_⟩ | ⟨a,len,cap,m,n,D,Pl,Hc,_,JK,_,hm,hx,T9⟩
 ·have e:Value.slice a0 l0 c0=.slice none 0 0:=by simpa [Value.cells] using h0
  cases e;exact ⟨none,0,0,[],rfl,⟨rfl,fun i x hx=>by simp at hx⟩,by omega⟩
 have e:Value.slice a0 l0 c0=.slice (some a) len cap:=by simpa [Value.cells] using Hc
 cases e;obtain ⟨hd,_⟩:=Prod.mk.inj hx;subst hd;have Mo:l0<=m:=by rw [hm];simpa using JK
 simp only [DataW.weights,vn,UZ,Ws,Iu] at hz;have hb:reachBytes=140737488351232:=by decide
 have ai:l0<=10000000000000:=by
  have:=hz _ (V6 ..);rw [hb] at this;omega
 have each:∀ i,i<l0->∃ y,sU W.heap (a.add (i*6)) y:=fun i hi=>by
  obtain ⟨cs',h1,h2⟩:=T9 i (by omega);rw [EY] at h1;obtain ⟨y,b,l,c,rfl,h3,h5⟩:=yw h2;obtain ⟨_,_,hc⟩:=World.cells?_some h1;refine ⟨y,b,l,c,fun j v hv=>?_,h3,?_⟩
  ·have hj:j<6:=by
    rcases Vp j 6 with h | h
    ·exact h
    ·rw [Vd (by simpa [StepP.vals] using h)] at hv;cases hv
   have:=hc j hj;rw [hv] at this;exact this
  ·rcases h5 with h5 | ⟨m',h5⟩
   ·omega
   ·have:=hz ((l+m')*8) (Vb _ (Vx _ (ke (UM.2 ⟨i,by simpa using hi,rfl⟩) _ h5)));rw [hb] at this;omega
 obtain ⟨Y,hY⟩:∃ Y:Nat->StepP,∀ i,i<l0->sU W.heap (a.add (i*6)) (Y i):=by
  refine ⟨fun i=>if hi:i<l0 then Classical.choose (each i hi) else ⟨0,0,⟨#[]⟩,0,[],0⟩,fun i hi=>?_⟩;simp only [dif_pos hi];exact Classical.choose_spec (each i hi)
 refine ⟨some a,l0,c0,(List.range l0).map Y,rfl,⟨by simp,fun i x hx=>⟨a,rfl,?_⟩⟩,ai⟩;have hi:i<l0:=by
  rcases Vp i l0 with h | h
  ·exact h
  ·rw [Vd (by simpa using h)] at hx;cases hx
 have:x=Y i:=by simpa [hi] using hx.symm
 rw [this];exact hY i hi
theorem DF:laidOutB PP=true:=by kernel_rfl
theorem A3 {W W':World} (hf:Fr [] W.heap W'.heap){x:MemPlace} (hx:x.block<W.heap.size):W.sameAt W' x:=by
 cases x with
 | cell b off =>
  show aq W'.heap ⟨b,off,none⟩=aq W.heap ⟨b,off,none⟩;have e:W'.heap[b]?=W.heap[b]?:=hf.2 b hx (by simp);unfold aq;dsimp only;rw [e]
 | map b=>exact hf.2 _ hx (by simp)
theorem y6 {Hh:Type}{enc:TypeId × Value->Hh}{W W':World} (hf:Fr [] W.heap W'.heap){t:TypeId} (hr:PP.readableRec t=true) (Ro:t<PP.types.size){v:Value}{d:DataW Hh}{p:List MemPlace}
  (h:DataW.Trod enc PP W 0 (fun _=>true) true t v d p){sp:Nat->Bool} (hs:∀ x∈p,sp x.block=true):DataW.Trod enc PP W' 0 sp true t v d p:=by
 have aa:∀ x∈p,x.block<W.heap.size:=fun x hx=>by
  obtain ⟨n,hn⟩:=h;exact DataW.trod_lt n _ _ _ hn x hx
 exact WideElems.Trod_stays DF hr Ro h (fun x hx=>A3 hf (aa x hx)) hs
end
end Go.Proofs.YtgjfejoohojokaaGreatDoor
