/- Lemmas for RPT: functions of the program as predicate transformers, and their contracts. -/
import Derived.Test.YtgcoppcogllpbaaGreatDoorZT1
import Derived.Shelf.SlSortCmp.Whole1
import Derived.Ground.SlsfProg
import Derived.Test.YtgcoppcogllpbaaGreatDoorProg
import Derived.Shelf.Sort.Plain
import Derived.Ground.NamesProg
set_option linter.all false
set_option maxRecDepth 100000
set_option maxHeartbeats 4000000
namespace Go.Proofs.YtgcoppcogllpbaaGreatDoor
open Kw
section
variable {H:ae}{hb wb tb bb:Nat}{W T B:Int->Int}{low:Int}{r:RH}{Q:QT}
theorem yo {F:az} (hR:bQ H hb F r){k:Int} (h:∀ H',bQ H' hb F (r.marks k).2->Fr F H H'->Q (.int .i64 (r.marks k).1) H'):ac PP Ds #[.pointer (some ⟨hb,0,none⟩),.int .i64 k] Q H:=by
 have hR0:=hR
 obtain ⟨wb,tb,bb,W,T,B,low,rfl,hR⟩:=hR
 apply yj
 unfold Et iV pV cS
 refine kB hR ⟨_,rfl,?_⟩
 simp only [cond_false]
 refine kG ⟨_,rfl,?_⟩
 have hd:=hR.d
 simp only [List.nodup_cons,List.mem_cons,List.not_mem_nil,or_false,not_or] at hd
 unfold RH.marks at h
 by_cases hk:0<=k∧k<=1073741824
 ·simp only [hk,and_self,if_true] at h
  simp only [af,cond_true,cond_false,Option.isNone_some,Option.isNone_none,aE,ay,aP,aJ,aF,aK,aL,aw,aN,aM,aD,aO,and_assoc,true_and,and_true,ak,Nat.zero_add,Nat.mul_one,ao,am,av,Bool.not_true,Bool.not_false,aU,aX,hk]
  refine ⟨hR.hd.wr (by simp),h _ ⟨wb,tb,bb,W,T,B,low,rfl,?_⟩ (Fr.set (by simp))⟩
  exact { hd:=hR.hd.set 6 (.int .i64 k),mw:=hR.mw.set_ne (by simp;omega) _,mt:=hR.mt.set_ne (by simp;omega) _,mb:=hR.mb.set_ne (by simp;omega) _,d:=hR.d,kinds:=hR.kinds.fr (Fr.set (F:=[hb]) (by simp)) (by simp;omega),wf:={ hR.wf with m0:=hk.1,m1:=hk.2 },sim:={ hR.sim with } }
 ·simp only [hk,if_false] at h
  simp only [af,cond_true,cond_false,Option.isNone_some,Option.isNone_none,aE,ay,aP,aJ,aF,aK,aL,aw,aN,aM,aD,aO,and_assoc,true_and,and_true,ak,Nat.zero_add,Nat.mul_one,ao,am,av,Bool.not_true,Bool.not_false,aU,aX,hk]
  exact h H hR0 (Fr.refl _ _)
theorem AO (hw:WFH r) (hs:SimH W T B low r){o:RO}{k i w:Int} (ho:al r.objs k=some o) (h0:0<=i) (h1:i<o.slots.length) (hf:o.fmt=0) :
  SimH (upd W (o.place+2+i) w) T B low { r with objs:=eR r.objs k (cC i w) }:=by
 have hom:=au ho
 have hlen:o.len=2+(o.slots.length:Int):=by unfold RO.len lenOf;rw [if_neg (by omega)]
 have key:∀ o'∈eR r.objs k (cC i w),∃ a∈r.objs,(a.oop=k∧a=o∧o'=cC i w o)∨(a.oop≠k∧o'=a∧(a.place+a.len<=o.place∨o.place+o.len<=a.place)):=by
  intro o' ho'
  simp only [eR,List.mem_map] at ho'
  obtain ⟨a,ha,rfl⟩:=ho'
  refine ⟨a,ha,?_⟩
  split
  ·rename_i hk
   have:a=o:=by have:=bW hw.objs ha;rw [hk,ho] at this;exact (Option.some.inj this).symm
   exact .inl ⟨hk,this,by rw [this]⟩
  ·rename_i hk
   exact .inr ⟨hk,rfl,apart hw.objs ha hom.1 (by rw [hom.2];exact hk)⟩
 refine { tab:=fun j g0 g1=>?_,bor:=fun o' ho'=>?_,cls:=fun o' ho'=>?_,shp:=fun o' ho'=>?_,wrd:=fun o' ho' hf' j hj=>?_,byt:=fun o' ho' hf' j hj=>?_,byr:=fun o' ho' hf' j hj1 hj2=>?_,low1:=hs.low1,low2:=hs.low2,low3:=fun j g0 g1=>?_ }
 ·rw [hs.tab j g0 g1]
  have e:=ce (l:=r.objs) (k:=k) (j:=j) (f:=cC i w) fun _=>rfl
  simp only [e]
  cases al r.objs j with
  | none=>rfl
  | some a=>simp only [Option.map_some];split <;> rfl
 ·obtain ⟨a,ha,⟨hk,rfl,rfl⟩ | ⟨hk,rfl,hd⟩⟩:=key o' ho'
  ·exact hs.bor a ha
  ·exact hs.bor _ ha
 ·obtain ⟨a,ha,⟨hk,rfl,rfl⟩ | ⟨hk,rfl,hd⟩⟩:=key o' ho'
  ·show upd W _ w a.place=a.cls
   rw [upd,if_neg (by omega)];exact hs.cls _ ha
  ·have:=o'.len_pos
   rw [upd,if_neg (by omega)];exact hs.cls _ ha
 ·obtain ⟨a,ha,⟨hk,rfl,rfl⟩ | ⟨hk,rfl,hd⟩⟩:=key o' ho'
  ·show upd W _ w (a.place+1)=2*(((a.slots.set i.toNat w).length:Nat):Int)+a.fmt
   rw [upd,if_neg (by omega),List.length_set];exact hs.shp _ ha
  ·have:=o'.len_pos
   rw [upd,if_neg (by omega)];exact hs.shp _ ha
 ·obtain ⟨a,ha,⟨hk,rfl,rfl⟩ | ⟨hk,rfl,hd⟩⟩:=key o' ho'
  ·have hj':j<a.slots.length:=by simpa [cC] using hj
   show upd W _ w (a.place+2+j)=(a.slots.set i.toNat w).getD j 0
   unfold upd
   split
   ·rename_i he
    have:i.toNat=j:=by omega
    simp [this,hj']
   ·rename_i he
    have hne:i.toNat≠j:=by omega
    rw [hs.wrd _ ha hf j hj']
    simp [List.getElem?_set,hne]
  ·have hl:o'.len=2+(o'.slots.length:Int):=by unfold RO.len lenOf;rw [if_neg (by omega)]
   rw [upd,if_neg (by omega)];exact hs.wrd _ ha hf' j hj
 ·obtain ⟨a,ha,⟨hk,rfl,rfl⟩ | ⟨hk,rfl,hd⟩⟩:=key o' ho'
  ·have:a.fmt=1:=hf'
   omega
  ·have hl:o'.len=2+((o'.slots.length:Int)+3) / 4:=by unfold RO.len lenOf;rw [if_pos hf']
   rw [upd,if_neg (by omega)];exact hs.byt _ ha hf' j hj
 ·obtain ⟨a,ha,⟨hk,rfl,rfl⟩ | ⟨hk,rfl,hd⟩⟩:=key o' ho'
  ·have:a.fmt=1:=hf'
   omega
  ·rw [upd,if_neg (by omega)];exact hs.byr _ ha hf' j hj1 hj2
 ·have:=hs.low3 j g0 g1
  have e:=ce (l:=r.objs) (k:=k) (j:=j) (f:=cC i w) fun _=>rfl
  simp only [e]
  cases hj:al r.objs j with
  | none=>exact absurd hj this
  | some a=>simp
theorem kl {F:az} (hR:bQ H hb F r){k i w:Int} (hf:∀ o,al r.objs k=some o->o.fmt=0) (h:∀ H',bQ H' hb F (r.put k i w).2->Fr F H H'->Q (.int .i64 (r.put k i w).1) H'):ac PP pu #[.pointer (some ⟨hb,0,none⟩),.int .i64 k,.int .i64 i,.int .i64 w] Q H:=by
 have hR0:=hR
 obtain ⟨wb,tb,bb,W,T,B,low,rfl,hR⟩:=hR
 apply qP
 unfold zK iV pV lV cS
 refine pA hR ?_
 unfold nQ
 have hwf:=iS hR.wf k i w
 unfold RH.put at h hwf
 cases ho:al r.objs k with
 | none=>rw [ho] at h;exact ⟨_,_,_,_,rfl,by simpa using h H hR0 (Fr.refl _ _)⟩
 | some o =>
  rw [ho] at h hwf
  have hm:=(au ho).1
  obtain ⟨h1,h2,h3,h4,h5,h6⟩:=hR.in_ hm
  simp only at h hwf ⊢
  split
  ·rename_i hi
   simp only [if_pos hi] at h
   exact ⟨_,_,_,_,rfl,by simpa using h H hR0 (Fr.refl _ _)⟩
  ·rename_i hi
   simp only [if_neg hi] at h hwf
   have hs:=mW hR hm (i:=i) (by omega) (by omega)
   have hf0:=hf o ho
   rw [if_neg (by omega)]
   have hs:=hs.2 (by omega)
   refine ⟨_,_,_,_,rfl,?_⟩
   simp only [af,cond_true,cond_false,Option.isNone_some,Option.isNone_none,aE,ay,aP,aJ,aF,aK,aL,aw,aN,aM,aD,aO,and_assoc,true_and,and_true,ak,Nat.zero_add,Nat.mul_one,ao,am,av,Bool.not_true,Bool.not_false,aU,aX,ne_eq,not_true_eq_false,if_false]
   refine ye hR.kinds ⟨_,rfl,?_⟩
   by_cases hmay:eS o.fmt w
   ·simp only [hmay,not_true_eq_false,if_false] at h hwf
    have hmay':eS 0 w:=hf0 ▸ hmay
    simp only [af,cond_true,cond_false,Option.isNone_some,Option.isNone_none,aE,ay,aP,aJ,aF,aK,aL,aw,aN,aM,aD,aO,and_assoc,true_and,and_true,ak,Nat.zero_add,Nat.mul_one,ao,am,av,Bool.not_true,Bool.not_false,aU,aX,hf0,hmay',decide_true,hR.c0]
    rw [if_neg (by decide)]
    refine ⟨by omega,by omega,hR.mw.wr (by omega) (by omega),h _ ⟨wb,tb,bb,upd W (o.place+2+i) w,T,B,low,rfl,?_⟩ (Fr.set (by simp))⟩
    have hd:=hR.d
    simp only [List.nodup_cons,List.mem_cons,List.not_mem_nil,or_false,not_or] at hd
    refine { hd:=?_,mw:=hR.mw.set (by omega) w,mt:=hR.mt.set_ne (by simp;omega) _,mb:=hR.mb.set_ne (by simp;omega) _,d:=hR.d,kinds:=hR.kinds.fr (Fr.set (F:=[wb]) (by simp)) (by simp;omega),wf:=hwf,sim:=AO hR.wf hR.sim ho (by omega) (by omega) hf0 }
    have:=hR.hd.set_ne (a:=⟨wb,(o.place+2+i).toNat,none⟩) (by simp;omega) (.int .i64 w)
    simp only [oh,iR (k:=k) (f:=cC i w) (l:=r.objs) (fun _=>rfl) (fk i w)]
    exact this
   ·simp only [hmay,not_false_eq_true,if_true] at h
    simp only [af,cond_true,cond_false,Option.isNone_some,Option.isNone_none,aE,ay,aP,aJ,aF,aK,aL,aw,aN,aM,aD,aO,and_assoc,true_and,and_true,ak,Nat.zero_add,Nat.mul_one,ao,am,av,Bool.not_true,Bool.not_false,aU,aX,hmay,decide_false]
    exact h H hR0 (Fr.refl _ _)
end
structure PV where
 W:Int->Int
 T:Int->Int
 B:Int->Int
 count:Int
 en:Int
 low:Int
 mark:Int
 ever:Int
 turn:Int
structure Raw (H:ae) (hb wb tb bb nw nt:Nat) (p:PV):Prop where
 hd:aV H hb #[.slice (some ⟨wb,0,none⟩) nw nw,.slice (some ⟨tb,0,none⟩) nt nt,.slice (some ⟨bb,0,none⟩) nt nt,.int .i64 p.count,.int .i64 p.en,.int .i64 p.low,.int .i64 p.mark,.int .i64 p.ever,.int .i64 p.turn]
 mw:cA H wb nw p.W
 mt:cA H tb nt p.T
 mb:cA H bb nt p.B
 d:[hb,wb,tb,bb,ap].Nodup
section
variable {H:ae}{hb wb tb bb nw nt:Nat}{p:PV}{W T B:Int->Int}{low:Int}{r:RH}{Q:QT}
theorem PHs.raw (h:PHs H hb wb tb bb W T B low r):Raw H hb wb tb bb r.words.toNat (r.oops+1).toNat ⟨W,T,B,r.objs.length,aQ r.objs,low,r.mark,r.born,r.turn⟩:=⟨h.hd,h.mw,h.mt,h.mb,h.d⟩
theorem Raw.phs (h:Raw H hb wb tb bb nw nt p) (hk:bY H) (hw:WFH r) (hs:SimH p.W p.T p.B p.low r) (e1:nw=r.words.toNat) (e2:nt=(r.oops+1).toNat) (e3:p.count=r.objs.length) (e4:p.en=aQ r.objs) (e5:p.mark=r.mark) (e6:p.ever=r.born) (e7:p.turn=r.turn):PHs H hb wb tb bb p.W p.T p.B p.low r:=by
 subst e1;subst e2
 have h1:=h.hd
 rw [e3,e4,e5,e6,e7] at h1
 exact ⟨h1,h.mw,h.mt,h.mb,h.d,hk,hw,hs⟩
theorem Raw.c0 (h:Raw H hb wb tb bb nw nt p):aa H ⟨hb,0,none⟩=some (.slice (some ⟨wb,0,none⟩) nw nw):=h.hd.cell 0
theorem Raw.c1 (h:Raw H hb wb tb bb nw nt p):aa H ⟨hb,1,none⟩=some (.slice (some ⟨tb,0,none⟩) nt nt):=h.hd.cell 1
theorem Raw.c2 (h:Raw H hb wb tb bb nw nt p):aa H ⟨hb,2,none⟩=some (.slice (some ⟨bb,0,none⟩) nt nt):=h.hd.cell 2
theorem Raw.c3 (h:Raw H hb wb tb bb nw nt p):aa H ⟨hb,3,none⟩=some (.int .i64 p.count):=h.hd.cell 3
theorem Raw.c4 (h:Raw H hb wb tb bb nw nt p):aa H ⟨hb,4,none⟩=some (.int .i64 p.en):=h.hd.cell 4
theorem Raw.c5 (h:Raw H hb wb tb bb nw nt p):aa H ⟨hb,5,none⟩=some (.int .i64 p.low):=h.hd.cell 5
theorem Raw.c6 (h:Raw H hb wb tb bb nw nt p):aa H ⟨hb,6,none⟩=some (.int .i64 p.mark):=h.hd.cell 6
theorem Raw.c7 (h:Raw H hb wb tb bb nw nt p):aa H ⟨hb,7,none⟩=some (.int .i64 p.ever):=h.hd.cell 7
theorem Raw.c8 (h:Raw H hb wb tb bb nw nt p):aa H ⟨hb,8,none⟩=some (.int .i64 p.turn):=h.hd.cell 8
theorem Raw.word (h:Raw H hb wb tb bb nw nt p){i:Int} (h0:0<=i) (h1:i<nw):aa H ⟨wb,i.toNat,none⟩=some (.int .i64 (p.W i)):=h.mw.cell h0 h1
theorem Raw.tabc (h:Raw H hb wb tb bb nw nt p){i:Int} (h0:0<=i) (h1:i<nt):aa H ⟨tb,i.toNat,none⟩=some (.int .i64 (p.T i)):=h.mt.cell h0 h1
theorem Raw.ne (h:Raw H hb wb tb bb nw nt p):(hb≠wb∧hb≠tb∧hb≠bb∧hb≠ap)∧(wb≠tb∧wb≠bb∧wb≠ap)∧(tb≠bb∧tb≠ap)∧bb≠ap:=by
 have hd:=h.d
 simpa only [List.nodup_cons,List.mem_cons,List.not_mem_nil,or_false,not_or,not_false_eq_true,List.nodup_nil,and_true] using hd
theorem Raw.setW (h:Raw H hb wb tb bb nw nt p){i:Int} (h0:0<=i) (v:Int):Raw (aB H ⟨wb,i.toNat,none⟩ (.int .i64 v)) hb wb tb bb nw nt { p with W:=upd p.W i v }:=by
 obtain ⟨⟨n1,n2,n3,n4⟩,⟨n5,n6,n7⟩,⟨n8,n9⟩,n10⟩:=h.ne
 exact ⟨h.hd.set_ne n1 _,h.mw.set h0 v,h.mt.set_ne n5.symm _,h.mb.set_ne n6.symm _,h.d⟩
theorem Raw.setT (h:Raw H hb wb tb bb nw nt p){i:Int} (h0:0<=i) (v:Int):Raw (aB H ⟨tb,i.toNat,none⟩ (.int .i64 v)) hb wb tb bb nw nt { p with T:=upd p.T i v }:=by
 obtain ⟨⟨n1,n2,n3,n4⟩,⟨n5,n6,n7⟩,⟨n8,n9⟩,n10⟩:=h.ne
 exact ⟨h.hd.set_ne n2 _,h.mw.set_ne n5 _,h.mt.set h0 v,h.mb.set_ne n8.symm _,h.d⟩
theorem Raw.setB (h:Raw H hb wb tb bb nw nt p){i:Int} (h0:0<=i) (v:Int):Raw (aB H ⟨bb,i.toNat,none⟩ (.int .i64 v)) hb wb tb bb nw nt { p with B:=upd p.B i v }:=by
 obtain ⟨⟨n1,n2,n3,n4⟩,⟨n5,n6,n7⟩,⟨n8,n9⟩,n10⟩:=h.ne
 exact ⟨h.hd.set_ne n3 _,h.mw.set_ne n6 _,h.mt.set_ne n8 _,h.mb.set h0 v,h.d⟩
theorem Raw.set3 (h:Raw H hb wb tb bb nw nt p) (v:Int):Raw (aB H ⟨hb,3,none⟩ (.int .i64 v)) hb wb tb bb nw nt { p with count:=v }:=by
 obtain ⟨⟨n1,n2,n3,n4⟩,_⟩:=h.ne
 exact ⟨h.hd.set 3 (.int .i64 v),h.mw.set_ne n1.symm _,h.mt.set_ne n2.symm _,h.mb.set_ne n3.symm _,h.d⟩
theorem Raw.set4 (h:Raw H hb wb tb bb nw nt p) (v:Int):Raw (aB H ⟨hb,4,none⟩ (.int .i64 v)) hb wb tb bb nw nt { p with en:=v }:=by
 obtain ⟨⟨n1,n2,n3,n4⟩,_⟩:=h.ne
 exact ⟨h.hd.set 4 (.int .i64 v),h.mw.set_ne n1.symm _,h.mt.set_ne n2.symm _,h.mb.set_ne n3.symm _,h.d⟩
theorem Raw.set5 (h:Raw H hb wb tb bb nw nt p) (v:Int):Raw (aB H ⟨hb,5,none⟩ (.int .i64 v)) hb wb tb bb nw nt { p with low:=v }:=by
 obtain ⟨⟨n1,n2,n3,n4⟩,_⟩:=h.ne
 exact ⟨h.hd.set 5 (.int .i64 v),h.mw.set_ne n1.symm _,h.mt.set_ne n2.symm _,h.mb.set_ne n3.symm _,h.d⟩
theorem Raw.set6 (h:Raw H hb wb tb bb nw nt p) (v:Int):Raw (aB H ⟨hb,6,none⟩ (.int .i64 v)) hb wb tb bb nw nt { p with mark:=v }:=by
 obtain ⟨⟨n1,n2,n3,n4⟩,_⟩:=h.ne
 exact ⟨h.hd.set 6 (.int .i64 v),h.mw.set_ne n1.symm _,h.mt.set_ne n2.symm _,h.mb.set_ne n3.symm _,h.d⟩
theorem Raw.set7 (h:Raw H hb wb tb bb nw nt p) (v:Int):Raw (aB H ⟨hb,7,none⟩ (.int .i64 v)) hb wb tb bb nw nt { p with ever:=v }:=by
 obtain ⟨⟨n1,n2,n3,n4⟩,_⟩:=h.ne
 exact ⟨h.hd.set 7 (.int .i64 v),h.mw.set_ne n1.symm _,h.mt.set_ne n2.symm _,h.mb.set_ne n3.symm _,h.d⟩
theorem Raw.set8 (h:Raw H hb wb tb bb nw nt p) (v:Int):Raw (aB H ⟨hb,8,none⟩ (.int .i64 v)) hb wb tb bb nw nt { p with turn:=v }:=by
 obtain ⟨⟨n1,n2,n3,n4⟩,_⟩:=h.ne
 exact ⟨h.hd.set 8 (.int .i64 v),h.mw.set_ne n1.symm _,h.mt.set_ne n2.symm _,h.mb.set_ne n3.symm _,h.d⟩
theorem Raw.wrh (h:Raw H hb wb tb bb nw nt p){i:Nat} (hi:i<9):Wr H ⟨hb,i,none⟩:=h.hd.wr hi
theorem Raw.keep (h:Raw H hb wb tb bb nw nt p){F:az}{H':ae} (hf:Fr F H H') (hd:co [hb,wb,tb,bb] F):Raw H' hb wb tb bb nw nt p :=
 ⟨h.hd.fr hf (hd _ (by simp)),h.mw.fr hf (hd _ (by simp)),h.mt.fr hf (hd _ (by simp)),h.mb.fr hf (hd _ (by simp)),h.d⟩
def DG (p:PV) (oop cls n f:Int):PV:={ p with W:=upd (upd p.W p.en cls) (p.en+1) (2*n+f),T:=upd p.T oop p.en,B:=upd p.B oop p.ever,en:=p.en+lenOf n f,ever:=IntKind.wrap .i64 (p.ever+1),count:=p.count+1 }
theorem Bt (hR:Raw H hb wb tb bb nw nt p){oop cls n f:Int} (h0:0<=p.en) (h1:p.en+2<=nw) (h1':nw<=1048576) (h2:0<=oop) (h3:oop<nt) (h4:0<=n) (h5:n<=8192) (h6:f=0∨f=1) (h7:0<=p.count) (h8:p.count<=100000)
  (h:∀ H',Raw H' hb wb tb bb nw nt (DG p oop cls n f)->Fr [hb,wb,tb,bb] H H'->Q (.int .i64 p.en) H'):ac PP tm #[.pointer (some ⟨hb,0,none⟩),.int .i64 oop,.int .i64 cls,.int .i64 n,.int .i64 f] Q H:=by
 apply we
 unfold By iV wW lV cS;dsimp only [shH]
 have e1:ee .i64 n 1=2*n:=by
  have:=iD n 1 (by decide) ⟨by simp;omega,by simp;omega⟩
  simpa [Int.mul_comm] using this
 have e2:rb .i64 (2*n) f=2*n+f:=by
  have:=kz (2*n) 1 f.toNat (by decide) (by omega) ⟨by omega,by omega⟩ (by simp)
  rw [Int.toNat_of_nonneg (by omega)] at this
  exact this
 have e3:IntKind.wrap .i64 (p.en+1)=p.en+1:=ah (by omega) (by omega)
 have r1:=hR.setW (i:=p.en) h0 cls
 have r2:=r1.setW (i:=p.en+1) (by omega) (2*n+f)
 have r3:=r2.setT (i:=oop) h2 p.en
 have r4:=r3.setB (i:=oop) h2 p.ever
 have hl:=kk (n:=n) (fmt:=f) h4
 have hl2:=gK (n:=n) (fmt:=f) h4
 have e4:IntKind.wrap .i64 (p.en+lenOf n f)=p.en+lenOf n f:=ah (by omega) (by omega)
 have e5:IntKind.wrap .i64 (p.count+1)=p.count+1:=ah (by omega) (by omega)
 have r5:=r4.set4 (p.en+lenOf n f)
 have r6:=r5.set7 (IntKind.wrap .i64 (p.ever+1))
 have r7:=r6.set3 (p.count+1)
 simp only [af,cond_true,cond_false,Option.isNone_some,Option.isNone_none,aE,ay,aP,aJ,aF,aK,aL,aw,aN,aM,aD,aO,and_assoc,true_and,and_true,ak,Nat.zero_add,Nat.mul_one,ao,am,av,Bool.not_true,Bool.not_false,aU,aX,e1,e2,e3,hR.c4,hR.c0,r2.c1,r2.c2,r2.c7,r4.c4]
 refine ⟨by omega,by omega,hR.mw.wr h0 (by omega),by omega,by omega,r1.mw.wr (by omega) (by omega),by omega,by omega,r2.mt.wr h2 h3,h2,h3,r3.mb.wr h2 h3,?_⟩
 refine iJ h4 (by omega) ?_
 simp only [af,cond_true,cond_false,Option.isNone_some,Option.isNone_none,aE,ay,aP,aJ,aF,aK,aL,aw,aN,aM,aD,aO,and_assoc,true_and,and_true,ak,Nat.zero_add,Nat.mul_one,ao,am,av,Bool.not_true,Bool.not_false,aU,aX,r4.c4,e4,r5.c7,r6.c3,e5]
 refine ⟨r4.wrh (by decide),r5.wrh (by decide),r6.wrh (by decide),h _ r7 ?_⟩
 ·exact ((((((((Fr.refl _ _).step (by simp)).step (by simp)).step (by simp)).step (by simp)).step (by simp)).step (by simp)).step (by simp))
end
section
variable {H:ae}{hb wb tb bb:Nat}{W T B:Int->Int}{low:Int}{r:RH}{Q:QT}
theorem z8 (hw:WFH r) (hs:SimH W T B low r){cls n f m' ev':Int}{W':Int->Int} (hn:0<=n) (hf:f=0∨f=1) (hlt:(r.objs.length:Int)<r.oops)
  (h0:∀ i,i<aQ r.objs->W' i=W i) (h1:W' (aQ r.objs)=cls) (h2:W' (aQ r.objs+1)=2*n+f) (h3:∀ i,aQ r.objs+2<=i->i<aQ r.objs+lenOf n f->W' i=if f=1 then 0 else 4) :
  SimH W' (upd T (bk r.objs) (aQ r.objs)) (upd B (bk r.objs) r.born) (bk r.objs+1) { r with mark:=m',born:=ev',objs:=r.objs++[bF r cls n f] }:=by
 have hl:=dh hw.objs hw.o1 hlt
 have hend:=cT hw.objs hw.w0
 have key:∀ o∈r.objs++[bF r cls n f],(o∈r.objs∧o.place+o.len<=aQ r.objs∧o.oop≠bk r.objs)∨o=bF r cls n f:=by
  intro o ho
  rcases List.mem_append.1 ho with ho | ho
  ·exact .inl ⟨ho,ir hw.objs ho,cE.1 hl.2.2.1 o ho⟩
  ·exact .inr (by simpa using ho)
 have hnl:((bF r cls n f).slots.length:Int)=n:=by simp only [bF,List.length_replicate];omega
 have hnn:(bF r cls n f).len=lenOf n f:=by simp only [RO.len,hnl];rfl
 have hget:∀ i:Nat,i<(bF r cls n f).slots.length->(bF r cls n f).slots.getD i 0=if f=1 then 0 else 4:=by
  intro i hi
  simp only [bF,List.length_replicate] at hi
  simp [bF,hi]
 refine { tab:=fun j g0 g1=>?_,bor:=fun o ho=>?_,cls:=fun o ho=>?_,shp:=fun o ho=>?_,wrd:=fun o ho hf' j hj=>?_,byt:=fun o ho hf' j hj=>?_,byr:=fun o ho hf' j hj1 hj2=>?_,low1:=by omega,low2:=by show bk r.objs+1<=r.oops+1;omega,low3:=fun j g0 g1=>?_ }
 ·have e:=bP (l:=r.objs) (x:=bF r cls n f) (k:=j)
  simp only [e]
  unfold upd
  by_cases hj:j=bk r.objs
  ·subst hj
   rw [if_pos rfl,hl.2.2.1]
   simp [bF]
  ·rw [if_neg hj,hs.tab j g0 g1]
   cases al r.objs j with
   | some o=>rfl
   | none =>
    simp only
    rw [if_neg]
    exact fun e=>hj e.symm
 ·rcases key o ho with ⟨h4,h5,h6⟩ | rfl
  ·rw [upd,if_neg h6];exact hs.bor o h4
  ·simp [bF,upd]
 ·rcases key o ho with ⟨h4,h5,h6⟩ | rfl
  ·have:=o.len_pos
   rw [h0 _ (by omega)];exact hs.cls o h4
  ·exact h1
 ·rcases key o ho with ⟨h4,h5,h6⟩ | rfl
  ·have:=o.len_pos
   rw [h0 _ (by omega)];exact hs.shp o h4
  ·rw [hnl];exact h2
 ·rcases key o ho with ⟨h4,h5,h6⟩ | rfl
  ·have hlo:o.len=2+(o.slots.length:Int):=by unfold RO.len lenOf;rw [if_neg (by omega)]
   rw [h0 _ (by omega)];exact hs.wrd o h4 hf' j hj
  ·rw [hget j hj]
   have hf0:f=0:=hf'
   have hlo:lenOf n f=2+n:=by unfold lenOf;rw [if_neg (by omega)]
   exact h3 _ (by simp only [bF];omega) (by simp only [bF];rw [hlo];omega)
 ·rcases key o ho with ⟨h4,h5,h6⟩ | rfl
  ·have hlo:o.len=2+((o.slots.length:Int)+3) / 4:=by unfold RO.len lenOf;rw [if_pos hf']
   rw [h0 _ (by omega)];exact hs.byt o h4 hf' j hj
  ·rw [hget j hj]
   have hf1:f=1:=hf'
   have hlo:lenOf n f=2+(n+3) / 4:=by unfold lenOf;rw [if_pos hf1]
   rw [h3 _ (by simp only [bF];omega) (by simp only [bF];rw [hlo];omega),if_pos hf1]
   simp
 ·rcases key o ho with ⟨h4,h5,h6⟩ | rfl
  ·rw [h0 _ (by omega)];exact hs.byr o h4 hf' j hj1 hj2
  ·have hf1:f=1:=hf'
   rw [hnn] at hj2
   rw [h3 _ hj1 hj2,if_pos hf1]
   simp
 ·have e:=bP (l:=r.objs) (x:=bF r cls n f) (k:=j)
  simp only [e]
  by_cases hj:j=bk r.objs
  ·subst hj
   rw [hl.2.2.1]
   simp [bF]
  ·have:=hl.2.2.2 j g0 (by omega)
   cases hj:al r.objs j with
   | none=>exact absurd hj this
   | some o=>simp
theorem nr {F:az} (hR:bQ H hb F r){cls n f:Int} (h:∀ H',bQ H' hb F (r.alloc cls n f).2->Fr F H H'->Q (AV (r.alloc cls n f).1) H'):ac PP tu #[.pointer (some ⟨hb,0,none⟩),.int .i64 cls,.int .i64 n,.int .i64 f] Q H:=by
 have hR0:=hR
 obtain ⟨wb,tb,bb,W,T,B,low,rfl,hR⟩:=hR
 apply zu
 unfold Ex iV wW pV lV cS;dsimp only [shH]
 have hwf:=hR.wf
 have hen:=cT hwf.objs hwf.w0
 have hw1:=hwf.w1
 have ho0:=hwf.o0
 have ho1:=hwf.o1
 have hm0:=hwf.m0
 have hm1:=hwf.m1
 have hne:=hR.raw.ne
 refine ⟨fun w H'=>w=[]∧PHs H' hb wb tb bb W T B low { r with mark:=if 0<r.mark then r.mark-1 else r.mark }∧Fr [hb,wb,tb,bb] H H'∧cW cls∧(f=0∨f=1)∧0<=n∧n<=8192∧(r.objs.length:Int)<r.oops∧aQ r.objs+lenOf n f<=r.words∧r.mark≠1,?_,?_⟩
 ·refine kB hR ⟨_,rfl,?_⟩
  simp only [cond_false]
  refine ou hR.kinds ⟨_,rfl,?_⟩
  unfold RH.alloc at h
  by_cases hcl:cW cls
  ·by_cases hf:f=0∨f=1
   ·simp only [af,cond_true,cond_false,Option.isNone_some,Option.isNone_none,aE,ay,aP,aJ,aF,aK,aL,aw,aN,aM,aD,aO,and_assoc,true_and,and_true,ak,Nat.zero_add,Nat.mul_one,ao,am,av,Bool.not_true,Bool.not_false,aU,aX,hcl,decide_true]
    have hX:∀ {X Y:Prop},X->(if f≠0 then if f≠1 then Y else X else X):=fun {X Y} hx=>by
     split
     ·rw [if_neg (by omega)];exact hx
     ·exact hx
    refine hX ?_
    split
    ·rename_i hn
     simp only [hcl,not_true_eq_false,false_or,hn,or_true,if_true] at h
     exact h H hR0 (Fr.refl _ _)
    ·rename_i hn
     have n1:¬ (¬ cW cls∨f<0∨1<f∨n<0):=fun hh=>hh.elim (fun hh=>hh hcl) (by omega)
     rw [if_neg n1] at h
     split
     ·rename_i hn2
      rw [if_pos (by omega)] at h
      exact h H hR0 (Fr.refl _ _)
     ·rename_i hn2
      rw [if_neg (by omega)] at h
      have hl:=kk (n:=n) (fmt:=f) (by omega)
      have hl2:=gK (n:=n) (fmt:=f) (by omega)
      simp only [af,cond_true,cond_false,Option.isNone_some,Option.isNone_none,aE,ay,aP,aJ,aF,aK,aL,aw,aN,aM,aD,aO,and_assoc,true_and,and_true,ak,Nat.zero_add,Nat.mul_one,ao,am,av,Bool.not_true,Bool.not_false,aU,aX,hR.c3,hR.c1,hR.c0,hR.c4]
      rw [ah (n:=((r.oops+1).toNat:Int)-1) (by omega) (by omega)]
      split
      ·rename_i hc
       rw [if_pos (.inl (by omega))] at h
       exact h H hR0 (Fr.refl _ _)
      ·rename_i hc
       refine iJ (by omega) (by omega) ⟨_,rfl,hR.c4,hR.c0,?_⟩
       rw [ah (n:=(r.words.toNat:Int)-aQ r.objs) (by omega) (by omega)]
       simp only [af,cond_true,cond_false,Option.isNone_some,Option.isNone_none,aE,ay,aP,aJ,aF,aK,aL,aw,aN,aM,aD,aO,and_assoc,true_and,and_true,ak,Nat.zero_add,Nat.mul_one,ao,am,av,Bool.not_true,Bool.not_false,aU,aX,hR.c6]
       split
       ·rename_i hl3
        rw [if_pos (.inr (by omega))] at h
        exact h H hR0 (Fr.refl _ _)
       ·rename_i hl3
        rw [if_neg (by omega)] at h
        split
        ·rename_i hm
         rw [if_pos hm] at h
         have r1:=hR.raw.set6 0
         exact ⟨hR.raw.wrh (by decide),h _ ⟨wb,tb,bb,W,T,B,low,rfl,r1.phs (hR.kinds.fr (Fr.set (F:=[hb]) (by simp)) (by simp;omega)) { hwf with m0:=by simp,m1:=by simp } { hR.sim with } rfl rfl rfl rfl rfl rfl rfl⟩ (Fr.set (by simp))⟩
        ·rename_i hm
         split
         ·rename_i hm2
          have r1:=hR.raw.set6 (r.mark-1)
          rw [ah (n:=r.mark-1) (by omega) (by omega)]
          refine ⟨hR.raw.wrh (by decide),?_,Fr.set (by simp),hf,by omega,by omega,by omega,by omega,hm⟩
          exact r1.phs (hR.kinds.fr (Fr.set (F:=[hb]) (by simp)) (by simp;omega)) { hwf with m0:=by simp;omega,m1:=by simp;omega } { hR.sim with } rfl rfl rfl rfl rfl rfl rfl
         ·rename_i hm2
          refine ⟨?_,Fr.refl _ _,hf,by omega,by omega,by omega,by omega,hm⟩
          exact hR
   ·simp only [af,cond_true,cond_false,Option.isNone_some,Option.isNone_none,aE,ay,aP,aJ,aF,aK,aL,aw,aN,aM,aD,aO,and_assoc,true_and,and_true,ak,Nat.zero_add,Nat.mul_one,ao,am,av,Bool.not_true,Bool.not_false,aU,aX,hcl,decide_true]
    rw [if_pos (by omega),if_pos (by omega)]
    rw [if_pos (by omega)] at h
    exact h H hR0 (Fr.refl _ _)
  ·simp only [af,cond_true,cond_false,Option.isNone_some,Option.isNone_none,aE,ay,aP,aJ,aF,aK,aL,aw,aN,aM,aD,aO,and_assoc,true_and,and_true,ak,Nat.zero_add,Nat.mul_one,ao,am,av,Bool.not_true,Bool.not_false,aU,aX,hcl,decide_false]
   rw [if_pos (.inl hcl)] at h
   exact h H hR0 (Fr.refl _ _)
 ·rintro w H1 ⟨rfl,hR1,hF1,hcl,hf,hn,hn2,hlt,hfit,hm⟩ _
  have hlow:=dh hwf.objs ho1 hlt
  have hlo:=hR.sim.low3
  have hllow:low<=bk r.objs:=by
   refine Classical.byContradiction fun hc=>?_
   exact hlo _ hlow.1 (by omega) hlow.2.2.1
  have hl:=kk (n:=n) (fmt:=f) (by omega)
  have hl2:=gK (n:=n) (fmt:=f) (by omega)
  have hl1:=hR.sim.low1
  refine ⟨rfl,?_⟩
  simp only [af,cond_true,cond_false,Option.isNone_some,Option.isNone_none,aE,ay,aP,aJ,aF,aK,aL,aw,aN,aM,aD,aO,and_assoc,true_and,and_true,ak,Nat.zero_add,Nat.mul_one,ao,am,av,Bool.not_true,Bool.not_false,aU,aX,hR1.c5]
  refine ⟨fun w H'=>H'=H1∧∃ k,w=[.int .i64 k]∧low<=k∧k<=bk r.objs,fun w _=>match w with
   | [.int _ k]=>(bk r.objs-k).toNat
   | _=>0,⟨rfl,low,rfl,Int.le_refl _,hllow⟩,?_⟩
  rintro w H2 ⟨rfl,k,rfl,hk1,hk2⟩ _
  refine ⟨k,rfl,?_⟩
  have htk:=hR.sim.tab k (by omega) (by omega)
  have e1:IntKind.wrap .i64 (k+1)=k+1:=ah (by omega) (by omega)
  simp only [af,cond_true,cond_false,Option.isNone_some,Option.isNone_none,aE,ay,aP,aJ,aF,aK,aL,aw,aN,aM,aD,aO,and_assoc,true_and,and_true,ak,Nat.zero_add,Nat.mul_one,ao,am,av,Bool.not_true,Bool.not_false,aU,aX,e1,hR1.c1,hR1.tabc (i:=k) (by omega) (by show k<=r.oops;omega)]
  refine ⟨by omega,by show k<((r.oops+1).toNat:Int);omega,?_⟩
  split
  ·rename_i hT
   have hne2:k≠bk r.objs:=by
    rintro rfl
    rw [htk,hlow.2.2.1] at hT
    simp at hT
   exact ⟨⟨k+1,rfl,by omega,by omega⟩,by simp;omega⟩
  ·rename_i hT
   have hkl:k=bk r.objs:=by
    refine Classical.byContradiction fun hc=>?_
    cases ho:al r.objs k with
    | none=>exact hlow.2.2.2 k (by omega) (by omega) ho
    | some o =>
     rw [ho] at htk
     simp only at htk
     have:=(hR.wf.objs.good o (au ho).1).pl
     omega
   have r1:=hR1.raw.set5 (k+1)
   refine ⟨hR1.raw.wrh (by decide),?_⟩
   simp only [r1.c0,r1.c4,af,cond_true,cond_false,Option.isNone_some,Option.isNone_none,aE,ay,aP,aJ,aF,aK,aL,aw,aN,aM,aD,aO,and_assoc,true_and,and_true,ak,Nat.zero_add,Nat.mul_one,ao,am,av,Bool.not_true,Bool.not_false,aU,aX]
   refine iJ (by omega) (by omega) ?_
   simp only [r1.c0,r1.c4,af,cond_true,cond_false,Option.isNone_some,Option.isNone_none,aE,ay,aP,aJ,aF,aK,aL,aw,aN,aM,aD,aO,and_assoc,true_and,and_true,ak,Nat.zero_add,Nat.mul_one,ao,am,av,Bool.not_true,Bool.not_false,aU,aX]
   have ew1:IntKind.wrap .i64 (aQ r.objs+lenOf n f)=aQ r.objs+lenOf n f:=ah (by omega) (by omega)
   have ew2:IntKind.wrap .i64 (aQ r.objs+2)=aQ r.objs+2:=ah (by omega) (by omega)
   simp only [ew1,ew2]
   have last:∀ H' W',Raw H' hb wb tb bb r.words.toNat (r.oops+1).toNat ⟨W',T,B,r.objs.length,aQ r.objs,k+1,if 0<r.mark then r.mark-1 else r.mark,r.born,r.turn⟩->Fr [hb,wb,tb,bb] H2 H'->(∀ i,i<aQ r.objs->W' i=W i)->(∀ i,aQ r.objs+2<=i->i<aQ r.objs+lenOf n f->W' i=if f=1 then 0 else 4) ->
     ac PP tm #[.pointer (some ⟨hb,0,none⟩),.int .i64 k,.int .i64 cls,.int .i64 n,.int .i64 f] (fun v H10=>∃ m:Int,v=.int .i64 m∧Q (.tuple #[.int .i64 k,.int .i64 0]) H10) H':=by
    intro H' W' hr hfr hw1' hw2'
    refine Bt hr hen.1 (by show aQ r.objs+2<=(r.words.toNat:Int);omega) (by omega) (by omega) (by omega) hn hn2 hf (by show (0:Int)<=(r.objs.length:Int);omega) (by show (r.objs.length:Int)<=100000;omega) fun H3 hr3 hfr3=>⟨_,rfl,?_⟩
    have hal:r.alloc cls n f=((bk r.objs,0),{ r with mark:=if 0<r.mark then r.mark-1 else r.mark,born:=IntKind.wrap .i64 (r.born+1),objs:=r.objs++[bF r cls n f] }):=by
     unfold RH.alloc
     rw [if_neg (fun hh=>hh.elim (fun hh=>hh hcl) (by omega)),if_neg (by omega),if_neg (by omega),if_neg hm]
    have hwf2:=eZ hwf cls n f
    rw [hal] at h hwf2
    rw [hkl]
    have hnn:(bF r cls n f).len=lenOf n f:=by simp only [RO.len,bF,List.length_replicate];congr 1;omega
    have hsim:=z8 (T:=T) (B:=B) (low:=low) hwf hR.sim (m':=if 0<r.mark then r.mark-1 else r.mark) (ev':=IntKind.wrap .i64 (r.born+1)) (W':=upd (upd W' (aQ r.objs) cls) (aQ r.objs+1) (2*n+f)) hn hf hlt
     (cls:=cls) (fun i hi=>by rw [upd,if_neg (by omega),upd,if_neg (by omega)];exact hw1' i hi) (by rw [upd,if_neg (by omega)];simp [upd]) (by simp [upd]) (fun i g1 g2=>by rw [upd,if_neg (by omega),upd,if_neg (by omega)];exact hw2' i g1 g2)
    rw [←hkl] at hsim
    have hkinds:bY H3:=hR1.kinds.fr (F:=[hb,wb,tb,bb]) (hfr.trans hfr3) (by simp only [List.mem_cons,List.not_mem_nil,or_false,not_or];exact ⟨fun e=>hne.1.2.2.2 e.symm,fun e=>hne.2.1.2.2 e.symm,fun e=>hne.2.2.1.2 e.symm,fun e=>hne.2.2.2 e.symm⟩)
    exact h H3 ⟨wb,tb,bb,_,_,_,_,rfl,hr3.phs hkinds hwf2 hsim rfl rfl (by simp [DG]) (by show aQ r.objs+lenOf n f=aQ (r.objs++[bF r cls n f]);rw [ca,hnn];rfl) rfl rfl rfl⟩ (hF1.trans (hfr.trans hfr3))
   refine ⟨by omega,by omega,by omega,by omega,?_⟩
   have hslen:(aQ r.objs+lenOf n f).toNat-(aQ r.objs+2).toNat=(lenOf n f-2).toNat:=by omega
   rw [hslen]
   refine iM (bs:=8) (by kernel_rfl) r1.mw (by omega) (by omega) fun H3 hm3 hs3 hk3=>?_
   have hfr3:Fr [hb,wb,tb,bb] H2 H3:=(Fr.set (by simp)).trans ⟨by omega,fun b hb' hb''=>hk3 b (fun e=>hb'' (by simp [e]))⟩
   have hr3:Raw H3 hb wb tb bb r.words.toNat (r.oops+1).toNat ⟨fun i=>if aQ r.objs+2<=i∧i<aQ r.objs+2+((lenOf n f-2).toNat:Int) then 0 else W i,T,B,r.objs.length,aQ r.objs,k+1,if 0<r.mark then r.mark-1 else r.mark,r.born,r.turn⟩ :=
    ⟨r1.hd.of_eq (hk3 _ hne.1.1),hm3,r1.mt.of_eq (hk3 _ hne.2.1.1.symm),r1.mb.of_eq (hk3 _ hne.2.1.2.1.symm),r1.d⟩
   split
   ·rename_i hf0
    have hlo:lenOf n f=2+n:=by unfold lenOf;rw [if_neg (by omega)]
    refine ⟨fun w H'=>∃ i:Int,w=[.int .i64 i]∧0<=i∧i<=n∧Fr [hb,wb,tb,bb] H2 H'∧Raw H' hb wb tb bb r.words.toNat (r.oops+1).toNat ⟨fun j=>if aQ r.objs+2<=j∧j<aQ r.objs+2+n then if j<aQ r.objs+2+i then 4 else 0 else W j,T,B,r.objs.length,aQ r.objs,k+1,if 0<r.mark then r.mark-1 else r.mark,r.born,r.turn⟩,
     fun w _=>match w with
      | [.int _ i]=>(n-i).toNat
      | _=>0,⟨0,rfl,by omega,hn,hfr3,?_⟩,?_⟩
    ·refine ⟨hr3.hd,hr3.mw.congr fun j _ _=>?_,hr3.mt,hr3.mb,hr3.d⟩
     show (if aQ r.objs+2<=j∧j<aQ r.objs+2+((lenOf n f-2).toNat:Int) then (0:Int) else W j)=if aQ r.objs+2<=j∧j<aQ r.objs+2+n then if j<aQ r.objs+2+0 then 4 else 0 else W j
     by_cases hj:aQ r.objs+2<=j∧j<aQ r.objs+2+n
     ·rw [if_pos (by omega),if_pos hj,if_neg (by omega)]
     ·rw [if_neg (by omega),if_neg hj]
    ·rintro w H4 ⟨i,rfl,hi0,hi1,hfr4,hr4⟩ _
     refine ⟨i,rfl,?_⟩
     split
     ·rename_i hi
      have hi':i<n:=by omega
      rw [jQ (by omega)]
      simp only [af,cond_true,cond_false,Option.isNone_some,Option.isNone_none,aE,ay,aP,aJ,aF,aK,aL,aw,aN,aM,aD,aO,and_assoc,true_and,and_true,ak,Nat.zero_add,Nat.mul_one,ao,am,av,Bool.not_true,Bool.not_false,aU,aX]
      have eo:(aQ r.objs+2).toNat+i.toNat=(aQ r.objs+2+i).toNat:=by omega
      rw [eo,ah (n:=i+1) (by omega) (by omega)]
      refine ⟨by omega,hi,hr4.mw.wr (by omega) (by omega),⟨i+1,rfl,by omega,by omega,hfr4.step (by simp),?_⟩,by simp;omega⟩
      have hr5:=hr4.setW (i:=aQ r.objs+2+i) (by omega) 4
      refine ⟨hr5.hd,hr5.mw.congr fun j _ _=>?_,hr5.mt,hr5.mb,hr5.d⟩
      show upd (fun j=>if aQ r.objs+2<=j∧j<aQ r.objs+2+n then if j<aQ r.objs+2+i then 4 else 0 else W j) (aQ r.objs+2+i) 4 j=if aQ r.objs+2<=j∧j<aQ r.objs+2+n then if j<aQ r.objs+2+(i+1) then 4 else 0 else W j
      unfold upd
      by_cases hj:j=aQ r.objs+2+i
      ·rw [if_pos hj,if_pos (by omega),if_pos (by omega)]
      ·rw [if_neg hj]
       show (if aQ r.objs+2<=j∧j<aQ r.objs+2+n then if j<aQ r.objs+2+i then 4 else 0 else W j)=_
       by_cases hj2:aQ r.objs+2<=j∧j<aQ r.objs+2+n
       ·rw [if_pos hj2,if_pos hj2]
        by_cases hj3:j<aQ r.objs+2+i
        ·rw [if_pos hj3,if_pos (by omega)]
        ·rw [if_neg hj3,if_neg (by omega)]
       ·rw [if_neg hj2,if_neg hj2]
     ·rename_i hi
      refine last H4 _ hr4 hfr4 (fun j hj=>?_) (fun j hj1 hj2=>?_)
      ·rw [if_neg (by omega)]
      ·rw [if_pos (by omega),if_pos (by omega),if_neg (by omega)]
   ·rename_i hf0
    refine last H3 _ hr3 hfr3 (fun j hj=>?_) (fun j hj1 hj2=>?_)
    ·rw [if_neg (by omega)]
    ·rw [if_pos (by omega),if_pos (by omega)]
end
end Go.Proofs.YtgcoppcogllpbaaGreatDoor
namespace Kw
open Go
theorem dX (l m:List RO) (k:Int):al (l++m) k=(al l k).or (al m k):=by
 unfold al;exact List.find?_append
theorem fJ (o:RO) (l:List RO) (k:Int):al (o :: l) k=if o.oop=k then some o else al l k:=by
 unfold al
 simp only [List.find?_cons]
 by_cases h:o.oop=k <;> simp [h]
theorem iH {words oops:Int}{l:List RO} (hw:WFO words oops l):2*(l.length:Int)<=aQ l:=by
 generalize hn:l.length=n
 induction n generalizing l with
 | zero =>
  have:l=[]:=List.eq_nil_of_length_eq_zero hn
  subst this;simp [aQ]
 | succ n ih =>
  rcases List.eq_nil_or_concat l with rfl | ⟨m,x,rfl⟩
  ·cases hn
  ·simp only [List.concat_eq_append] at *
   have hm:m.length=n:=by simpa using hn
   have hwm:WFO words oops m:=⟨fun o ho=>hw.good o (by simp [ho]),(List.pairwise_append.1 hw.pw).1⟩
   have h1:=ih hwm hm
   have hx:=x.len_pos
   have hpl:=(hw.good x (by simp)).pl
   rw [ca]
   have:aQ m<=x.place:=by
    rcases List.eq_nil_or_concat m with rfl | ⟨m2,y,rfl⟩
    ·simpa [aQ] using hpl
    ·simp only [List.concat_eq_append] at *
     rw [ca]
     exact ((List.pairwise_append.1 hw.pw).2.2 y (by simp) x (by simp)).2
   push_cast
   omega
def ba (a:Int):List RO->Int
 | []=>a
 | o :: l=>ba (a+o.len) l
theorem eh (a:Int) (l:List RO) (o:RO):ba a (l++[o])=ba a l+o.len:=by
 induction l generalizing a with
 | nil=>rfl
 | cons x l ih=>simp [ba,ih]
theorem dc (a:Int) (l:List RO) (o:RO):bl a (l++[o])=bl a l++[{ o with place:=ba a l }]:=by
 induction l generalizing a with
 | nil=>rfl
 | cons x l ih=>simp [bl,ih,ba]
theorem ii (l:List RO):aQ (bl 0 l)=ba 0 l:=by
 rcases List.eq_nil_or_concat l with rfl | ⟨m,x,rfl⟩
 ·rfl
 ·simp only [List.concat_eq_append]
  rw [dc,ca,eh]
  rfl
theorem kR {words oops:Int}:∀ (l:List RO) (a:Int),WFO words oops l->(∀ o∈l,a<=o.place)->∀ x∈bl a l,∃ o∈l,x={ o with place:=x.place }∧x.place<=o.place
 | [],_,_,_,x,hx=>by cases hx
 | o :: l,a,h,hle,x,hx=>by
  rcases List.mem_cons.1 hx with rfl | hx
  ·exact ⟨o,by simp,rfl,hle o (by simp)⟩
  ·have hp:=List.pairwise_cons.1 h.pw
   obtain ⟨o',h1,h2,h3⟩:=kR l (a+o.len) ⟨fun y hy=>h.good y (by simp [hy]),hp.2⟩ (fun y hy=>by have:=(hp.1 y hy).2;have:=hle o (by simp);omega) x hx
   exact ⟨o',by simp [h1],h2,h3⟩
structure KeepSt (W0:Int->Int) (words oops:Int) (keep:RO->Bool) (done rest:List RO) (W T:Int->Int) (low:Int):Prop where
 wf:WFO words oops (done++rest)
 regK:∀ x∈bl 0 (done.filter keep),∃ o∈done,x={ o with place:=x.place }∧∀ i,0<=i->i<o.len->W (x.place+i)=W0 (o.place+i)
 regR:∀ o∈rest,∀ i,0<=i->i<o.len->W (o.place+i)=W0 (o.place+i)
 tab:∀ k,0<=k->k<=oops->T k=match al (bl 0 (done.filter keep)++rest) k with
  | some x=>x.place
  | none=>-1
 low1:1<=low
 low2:low<=oops+1
 low3:∀ k,1<=k->k<low->al (bl 0 (done.filter keep)++rest) k≠none
section
variable {W0:Int->Int}{words oops:Int}{keep:RO->Bool}{done rest:List RO}{o:RO}{W T:Int->Int}{low:Int}
theorem KeepSt.wfd (h:KeepSt W0 words oops keep done rest W T low):WFO words oops (done.filter keep) :=
 WFO.filter ⟨fun x hx=>h.wf.good x (by simp [hx]),(List.pairwise_append.1 h.wf.pw).1⟩ keep
theorem KeepSt.ends (h:KeepSt W0 words oops keep done (o :: rest) W T low):0<=ba 0 (done.filter keep)∧ba 0 (done.filter keep)<=o.place∧(∀ x∈bl 0 (done.filter keep),0<=x.place∧x.place+x.len<=ba 0 (done.filter keep)∧x.oop≠o.oop)∧∀ y∈rest,o.place+o.len<=y.place∧y.oop≠o.oop:=by
 have hpl:∀ x∈done.filter keep,(0:Int)<=x.place:=fun x hx=>(h.wfd.good x hx).pl
 have hs:=kP _ 0 h.wfd (Int.le_refl _) hpl
 have hb:0<=aQ (bl 0 (done.filter keep)):=by
  have:=iH hs.1;omega
 have hpa:=List.pairwise_append.1 h.wf.pw
 rw [ii] at hb
 refine ⟨hb,?_,fun x hx=>?_,fun y hy=>?_⟩
 ·rcases List.eq_nil_or_concat (done.filter keep) with he | ⟨m,x,he⟩
  ·rw [he];exact (h.wf.good o (by simp)).pl
  ·simp only [List.concat_eq_append] at he
   have hx:x∈done.filter keep:=by rw [he];simp
   have h1:({ x with place:=ba 0 m }:RO)∈bl 0 (done.filter keep):=by rw [he,dc];simp
   obtain ⟨o',g1,g2,g3⟩:=kR _ 0 h.wfd hpl _ h1
   have hax:=hpa.2.2 x (List.mem_filter.1 hx).1 o (by simp)
   have hoo:o'.oop=x.oop:=(congrArg RO.oop g2).symm
   have hox:o'=x:=by
    rcases pD h.wfd.pw g1 hx with e | e | e
    ·exact e
    ·exact absurd hoo e.1
    ·exact absurd hoo.symm e.1
   have g4:ba 0 m<=x.place:=hox ▸ g3
   have:=hax.2
   rw [he,eh]
   omega
 ·have h1:=hs.2 x hx
  have h2:=ir hs.1 hx
  rw [ii] at h2
  obtain ⟨o',g1,g2,_⟩:=jd hx
  refine ⟨h1,h2,?_⟩
  rw [g2]
  exact (hpa.2.2 o' (List.mem_filter.1 g1).1 o (by simp)).1
 ·have:=(List.pairwise_cons.1 hpa.2.1).1 y hy
  exact ⟨this.2,fun e=>this.1 e.symm⟩
theorem KeepSt.wf' (h:KeepSt W0 words oops keep done (o :: rest) W T low):WFO words oops ((done++[o])++rest):=by
 have:=h.wf
 simpa using this
theorem KeepSt.stay (h:KeepSt W0 words oops keep done (o :: rest) W T low) (hk:keep o=true){W':Int->Int}
  (hW:∀ i,W' i=if ba 0 (done.filter keep)<=i∧i<ba 0 (done.filter keep)+o.len then W (i-ba 0 (done.filter keep)+o.place) else W i) :
  KeepSt W0 words oops keep (done++[o]) rest W' (upd T o.oop (ba 0 (done.filter keep))) low:=by
 obtain ⟨e1,e2,e3,e4⟩:=h.ends
 have hf:(done++[o]).filter keep=done.filter keep++[o]:=by simp [hk]
 have hobj:∀ k,al (bl 0 ((done++[o]).filter keep)++rest) k=if k=o.oop then some { o with place:=ba 0 (done.filter keep) } else al (bl 0 (done.filter keep)++(o :: rest)) k:=by
  intro k
  rw [hf,dc,dX,dX,dX,fJ,fJ]
  by_cases hko:k=o.oop
  ·subst hko
   have hn:al (bl 0 (done.filter keep)) o.oop=none:=cE.2 fun x hx=>(e3 x hx).2.2
   rw [hn];simp
  ·have hko':¬ o.oop=k:=fun e=>hko e.symm
   rw [if_neg hko,if_neg hko',if_neg hko']
   have:al [] k=none:=rfl
   rw [this,Option.or_none]
 have hg:=h.wf.good o (by simp)
 refine { wf:=h.wf',regK:=fun x hx=>?_,regR:=fun y hy i h0 h1=>?_,tab:=fun k h0 h1=>?_,low1:=h.low1,low2:=h.low2,low3:=fun k h0 h1=>?_ }
 ·rw [hf,dc] at hx
  rcases List.mem_append.1 hx with hx | hx
  ·obtain ⟨a,ha,hxa,hreg⟩:=h.regK x hx
   have hlen:x.len=a.len:=by rw [hxa];rfl
   refine ⟨a,by simp [ha],hxa,fun i h0 h1=>?_⟩
   rw [hW,if_neg (by have:=(e3 x hx).2.1;omega)]
   exact hreg i h0 h1
  ·simp at hx;subst hx
   refine ⟨o,by simp,rfl,fun i h0 h1=>?_⟩
   rw [hW,if_pos (by simp only;omega),show ba 0 (done.filter keep)+i-ba 0 (done.filter keep)+o.place=o.place+i by omega]
   exact h.regR o (by simp) i h0 h1
 ·rw [hW,if_neg (by have:=(e4 y hy).1;omega)]
  exact h.regR y (by simp [hy]) i h0 h1
 ·rw [hobj]
  unfold upd
  by_cases hk:k=o.oop
  ·rw [if_pos hk,if_pos hk]
  ·rw [if_neg hk,if_neg hk];exact h.tab k h0 h1
 ·rw [hobj]
  by_cases hk:k=o.oop
  ·rw [if_pos hk];simp
  ·rw [if_neg hk];exact h.low3 k h0 h1
theorem KeepSt.drop (h:KeepSt W0 words oops keep done (o :: rest) W T low) (hk:keep o=false) :
  KeepSt W0 words oops keep (done++[o]) rest (upd W o.place 0) (upd T o.oop (-1)) (if o.oop<low then o.oop else low):=by
 obtain ⟨e1,e2,e3,e4⟩:=h.ends
 have hf:(done++[o]).filter keep=done.filter keep:=by simp [hk]
 have hn1:al (bl 0 (done.filter keep)) o.oop=none:=cE.2 fun x hx=>(e3 x hx).2.2
 have hn2:al rest o.oop=none:=cE.2 fun x hx=>(e4 x hx).2
 have hobj:∀ k,al (bl 0 ((done++[o]).filter keep)++rest) k=if k=o.oop then none else al (bl 0 (done.filter keep)++(o :: rest)) k:=by
  intro k
  rw [hf,dX,dX,fJ]
  by_cases hko:k=o.oop
  ·subst hko;rw [hn1,hn2];simp
  ·have hko':¬ o.oop=k:=fun e=>hko e.symm
   rw [if_neg hko,if_neg hko']
 have hg:=h.wf.good o (by simp)
 have hlow1:=h.low1
 have hlow2:=h.low2
 have ho1:=hg.oop1
 refine { wf:=h.wf',regK:=fun x hx=>?_,regR:=fun y hy i h0 h1=>?_,tab:=fun k h0 h1=>?_,low1:=by split <;> omega,low2:=by split <;> omega,low3:=fun k h0 h1=>?_ }
 ·rw [hf] at hx
  obtain ⟨a,ha,hxa,hreg⟩:=h.regK x hx
  have hlen:x.len=a.len:=by rw [hxa];rfl
  refine ⟨a,by simp [ha],hxa,fun i h0 h1=>?_⟩
  rw [upd,if_neg (by have:=(e3 x hx).2.1;omega)]
  exact hreg i h0 h1
 ·rw [upd,if_neg (by have:=(e4 y hy).1;have:=o.len_pos;omega)]
  exact h.regR y (by simp [hy]) i h0 h1
 ·rw [hobj]
  unfold upd
  by_cases hk:k=o.oop
  ·rw [if_pos hk,if_pos hk]
  ·rw [if_neg hk,if_neg hk];exact h.tab k h0 h1
 ·rw [hobj]
  have hlt:k<o.oop∨k≠o.oop∧k<low:=by
   by_cases hc:o.oop<low
   ·rw [if_pos hc] at h1;exact .inl h1
   ·rw [if_neg hc] at h1
    exact .inl (by omega)
  have hlow:k<low:=by
   by_cases hc:o.oop<low
   ·rw [if_pos hc] at h1;omega
   ·rw [if_neg hc] at h1;exact h1
  rw [if_neg (by rcases hlt with h | h <;> omega)]
  exact h.low3 k h0 hlow
end
end Kw
namespace Go.Proofs.YtgcoppcogllpbaaGreatDoor
open Kw
def fg (words oops:Int):RH:=⟨words,oops,0,0,0,[]⟩
theorem ua {words oops:Int} (h0:0<=words) (h1:words<=1048576) (h2:0<=oops) (h3:oops<=65536):WFH (fg words oops) :=
 ⟨h0,h1,h2,h3,by simp [fg],by simp [fg],⟨by simp [fg],by simp [fg]⟩⟩
section
variable {H:ae}{hb wb tb bb nw nt:Nat}{p:PV}{W T B:Int->Int}{low:Int}{r:RH}{Q:QT}
theorem rk {words oops:Int} (hk:bY H) (hbad:¬ (0<=words∧words<=1048576∧0<=oops∧oops<=65536)->Q (.tuple #[.pointer none,.int .i64 1]) H)
  (h:(0<=words∧words<=1048576∧0<=oops∧oops<=65536)->∀ hb F H',bQ H' hb F (fg words oops)->Fr [] H H'->(∀ b∈F,H.size<=b)->Q (.tuple #[.pointer (some ⟨hb,0,none⟩),.int .i64 0]) H'):ac PP zI #[.int .i64 words,.int .i64 oops] Q H:=by
 apply xa
 unfold Ca A0 iV wW pV lV cS
 refine kG ⟨_,rfl,?_⟩
 by_cases h1:0<=words∧words<=1048576
 ·simp only [af,cond_true,cond_false,Option.isNone_some,Option.isNone_none,aE,ay,aP,aJ,aF,aK,aL,aw,aN,aM,aD,aO,and_assoc,true_and,and_true,ak,Nat.zero_add,Nat.mul_one,ao,am,av,Bool.not_true,Bool.not_false,aU,aX,h1,decide_true]
  refine kG ⟨_,rfl,?_⟩
  by_cases h2:0<=oops∧oops<=65536
  ·simp only [af,cond_true,cond_false,Option.isNone_some,Option.isNone_none,aE,ay,aP,aJ,aF,aK,aL,aw,aN,aM,aD,aO,and_assoc,true_and,and_true,ak,Nat.zero_add,Nat.mul_one,ao,am,av,Bool.not_true,Bool.not_false,aU,aX,h2,decide_true]
   have e1:IntKind.wrap .i64 (oops+1)=oops+1:=ah (by omega) (by omega)
   have hg:ap<H.size:=by
    have h0:=hk.1
    unfold aa at h0
    rcases Nat.lt_or_ge ap H.size with h1 | h1
    ·exact h1
    ·simp only [Array.getElem?_eq_none h1] at h0;cases h0
   have hs1:aH PP 30=some (1,8,some (.int .i64 0)):=by kernel_rfl
   have hs2:aH PP 47=some (1,8,some (.int .i64 0)):=by kernel_rfl
   simp only [e1]
   have mk:∀ (T:TypeId) (n:Int) (K:Option Addr->Nat->Nat->ae->Prop) (G:ae),aH PP T=some (1,8,some (.int .i64 0))->0<=n->n<=1048576 ->
     (∀ e,K (some ⟨G.size,0,none⟩) n.toNat n.toNat (G.push (.cells (Array.replicate n.toNat (.int .i64 0)) e))) ->
     aI PP (Instr.makeSlice T (.int .i64 n) (.int .i64 n)) (fun v H3=>∃ a:Option Addr,∃ l:Nat,∃ c:Nat,v=.slice a l c∧K a l c H3) G :=
    fun T n K G hT g0 g1 hK=>cn hT rfl g0 (Int.le_refl _) (by omega) (by decide) fun e=>⟨_,_,_,rfl,hK e⟩
   have fin:∀ (G:ae) (wb tb bb:Nat) (e:TypeId),Fr [] H G->cA G wb words.toNat (fun _=>0)->cA G tb (oops+1).toNat (fun _=>0)->cA G bb (oops+1).toNat (fun _=>0)->wb≠tb->wb≠bb->tb≠bb->H.size<=wb->H.size<=tb->H.size<=bb ->
     ∃ hb wb' tb' bb',[Value.pointer (some ⟨G.size,0,none⟩)]=[.pointer (some ⟨hb,0,none⟩)]∧Fr [] H (G.push (.cells #[.slice (some ⟨wb,0,none⟩) words.toNat words.toNat,.slice (some ⟨tb,0,none⟩) (oops+1).toNat (oops+1).toNat,.slice (some ⟨bb,0,none⟩) (oops+1).toNat (oops+1).toNat,.int .i64 0,.int .i64 0,.int .i64 1,.int .i64 0,.int .i64 0,.int .i64 0] e))∧H.size<=hb∧H.size<=wb'∧H.size<=tb'∧H.size<=bb' ∧
      Raw (G.push (.cells #[.slice (some ⟨wb,0,none⟩) words.toNat words.toNat,.slice (some ⟨tb,0,none⟩) (oops+1).toNat (oops+1).toNat,.slice (some ⟨bb,0,none⟩) (oops+1).toNat (oops+1).toNat,.int .i64 0,.int .i64 0,.int .i64 1,.int .i64 0,.int .i64 0,.int .i64 0] e)) hb wb' tb' bb' words.toNat (oops+1).toNat ⟨fun _=>0,fun _=>0,fun _=>0,0,0,1,0,0,0⟩:=by
    intro G wb tb bb e hf m1 m2 m3 n1 n2 n3 g1 g2 g3
    have:=m1.lt
    have:=m2.lt
    have:=m3.lt
    have:=hf.1
    have nd:[G.size,wb,tb,bb,ap].Nodup:=by
     simp only [List.nodup_cons,List.mem_cons,List.not_mem_nil,or_false,not_or,List.nodup_nil,and_true,not_false_eq_true]
     exact ⟨⟨by omega,by omega,by omega,by omega⟩,⟨n1,n2,by omega⟩,⟨n3,by omega⟩,by omega⟩
    exact ⟨G.size,wb,tb,bb,rfl,hf.more,hf.1,g1,g2,g3,⟨aV.new _ _ _,m1.push _,m2.push _,m3.push _,nd⟩⟩
   have hfp:∀ (G:ae) (o:Obj),Fr [] H G->Fr [] H (G.push o):=fun G o hG=>hG.more
   have hsz:∀ (G:ae) (o:Obj),(G.push o).size=G.size+1:=fun G o=>by simp
   refine ⟨fun w H'=>∃ hb wb tb bb,w=[.pointer (some ⟨hb,0,none⟩)]∧Fr [] H H'∧H.size<=hb∧H.size<=wb∧H.size<=tb∧H.size<=bb∧Raw H' hb wb tb bb words.toNat (oops+1).toNat ⟨fun _=>0,fun _=>0,fun _=>0,0,0,1,0,0,0⟩,?A,?B,?C,?D⟩
   case A =>
    refine mk 30 words _ H hs1 h1.1 h1.2 fun e=>?_
    refine ⟨mk 47 (oops+1) _ _ hs2 (by omega) (by omega) fun e2=>?_,mk 47 (oops+1) _ _ hs2 (by omega) (by omega) fun e2=>?_⟩
    ·refine mk 47 (oops+1) _ _ hs2 (by omega) (by omega) fun e3=>?_
     exact fin _ _ _ _ _ (((Fr.refl _ _).more).more.more) (((cA.new _ _ _).push _).push _) ((cA.new _ _ _).push _) (cA.new _ _ _) (by (try simp only [Array.size_push]);omega) (by (try simp only [Array.size_push]);omega) (by (try simp only [Array.size_push]);omega) (by (try simp only [Array.size_push]);omega) (by (try simp only [Array.size_push]);omega) (by (try simp only [Array.size_push]);omega)
    ·refine mk 47 (oops+1) _ _ hs2 (by omega) (by omega) fun e3=>?_
     exact fin _ _ _ _ _ (((Fr.refl _ _).more).more.more) (((cA.new _ _ _).push _).push _) (cA.new _ _ _) ((cA.new _ _ _).push _) (by (try simp only [Array.size_push]);omega) (by (try simp only [Array.size_push]);omega) (by (try simp only [Array.size_push]);omega) (by (try simp only [Array.size_push]);omega) (by (try simp only [Array.size_push]);omega) (by (try simp only [Array.size_push]);omega)
   case B =>
    refine mk 47 (oops+1) _ H hs2 (by omega) (by omega) fun e=>?_
    refine ⟨mk 30 words _ _ hs1 h1.1 h1.2 fun e2=>?_,mk 47 (oops+1) _ _ hs2 (by omega) (by omega) fun e2=>?_⟩
    ·refine mk 47 (oops+1) _ _ hs2 (by omega) (by omega) fun e3=>?_
     exact fin _ _ _ _ _ (((Fr.refl _ _).more).more.more) ((cA.new _ _ _).push _) (((cA.new _ _ _).push _).push _) (cA.new _ _ _) (by (try simp only [Array.size_push]);omega) (by (try simp only [Array.size_push]);omega) (by (try simp only [Array.size_push]);omega) (by (try simp only [Array.size_push]);omega) (by (try simp only [Array.size_push]);omega) (by (try simp only [Array.size_push]);omega)
    ·refine mk 30 words _ _ hs1 h1.1 h1.2 fun e3=>?_
     exact fin _ _ _ _ _ (((Fr.refl _ _).more).more.more) (cA.new _ _ _) (((cA.new _ _ _).push _).push _) ((cA.new _ _ _).push _) (by (try simp only [Array.size_push]);omega) (by (try simp only [Array.size_push]);omega) (by (try simp only [Array.size_push]);omega) (by (try simp only [Array.size_push]);omega) (by (try simp only [Array.size_push]);omega) (by (try simp only [Array.size_push]);omega)
   case C =>
    refine mk 47 (oops+1) _ H hs2 (by omega) (by omega) fun e=>?_
    refine ⟨mk 30 words _ _ hs1 h1.1 h1.2 fun e2=>?_,mk 47 (oops+1) _ _ hs2 (by omega) (by omega) fun e2=>?_⟩
    ·refine mk 47 (oops+1) _ _ hs2 (by omega) (by omega) fun e3=>?_
     exact fin _ _ _ _ _ (((Fr.refl _ _).more).more.more) ((cA.new _ _ _).push _) (cA.new _ _ _) (((cA.new _ _ _).push _).push _) (by (try simp only [Array.size_push]);omega) (by (try simp only [Array.size_push]);omega) (by (try simp only [Array.size_push]);omega) (by (try simp only [Array.size_push]);omega) (by (try simp only [Array.size_push]);omega) (by (try simp only [Array.size_push]);omega)
    ·refine mk 30 words _ _ hs1 h1.1 h1.2 fun e3=>?_
     exact fin _ _ _ _ _ (((Fr.refl _ _).more).more.more) (cA.new _ _ _) ((cA.new _ _ _).push _) (((cA.new _ _ _).push _).push _) (by (try simp only [Array.size_push]);omega) (by (try simp only [Array.size_push]);omega) (by (try simp only [Array.size_push]);omega) (by (try simp only [Array.size_push]);omega) (by (try simp only [Array.size_push]);omega) (by (try simp only [Array.size_push]);omega)
   case D =>
    rintro w H1 ⟨hb,wb,tb,bb,rfl,hf,g1,g2,g3,g4,hr⟩ _
    refine ⟨_,rfl,?_⟩
    simp only [af,cond_true,cond_false,Option.isNone_some,Option.isNone_none,aE,ay,aP,aJ,aF,aK,aL,aw,aN,aM,aD,aO,and_assoc,true_and,and_true,ak,Nat.zero_add,Nat.mul_one,ao,am,av,Bool.not_true,Bool.not_false,aU,aX,hr.c1]
    refine ⟨fun w H'=>∃ i:Int,w=[.int .i64 i]∧0<=i∧i<=oops+1∧Fr [] H H'∧Raw H' hb wb tb bb words.toNat (oops+1).toNat ⟨fun _=>0,fun k=>if k<i then -1 else 0,fun _=>0,0,0,1,0,0,0⟩,
     fun w _=>match w with
      | [.int _ i]=>(oops+1-i).toNat
      | _=>0,⟨0,rfl,by omega,by omega,hf,?_⟩,?_⟩
    ·refine ⟨hr.hd,hr.mw,hr.mt.congr fun i h0 _=>?_,hr.mb,hr.d⟩
     show (0:Int)=if i<0 then -1 else 0
     rw [if_neg (by omega)]
    ·rintro w H2 ⟨i,rfl,hi0,hi1,hf2,hr2⟩ _
     refine ⟨i,rfl,?_⟩
     split
     ·rename_i hi
      simp only [af,cond_true,cond_false,Option.isNone_some,Option.isNone_none,aE,ay,aP,aJ,aF,aK,aL,aw,aN,aM,aD,aO,and_assoc,true_and,and_true,ak,Nat.zero_add,Nat.mul_one,ao,am,av,Bool.not_true,Bool.not_false,aU,aX,hr2.c1]
      rw [ah (n:=i+1) (by omega) (by omega)]
      have hr3:=hr2.setT (i:=i) hi0 (-1)
      refine ⟨by omega,by omega,hr2.mt.wr hi0 (by omega),⟨i+1,rfl,by omega,by omega,?_,?_⟩,by simp;omega⟩
      ·exact ⟨by rw [bz];exact hf2.1,fun b hb' hn=>by rw [cy (by simp;omega)];exact hf2.2 b hb' hn⟩
      ·refine ⟨hr3.hd,hr3.mw,hr3.mt.congr fun j h0 _=>?_,hr3.mb,hr3.d⟩
       show upd (fun k=>if k<i then -1 else 0) i (-1) j=if j<i+1 then -1 else 0
       unfold upd
       by_cases hj:j=i
       ·rw [if_pos hj,if_pos (by omega)]
       ·rw [if_neg hj]
        show (if j<i then (-1:Int) else 0)=_
        by_cases hj2:j<i
        ·rw [if_pos hj2,if_pos (by omega)]
        ·rw [if_neg hj2,if_neg (by omega)]
     ·rename_i hi
      have hie:i=oops+1:=by omega
      subst hie
      have hw:=ua h1.1 h1.2 h2.1 h2.2
      refine h (by omega) hb [hb,wb,tb,bb] H2 ⟨wb,tb,bb,_,_,_,_,rfl,hr2.phs (hk.fr hf2 (by simp)) hw ?_ rfl rfl rfl rfl rfl rfl rfl⟩ hf2 (by simp;omega)
      refine { tab:=fun k h0 h1=>?_,bor:=by simp [fg],cls:=by simp [fg],shp:=by simp [fg],wrd:=by simp [fg],byt:=by simp [fg],byr:=by simp [fg],low1:=by simp,low2:=by simp [fg];omega,low3:=fun k h0 h1=>by simp at h1;omega }
      have:k<=oops:=h1
      show (if k<oops+1 then (-1:Int) else 0)=_
      rw [if_pos (by omega)]
      rfl
  ·simp only [af,cond_true,cond_false,Option.isNone_some,Option.isNone_none,aE,ay,aP,aJ,aF,aK,aL,aw,aN,aM,aD,aO,and_assoc,true_and,and_true,ak,Nat.zero_add,Nat.mul_one,ao,am,av,Bool.not_true,Bool.not_false,aU,aX,h2,decide_false]
   exact hbad (by omega)
 ·simp only [af,cond_true,cond_false,Option.isNone_some,Option.isNone_none,aE,ay,aP,aJ,aF,aK,aL,aw,aN,aM,aD,aO,and_assoc,true_and,and_true,ak,Nat.zero_add,Nat.mul_one,ao,am,av,Bool.not_true,Bool.not_false,aU,aX,h1,decide_false]
  exact hbad (by omega)
theorem AZ (hR:PHs H hb wb tb bb W T B low r) (h:∀ a l c F H',bN 1 H' a l c (aj r.all) F->Fr [] H H'->(∀ b∈F,H.size<=b)->F≠[]->Q (.slice a l c) H'):ac PP Au #[.pointer (some ⟨hb,0,none⟩)] Q H:=by
 apply xR
 unfold A7 A0 iV wW pV lV
 have ho0:=hR.wf.o0
 have ho1:=hR.wf.o1
 have hs2:aH PP 47=some (1,8,some (.int .i64 0)):=by kernel_rfl
 refine kB hR ⟨_,rfl,?_⟩
 simp only [af,cond_true,cond_false,Option.isNone_some,Option.isNone_none,aE,ay,aP,aJ,aF,aK,aL,aw,aN,aM,aD,aO,and_assoc,true_and,and_true,ak,Nat.zero_add,Nat.mul_one,ao,am,av,Bool.not_true,Bool.not_false,aU,aX,hR.c3]
 have hcount:(r.objs.length:Int)<=1048576:=by
  have h1:=iH hR.wf.objs
  have h2:=cT hR.wf.objs hR.wf.w0
  have h3:=hR.wf.w1
  omega
 refine cn hs2 rfl (Int.le_refl _) (by omega) (by omega) (by decide) fun e=>?_
 have hf0:Fr [] H (H.push (.cells (Array.replicate (r.objs.length:Int).toNat (.int .i64 0)) e)):=Fr.push _ _ _
 have hc1:aa (H.push (.cells (Array.replicate (r.objs.length:Int).toNat (.int .i64 0)) e)) ⟨hb,1,none⟩=some (.slice (some ⟨tb,0,none⟩) (r.oops+1).toNat (r.oops+1).toNat):=(eQ hR.hd.lt).trans hR.c1
 simp only [af,cond_true,cond_false,Option.isNone_some,Option.isNone_none,aE,ay,aP,aJ,aF,aK,aL,aw,aN,aM,aD,aO,and_assoc,true_and,and_true,ak,Nat.zero_add,Nat.mul_one,ao,am,av,Bool.not_true,Bool.not_false,aU,aX,hc1]
 refine ⟨fun w H'=>∃ a l c F,∃ i:Int,w=[.slice a l c,.int .i64 i]∧0<=i∧i<=r.oops+1∧bN 1 H' a l c (aj (r.upto i.toNat)) F∧Fr [] H H'∧(∀ b∈F,H.size<=b)∧F≠[],fun w _=>match w with
  | [_,.int _ i]=>(r.oops+1-i).toNat
  | _=>0,⟨_,_,_,_,0,rfl,by omega,by omega,bN.newMem _ _ _,hf0,by simp,by simp⟩,?_⟩
 rintro w H1 ⟨a,l,c,F,i,rfl,hi0,hi1,ho,hf,hF,hne⟩ _
 refine ⟨a,l,c,i,rfl,?_⟩
 have hmt:=hR.mt.fr hf (by simp)
 have hl:=ho.len
 simp only [aj,List.length_map] at hl
 have hul:=r.upto_len i.toNat
 split
 ·rename_i hi
  simp only [af,cond_true,cond_false,Option.isNone_some,Option.isNone_none,aE,ay,aP,aJ,aF,aK,aL,aw,aN,aM,aD,aO,and_assoc,true_and,and_true,ak,Nat.zero_add,Nat.mul_one,ao,am,av,Bool.not_true,Bool.not_false,aU,aX,hmt.cell hi0 (by omega)]
  rw [ah (n:=i+1) (by omega) (by omega)]
  have ht:=hR.sim.tab i hi0 (by omega)
  have hnx:=r.upto_succ i.toNat
  have ei:(i.toNat:Int)=i:=Int.toNat_of_nonneg hi0
  have e1:(i+1).toNat=i.toNat+1:=by omega
  rw [ei] at hnx
  refine ⟨by omega,by omega,?_⟩
  split
  ·rename_i hp
   have hs:(al r.objs i).isSome=true:=by
    cases ho:al r.objs i with
    | none=>rw [ht,ho] at hp;simp at hp
    | some o=>rfl
   refine bI hs2 rfl (by kernel_rfl) ho rfl (by simp [dB]) (by omega) (by decide) (by decide) fun a' c' F' H2 h1 h2 h3=>⟨_,_,_,rfl,?_⟩
   have hfr:=Up.fresh hf h2 hF
   refine ⟨⟨_,_,_,F',i+1,rfl,by omega,by omega,?_,hfr.1,hfr.2,fun e=>by subst e;rcases h1.2.2 with ⟨_,hc,_⟩ | ⟨b,cs,_,hF',_⟩;(have:=h1.2.1;omega);cases hF'⟩,by simp;omega⟩
   rw [e1,hnx,if_pos hs,bO]
   exact h1
  ·rename_i hp
   have hs:¬ (al r.objs i).isSome=true:=by
    cases ho:al r.objs i with
    | none=>simp
    | some o =>
     rw [ht,ho] at hp
     exact absurd (hR.in_ (au ho).1).1 hp
   refine ⟨⟨_,_,_,F,i+1,rfl,by omega,by omega,?_,hf,hF,hne⟩,by simp;omega⟩
   rw [e1,hnx,if_neg hs,List.append_nil]
   exact ho
 ·rename_i hi
  have e:i=r.oops+1:=by omega
  subst e
  exact h a l c F H1 ho hf hF hne
end
section
variable {H:ae}{hb wb tb bb nw nt:Nat}{p:PV}{W T B:Int->Int}{low:Int}{r:RH}{Q:QT}
theorem zl (hR:Raw H hb wb tb bb nw nt p){k:Int} (h0:0<=k) (h1:k<nt) (h2:0<=p.T k) (h3:p.T k<nw) (h4:0<=p.count) (h5:p.count<=1000000000)
  (h:∀ H',Raw H' hb wb tb bb nw nt { p with W:=upd p.W (p.T k) 0,T:=upd p.T k (-1),low:=if k<p.low then k else p.low,count:=p.count-1 }->Fr [hb,wb,tb,bb] H H'->Q (.tuple #[]) H'):ac PP yr #[.pointer (some ⟨hb,0,none⟩),.int .i64 k] Q H:=by
 apply vm
 unfold AX iV wW lV;dsimp only [shH]
 have e1:IntKind.wrap .i64 (p.count-1)=p.count-1:=ah (by omega) (by omega)
 have r1:=hR.setW (i:=p.T k) h2 0
 have r2:=r1.setT (i:=k) h0 (-1)
 have r3:=r2.set5 (if k<p.low then k else p.low)
 have r4:=r3.set3 (p.count-1)
 simp only [af,cond_true,cond_false,Option.isNone_some,Option.isNone_none,aE,ay,aP,aJ,aF,aK,aL,aw,aN,aM,aD,aO,and_assoc,true_and,and_true,ak,Nat.zero_add,Nat.mul_one,ao,am,av,Bool.not_true,Bool.not_false,aU,aX,hR.c0,hR.c1,hR.tabc h0 h1,r1.c1,r2.c5,r3.c3,e1]
 refine ⟨h0,h1,h2,h3,hR.mw.wr h2 h3,h0,h1,r1.mt.wr h0 h1,r2.wrh (by decide),r3.wrh (by decide),h _ r4 ?_⟩
 exact (((Fr.refl _ _).step (by simp)).step (by simp)).step (by simp) |>.step (by simp)
theorem wS (hw:WFH r) (hs:SimH W T B low r) (keep:RO->Bool):KeepSt W r.words r.oops keep [] r.objs W T low :=
 { wf:=by simpa using hw.objs,regK:=by simp [bl],regR:=fun _ _ _ _ _=>rfl,tab:=fun k h0 h1=>by rw [hs.tab k h0 h1];rfl,low1:=hs.low1,low2:=hs.low2,low3:=fun k h0 h1=>hs.low3 k h0 h1 }
theorem wB (hs:SimH W T B low r){keep:RO->Bool}{W' T':Int->Int}{low' tn:Int} (h:KeepSt W r.words r.oops keep r.objs [] W' T' low') :
  SimH W' T' B low' { r with objs:=bl 0 (r.objs.filter keep),turn:=tn }:=by
 have key:∀ x∈bl 0 (r.objs.filter keep),∃ o∈r.objs,x.oop=o.oop∧x.fmt=o.fmt∧x.born=o.born∧x.cls=o.cls∧x.slots=o.slots∧x.len=o.len∧∀ i,0<=i->i<o.len->W' (x.place+i)=W (o.place+i):=by
  intro x hx
  obtain ⟨o,h1,h2,h3⟩:=h.regK x hx
  exact ⟨o,h1,by rw [h2],by rw [h2],by rw [h2],by rw [h2],by rw [h2],by rw [h2];rfl,h3⟩
 have e:bl 0 (r.objs.filter keep)++[]=bl 0 (r.objs.filter keep):=List.append_nil _
 refine { tab:=fun k h0 h1=>by have:=h.tab k h0 h1;rw [e] at this;exact this,bor:=fun x hx=>?_,cls:=fun x hx=>?_,shp:=fun x hx=>?_,wrd:=fun x hx hf j hj=>?_,byt:=fun x hx hf j hj=>?_,byr:=fun x hx hf j h0 h1=>?_,low1:=h.low1,low2:=h.low2,low3:=fun k h0 h1=>by have:=h.low3 k h0 h1;rw [e] at this;exact this }
 all_goals obtain ⟨o,ho,k1,k2,k3,k4,k5,k6,k7⟩:=key x hx
 ·rw [k1,k3];exact hs.bor o ho
 ·have:=k7 0 (Int.le_refl _) (by have:=o.len_pos;omega)
  rw [Int.add_zero,Int.add_zero] at this
  rw [this,k4];exact hs.cls o ho
 ·rw [k7 1 (by omega) (by have:=o.len_pos;omega),k5,k2];exact hs.shp o ho
 ·have hlo:o.len=2+(o.slots.length:Int):=by unfold RO.len lenOf;rw [if_neg (by omega)]
  rw [k5] at hj ⊢
  rw [Int.add_assoc,k7 (2+(j:Int)) (by omega) (by omega),←Int.add_assoc]
  exact hs.wrd o ho (k2 ▸ hf) j hj
 ·have hf':o.fmt=1:=k2 ▸ hf
  have hlo:o.len=2+((o.slots.length:Int)+3) / 4:=by unfold RO.len lenOf;rw [if_pos hf']
  rw [k5] at hj ⊢
  rw [Int.add_assoc,k7 (2+((j / 4:Nat):Int)) (by omega) (by omega),←Int.add_assoc]
  exact hs.byt o ho hf' j hj
 ·have hf':o.fmt=1:=k2 ▸ hf
  have:=k7 (j-x.place) (by omega) (by omega)
  rw [show x.place+(j-x.place)=j by omega] at this
  rw [this]
  exact hs.byr o ho hf' _ (by omega) (by omega)
theorem ue (hR:Raw H hb wb tb bb nw nt p){pl n f:Int} (h0:0<=pl) (h1:pl+1<nw) (hw:nw<=1048576) (he:p.W (pl+1)=2*n+f) (hf:f=0∨f=1) (h:Q (.tuple #[.int .i64 n,.int .i64 f]) H):ac PP tO #[.pointer (some ⟨hb,0,none⟩),.int .i64 pl] Q H:=by
 apply qD
 unfold Ag iV wW lV
 rw [ah (n:=pl+1) (by omega) (by omega)]
 simp only [af,cond_true,cond_false,Option.isNone_some,Option.isNone_none,aE,ay,aP,aJ,aF,aK,aL,aw,aN,aM,aD,aO,and_assoc,true_and,and_true,ak,Nat.zero_add,Nat.mul_one,ao,am,av,Bool.not_true,Bool.not_false,aU,aX,hR.c0,hR.word (i:=pl+1) (by omega) (by omega)]
 refine ⟨by omega,by omega,?_⟩
 rw [he,vP,xT]
 have e1:(2*n+f) / 2=n:=by omega
 have e2:(2*n+f) % 2=f:=by omega
 rw [e1,e2];exact h
theorem oC (hR:Raw H hb wb tb bb nw nt p){pl n f:Int} (h0:0<=pl) (h1:pl+1<nw) (hw:nw<=1048576) (he:p.W (pl+1)=2*n+f) (hf:f=0∨f=1) (hn:0<=n) (hn2:n<=8192) (h:Q (.int .i64 (lenOf n f)) H):ac PP zm #[.pointer (some ⟨hb,0,none⟩),.int .i64 pl] Q H:=by
 apply wC
 unfold BP iV pV cS
 exact ue hR h0 h1 hw he hf ⟨_,_,rfl,iJ hn (by omega) ⟨_,rfl,h⟩⟩
def nq (hb:Nat) (r:RH):Prop:=∀ {H:ae}{wb tb bb:Nat}{W T B:Int->Int}{low:Int}{Q:QT},PHs H hb wb tb bb W T B low r->(∀ a l c F H',bN 1 H' a l c (aj (r.objs.map (·.oop))) F->Fr [] H H'->(∀ b∈F,H.size<=b)->Q (.slice a l c) H')->ac PP Ac #[.pointer (some ⟨hb,0,none⟩)] Q H
theorem yA {F:az} (hR:bQ H hb F r) (hbp:nq hb r){a2:Option Addr}{l2 c2:Nat}{ks:List Int} (hk:Rd 1 H a2 l2 (aj ks)) (hd:∀ p,a2=some p->p.block∉F) (hlk:l2<=1099511627776)
  (h:∀ H',bQ H' hb F (r.keep ks).2->Fr F H H'->Q (lZ (r.keep ks).1) H'):ac PP tB #[.pointer (some ⟨hb,0,none⟩),.slice a2 l2 c2] Q H:=by
 have hR0:=hR
 obtain ⟨wb,tb,bb,W,T,B,low,rfl,hR⟩:=hR
 apply xA
 unfold CD iV wW pV lV cS;dsimp only [shH]
 have hwf:=hR.wf
 have hw0:=hwf.w0
 have hw1:=hwf.w1
 have ho0:=hwf.o0
 have ho1:=hwf.o1
 have hne:=hR.raw.ne
 have hen:=cT hwf.objs hwf.w0
 have hcnt:=iH hwf.objs
 have hs2:aH PP 47=some (1,8,some (.int .i64 0)):=by kernel_rfl
 have hs1:aH PP 30=some (1,8,some (.int .i64 0)):=by kernel_rfl
 have hl2:l2=ks.length:=by have:=hk.1;simpa [aj] using this.symm
 refine kB hR ⟨_,rfl,?_⟩
 simp only [af,cond_true,cond_false,Option.isNone_some,Option.isNone_none,aE,ay,aP,aJ,aF,aK,aL,aw,aN,aM,aD,aO,and_assoc,true_and,and_true,ak,Nat.zero_add,Nat.mul_one,ao,am,av,Bool.not_true,Bool.not_false,aU,aX,hR.c1]
 refine cn hs2 rfl (by omega) (Int.le_refl _) (by omega) (by decide) fun e=>?_
 simp only [Int.toNat_natCast]
 have hlts:∀ b∈[hb,wb,tb,bb],b<H.size:=hR0.lt
 have hsb:H.size∉[hb,wb,tb,bb]:=fun hm=>absurd (hlts _ hm) (by omega)
 simp only [af,cond_true,cond_false,Option.isNone_some,Option.isNone_none,aE,ay,aP,aJ,aF,aK,aL,aw,aN,aM,aD,aO,and_assoc,true_and,and_true,ak,Nat.zero_add,Nat.mul_one,ao,am,av,Bool.not_true,Bool.not_false,aU,aX]
 refine ⟨fun w H'=>∃ i:Int,w=[.int .i64 i]∧0<=i∧i<=l2∧PHs H' hb wb tb bb W T B low r∧Fr [] H H'∧cA H' H.size (r.oops+1).toNat (fun k=>if k∈ks.take i.toNat then 1 else 0)∧∀ k∈ks.take i.toNat,al r.objs k≠none,fun w _=>match w with
  | [.int _ i]=>(l2-i).toNat
  | _=>0,⟨0,rfl,by omega,by omega,?_,Fr.push _ _ _,?_,by simp⟩,?_⟩
 ·obtain ⟨wb',tb',bb',W',T',B',low',e1,h1⟩:=hR0.fr (Fr.push [] H (.cells (Array.replicate (r.oops+1).toNat (.int .i64 0)) e)) (co.nil_right _) (by simp)
  exact { hR with hd:=hR.hd.push _,mw:=hR.mw.push _,mt:=hR.mt.push _,mb:=hR.mb.push _,kinds:=h1.kinds }
 ·exact (cA.new _ _ _).congr fun k _ _=>by simp
 rintro w H1 ⟨i,rfl,hi0,hi1,hR1,hf1,hm1,hall⟩ _
 refine ⟨i,rfl,?_⟩
 split
 ·rename_i hi
  have hk1:=hk.fr' hf1 (by simp)
  obtain ⟨pa,hpa,hcell,hlt⟩:=hk1.int hi0 (by omega)
  subst hpa
  simp only [af,cond_true,cond_false,Option.isNone_some,Option.isNone_none,aE,ay,aP,aJ,aF,aK,aL,aw,aN,aM,aD,aO,and_assoc,true_and,and_true,ak,Nat.zero_add,Nat.mul_one,ao,am,av,Bool.not_true,Bool.not_false,aU,aX,hcell]
  refine ⟨hi0,hi,mI hR1 ?_⟩
  have htk:ks.take (i+1).toNat=ks.take i.toNat++[ks.getD i.toNat 0]:=by
   rw [show (i+1).toNat=i.toNat+1 by omega,List.take_add_one]
   simp [hlt]
  unfold lA
  cases ho:al r.objs (ks.getD i.toNat 0) with
  | none =>
   refine ⟨_,_,rfl,?_⟩
   rw [if_pos (by decide)]
   have hmem:ks.getD i.toNat 0∈ks:=by
    have:ks.getD i.toNat 0=ks[i.toNat]:=by simp [hlt]
    rw [this];exact List.getElem_mem hlt
   have hke:r.keep ks=((0,0,20),r):=by unfold RH.keep;rw [if_pos ⟨_,hmem,ho⟩]
   rw [hke] at h
   exact h H1 ⟨wb,tb,bb,W,T,B,low,rfl,hR1⟩ hf1.of_nil
  | some o =>
   have hgo:=hwf.objs.good o (au ho).1
   have hoo:=(au ho).2
   have hg1:=hgo.oop1
   have hg2:=hgo.oop2
   rw [hoo] at hg1 hg2
   refine ⟨_,_,rfl,?_⟩
   simp only [af,cond_true,cond_false,Option.isNone_some,Option.isNone_none,aE,ay,aP,aJ,aF,aK,aL,aw,aN,aM,aD,aO,and_assoc,true_and,and_true,ak,Nat.zero_add,Nat.mul_one,ao,am,av,Bool.not_true,Bool.not_false,aU,aX,ne_eq,not_true_eq_false,if_false]
   rw [ah (n:=i+1) (by omega) (by omega)]
   refine ⟨by omega,by omega,hm1.wr (by omega) (by omega),⟨i+1,rfl,by omega,by omega,?_,?_,?_,?_⟩,by simp;omega⟩
   ·have hfs:Fr [H.size] H1 (aB H1 ⟨H.size,(ks.getD i.toNat 0).toNat,none⟩ (.int .i64 1)):=Fr.set (by simp)
    have hmm:∀ b∈[hb,wb,tb,bb],b∉[H.size]:=fun b hb' hn=>by simp at hn;subst hn;exact hsb hb'
    have hgk:ap<H.size:=by
     have h0:=hR.kinds.1
     unfold aa at h0
     rcases Nat.lt_or_ge ap H.size with h1 | h1
     ·exact h1
     ·simp only [Array.getElem?_eq_none h1] at h0;cases h0
    exact { hR1 with hd:=hR1.hd.fr hfs (hmm _ (by simp)),mw:=hR1.mw.fr hfs (hmm _ (by simp)),mt:=hR1.mt.fr hfs (hmm _ (by simp)),mb:=hR1.mb.fr hfs (hmm _ (by simp)),kinds:=hR1.kinds.fr hfs (by simp;omega) }
   ·exact ⟨by rw [bz];exact hf1.1,fun b hb' hn=>by rw [cy (by simp;omega)];exact hf1.2 b hb' hn⟩
   ·refine (hm1.set (i:=ks.getD i.toNat 0) (by omega) 1).congr fun k _ _=>?_
    unfold upd
    rw [htk]
    by_cases hkk:k=ks.getD i.toNat 0
    ·rw [if_pos hkk,if_pos (by simp [hkk])]
    ·rw [if_neg hkk]
     simp only [List.mem_append,List.mem_singleton,hkk,or_false]
   ·rw [htk]
    intro k hkm
    rcases List.mem_append.1 hkm with hkm | hkm
    ·exact hall k hkm
    ·simp only [List.mem_singleton] at hkm;rw [hkm,ho];simp
 ·rename_i hi
  have hil:i.toNat=ks.length:=by omega
  have htake:ks.take i.toNat=ks:=by rw [hil,List.take_length]
  rw [htake] at hm1 hall
  have hke:r.keep ks=(((r.objs.length:Int)-((r.keepO ks).length:Int),aQ r.objs-aQ (r.keepO ks),0),{ r with objs:=r.keepO ks,turn:=IntKind.wrap .i64 (r.turn+1) }):=by
   unfold RH.keep
   rw [if_neg]
   rintro ⟨k,hk1,hk2⟩
   exact hall k hk1 hk2
  have hwf2:=gI hwf ks
  rw [hke] at h hwf2
  simp only [af,cond_true,cond_false,Option.isNone_some,Option.isNone_none,aE,ay,aP,aJ,aF,aK,aL,aw,aN,aM,aD,aO,and_assoc,true_and,and_true,ak,Nat.zero_add,Nat.mul_one,ao,am,av,Bool.not_true,Bool.not_false,aU,aX,hR1.c3,hR1.c4]
  refine hbp hR1 fun ab lb cb Fb H2 hob hf2 hFb=>?_
  simp only [af,cond_true,cond_false,Option.isNone_some,Option.isNone_none,aE,ay,aP,aJ,aF,aK,aL,aw,aN,aM,aD,aO,and_assoc,true_and,and_true,ak,Nat.zero_add,Nat.mul_one,ao,am,av,Bool.not_true,Bool.not_false,aU,aX]
  have hkeepf:∃ kf:RO->Bool,kf=fun o=>decide (o.oop∈ks):=⟨_,rfl⟩
  obtain ⟨kf,hkf⟩:=hkeepf
  have hko:r.keepO ks=bl 0 (r.objs.filter kf):=by rw [hkf];rfl
  have hlb:lb=r.objs.length:=by have:=hob.1;simpa [aj] using this.symm
  have hf12:Fr [] H H2:=hf1.trans hf2
  have hFb':∀ b∈Fb,b∉[hb,wb,tb,bb]:=fun b hb' hn=>absurd (hlts b hn) (by have:=hFb b hb';have:=hf1.1;omega)
  have hsbF:H.size∉Fb:=fun hm=>by have:=hFb _ hm;have:=hm1.lt;omega
  have hsub:∀ {H'},Fr [hb,wb,tb,bb] H2 H'->Fr [hb,wb,tb,bb] H H':=fun hf=>(hf12.of_nil).trans hf
  refine ⟨fun w H'=>∃(j:Nat) (W' T':Int->Int) (low':Int),w=[.int .i64 (ba 0 ((r.objs.take j).filter kf)),.int .i64 j]∧j<=r.objs.length∧KeepSt W r.words r.oops kf (r.objs.take j) (r.objs.drop j) W' T' low' ∧
    Raw H' hb wb tb bb r.words.toNat (r.oops+1).toNat ⟨W',T',B,((bl 0 ((r.objs.take j).filter kf)).length:Int)+((r.objs.length-j:Nat):Int),aQ r.objs,low',r.mark,r.born,r.turn⟩∧Fr [hb,wb,tb,bb] H2 H',fun w _=>match w with
   | [_,.int _ i]=>(r.objs.length-i).toNat
   | _=>0,⟨0,W,T,low,by simp [ba],by omega,?_,?_,Fr.refl _ _⟩,?_⟩
  ·have:=wS hwf hR.sim kf
   simpa using this
  ·have hR2:=hR1.raw.keep hf2 (co.nil_right _)
   simpa [bl] using hR2
  rintro w H3 ⟨j,W',T',low',rfl,hj,hst,hr3,hf3⟩ _
  refine ⟨_,_,rfl,?_⟩
  have hob3:=hob.fr hf3 hFb'
  have hm3:cA H3 H.size (r.oops+1).toNat (fun k=>if k∈ks then 1 else 0):=(hm1.fr hf2 (by simp)).fr hf3 hsb
  split
  ·rename_i hjl
   have hjl:j<r.objs.length:=by omega
   obtain ⟨pa,hpa,hcell,hlt⟩:=(hob3.rd).int (i:=(j:Int)) (by omega) (by omega)
   have ho:r.objs.drop j=r.objs[j] :: r.objs.drop (j+1):=List.drop_eq_getElem_cons hjl
   have hom:r.objs[j]∈r.objs:=List.getElem_mem hjl
   have hgd:(r.objs.map (·.oop)).getD (j:Int).toNat 0=r.objs[j].oop:=by simp [hjl]
   rw [hgd] at hcell
   have htk:r.objs.take (j+1)=r.objs.take j++[r.objs[j]]:=by rw [List.take_add_one];simp [hjl]
   generalize hoe:r.objs[j]=o at *
   have hg:=hwf.objs.good o hom
   have hg1:=hg.oop1
   have hg2:=hg.oop2
   have hg3:=hg.pl
   have hg4:=hg.fits
   have hg5:=o.len_pos
   have hg6:=hg.many
   rw [ho] at hst
   obtain ⟨e1,e2,e3,e4⟩:=hst.ends
   have hT:T' o.oop=o.place:=by
    rw [hst.tab o.oop (by omega) (by omega),dX,fJ,if_pos rfl]
    have hn:al (bl 0 ((r.objs.take j).filter kf)) o.oop=none:=cE.2 fun x hx=>(e3 x hx).2.2
    rw [hn];rfl
   have hWs:W' (o.place+1)=2*(o.slots.length:Int)+o.fmt:=by
    rw [hst.regR o (by simp) 1 (by omega) (by omega)];exact hR.sim.shp o hom
   subst hpa
   have ej:IntKind.wrap .i64 ((j:Int)+1)=((j+1:Nat):Int):=by rw [ah (by omega) (by omega)];omega
   simp only [af,cond_true,cond_false,Option.isNone_some,Option.isNone_none,aE,ay,aP,aJ,aF,aK,aL,aw,aN,aM,aD,aO,and_assoc,true_and,and_true,ak,Nat.zero_add,Nat.mul_one,ao,am,av,Bool.not_true,Bool.not_false,aU,aX,hcell,hr3.c1,hr3.tabc (i:=o.oop) (by omega) (by omega),hm3.cell (i:=o.oop) (by omega) (by omega),hT,ej]
   refine ⟨by omega,by omega,by omega,by omega,by omega,by omega,?_⟩
   by_cases hkk:o.oop∈ks
   ·have hkeep:kf o=true:=by rw [hkf];simpa using hkk
    simp only [hkk,if_true]
    rw [if_neg (by decide)]
    have hlen:o.len=lenOf o.slots.length o.fmt:=rfl
    refine oC hr3 hg3 (by omega) (by omega) hWs hg.fmt (by omega) (by omega) ?_
    rw [←hlen]
    have e5:IntKind.wrap .i64 (o.place+o.len)=o.place+o.len:=ah (by omega) (by omega)
    have e6:IntKind.wrap .i64 (ba 0 ((r.objs.take j).filter kf)+o.len)=ba 0 ((r.objs.take j).filter kf)+o.len:=ah (by omega) (by omega)
    simp only [af,cond_true,cond_false,Option.isNone_some,Option.isNone_none,aE,ay,aP,aJ,aF,aK,aL,aw,aN,aM,aD,aO,and_assoc,true_and,and_true,ak,Nat.zero_add,Nat.mul_one,ao,am,av,Bool.not_true,Bool.not_false,aU,aX,hr3.c0,e5,e6]
    refine ⟨by omega,by omega,by omega,by omega,by omega,by omega,?_⟩
    refine nI hs1 hr3.mw e1 (by omega) (by omega) hg3 (by omega) (by omega) (by omega) fun H4 hm4 hs4 hk4=>?_
    have hr4:Raw H4 hb wb tb bb r.words.toNat (r.oops+1).toNat ⟨fun i=>if ba 0 ((r.objs.take j).filter kf)<=i∧i<ba 0 ((r.objs.take j).filter kf)+(((o.place+o.len).toNat-o.place.toNat:Nat):Int) then W' (i-ba 0 ((r.objs.take j).filter kf)+o.place) else W' i,T',B,((bl 0 ((r.objs.take j).filter kf)).length:Int)+((r.objs.length-j:Nat):Int),aQ r.objs,low',r.mark,r.born,r.turn⟩:=⟨hr3.hd.of_eq (hk4 _ hne.1.1),hm4,hr3.mt.of_eq (hk4 _ hne.2.1.1.symm),hr3.mb.of_eq (hk4 _ hne.2.1.2.1.symm),hr3.d⟩
    have hf4:Fr [hb,wb,tb,bb] H2 H4:=hf3.trans ⟨by omega,fun b _ hn=>hk4 b fun e=>hn (by simp [e])⟩
    simp only [af,cond_true,cond_false,Option.isNone_some,Option.isNone_none,aE,ay,aP,aJ,aF,aK,aL,aw,aN,aM,aD,aO,and_assoc,true_and,and_true,ak,Nat.zero_add,Nat.mul_one,ao,am,av,Bool.not_true,Bool.not_false,aU,aX,hr4.c1]
    have hr5:=hr4.setT (i:=o.oop) (by omega) (ba 0 ((r.objs.take j).filter kf))
    have hst5:=hst.stay hkeep (W':=fun i=>if ba 0 ((r.objs.take j).filter kf)<=i∧i<ba 0 ((r.objs.take j).filter kf)+(((o.place+o.len).toNat-o.place.toNat:Nat):Int) then W' (i-ba 0 ((r.objs.take j).filter kf)+o.place) else W' i) fun i=>by
     have:(((o.place+o.len).toNat-o.place.toNat:Nat):Int)=o.len:=by omega
     rw [this]
    have hfl:(r.objs.take (j+1)).filter kf=(r.objs.take j).filter kf++[o]:=by rw [htk,List.filter_append];simp [hkeep]
    refine ⟨by omega,by omega,hr4.mt.wr (by omega) (by omega),⟨j+1,_,_,_,?_,by omega,by rw [htk];exact hst5,?_,hf4.step (by simp)⟩,by simp;omega⟩
    ·rw [hfl,eh]
    ·rw [hfl,dc,List.length_append]
     have hc:((bl 0 ((r.objs.take j).filter kf)).length:Int)+((r.objs.length-j:Nat):Int)=((bl 0 ((r.objs.take j).filter kf)).length+([({ o with place:=ba 0 ((r.objs.take j).filter kf) }:RO)].length:Nat):Nat)+((r.objs.length-(j+1):Nat):Int):=by
      simp only [List.length_singleton];omega
     have:=hr5
     simp only [hc] at this
     exact this
   ·have hkeep:kf o=false:=by rw [hkf];simpa using hkk
    simp only [hkk,if_false]
    rw [if_pos trivial]
    have hfl:(r.objs.take (j+1)).filter kf=(r.objs.take j).filter kf:=by rw [htk,List.filter_append];simp [hkeep]
    have hslen:((bl 0 ((r.objs.take j).filter kf)).length:Int)<=r.objs.length:=by
     rw [lF]
     have h1:=List.length_filter_le kf (r.objs.take j)
     have h2:=List.length_take_le j r.objs
     rw [List.length_take] at h1
     omega
    refine zl hr3 (by omega) (by omega) (by show 0<=T' o.oop;rw [hT];exact hg3) (by show T' o.oop<_;rw [hT];omega) (by simp only;omega) (by simp only;omega) fun H4 hr4 hf4=>?_
    have hst5:=hst.drop hkeep
    refine ⟨rfl,⟨j+1,_,_,_,by rw [hfl],by omega,by rw [htk];exact hst5,?_,hf3.trans hf4⟩,by simp;omega⟩
    rw [hfl]
    have hc:((bl 0 ((r.objs.take j).filter kf)).length:Int)+((r.objs.length-j:Nat):Int)-1=((bl 0 ((r.objs.take j).filter kf)).length:Int)+((r.objs.length-(j+1):Nat):Int):=by omega
    have:=hr4
    simp only [hc,hT] at this
    exact this
  ·rename_i hjl
   have hje:j=r.objs.length:=by omega
   subst hje
   have htl:r.objs.take r.objs.length=r.objs:=List.take_length
   have hdl:r.objs.drop r.objs.length=[]:=List.drop_length
   rw [htl,hdl] at hst
   rw [htl] at hr3
   rw [htl]
   rw [←hko] at hr3
   have hek:ba 0 (r.objs.filter kf)=aQ (r.keepO ks):=by rw [hko,ii]
   rw [hek]
   have hkw:=oQ hwf ks
   have hkb:=cT hkw hwf.w0
   have hkc:=iH hkw
   have hle:aQ (r.keepO ks)<=aQ r.objs:=by
    rcases List.eq_nil_or_concat (r.keepO ks) with he | ⟨m,x,he⟩
    ·rw [he];simpa [aQ] using hen.1
    ·simp only [List.concat_eq_append] at he
     have hx:x∈r.keepO ks:=by rw [he];simp
     rw [hko] at hx
     obtain ⟨o,g1,g2,g3⟩:=kR _ 0 hst.wfd (fun o ho=>(hst.wfd.good o ho).pl) x hx
     have hxl:x.len=o.len:=by rw [g2];rfl
     have:=ir hwf.objs (List.mem_filter.1 g1).1
     rw [he,ca];omega
   have hkl:((r.keepO ks).length:Int)<=r.objs.length:=by
    rw [hko,lF]
    have:=List.length_filter_le kf r.objs
    omega
   simp only [af,cond_true,cond_false,Option.isNone_some,Option.isNone_none,aE,ay,aP,aJ,aF,aK,aL,aw,aN,aM,aD,aO,and_assoc,true_and,and_true,ak,Nat.zero_add,Nat.mul_one,ao,am,av,Bool.not_true,Bool.not_false,aU,aX,hr3.c0,hr3.c4]
   refine ⟨by omega,by omega,by omega,by omega,?_⟩
   refine iM hs1 hr3.mw (by omega) (by omega) fun H4 hm4 hs4 hk4=>?_
   have hr4:Raw H4 hb wb tb bb r.words.toNat (r.oops+1).toNat ⟨fun i=>if aQ (r.keepO ks)<=i∧i<aQ (r.keepO ks)+(((aQ r.objs).toNat-(aQ (r.keepO ks)).toNat:Nat):Int) then 0 else W' i,T',B,((r.keepO ks).length:Int)+((r.objs.length-r.objs.length:Nat):Int),aQ r.objs,low',r.mark,r.born,r.turn⟩:=⟨hr3.hd.of_eq (hk4 _ hne.1.1),hm4,hr3.mt.of_eq (hk4 _ hne.2.1.1.symm),hr3.mb.of_eq (hk4 _ hne.2.1.2.1.symm),hr3.d⟩
   have hf4:Fr [hb,wb,tb,bb] H2 H4:=hf3.trans ⟨by omega,fun b _ hn=>hk4 b fun e=>hn (by simp [e])⟩
   have hr5:=hr4.set4 (aQ (r.keepO ks))
   have hr6:=hr5.set8 (IntKind.wrap .i64 (r.turn+1))
   simp only [af,cond_true,cond_false,Option.isNone_some,Option.isNone_none,aE,ay,aP,aJ,aF,aK,aL,aw,aN,aM,aD,aO,and_assoc,true_and,and_true,ak,Nat.zero_add,Nat.mul_one,ao,am,av,Bool.not_true,Bool.not_false,aU,aX,hr5.c8,hr6.c3]
   have e7:IntKind.wrap .i64 ((r.objs.length:Int)-(((r.keepO ks).length:Int)+((r.objs.length-r.objs.length:Nat):Int)))=(r.objs.length:Int)-((r.keepO ks).length:Int):=by rw [ah (by omega) (by omega)];omega
   have e8:IntKind.wrap .i64 (aQ r.objs-aQ (r.keepO ks))=aQ r.objs-aQ (r.keepO ks):=ah (by omega) (by omega)
   rw [e7,e8]
   have hf6:Fr [hb,wb,tb,bb] H (aB (aB H4 ⟨hb,4,none⟩ (.int .i64 (aQ (r.keepO ks)))) ⟨hb,8,none⟩ (.int .i64 (IntKind.wrap .i64 (r.turn+1)))):=((hsub hf4).step (by simp)).step (by simp)
   refine ⟨hr4.wrh (by decide),hr5.wrh (by decide),h _ ⟨wb,tb,bb,_,_,_,_,rfl,hr6.phs (hR.kinds.fr hf6 hR0.gk) hwf2 (r:={ r with objs:=r.keepO ks,turn:=IntKind.wrap .i64 (r.turn+1) }) ?_ rfl rfl (by simp) rfl rfl rfl rfl⟩ hf6⟩
   have hst2:KeepSt W r.words r.oops kf r.objs [] (fun i=>if aQ (r.keepO ks)<=i∧i<aQ (r.keepO ks)+(((aQ r.objs).toNat-(aQ (r.keepO ks)).toNat:Nat):Int) then 0 else W' i) T' low' :=
    { wf:=hst.wf,regK:=fun x hx=>by
       obtain ⟨o,g1,g2,g3⟩:=hst.regK x hx
       refine ⟨o,g1,g2,fun i h0 h1=>?_⟩
       have hx':x∈r.keepO ks:=by rw [hko];exact hx
       have:=ir hkw hx'
       have hxl:x.len=o.len:=by rw [g2];rfl
       rw [if_neg (by omega)]
       exact g3 i h0 h1
      regR:=fun y hy=>by cases hy
      tab:=hst.tab,low1:=hst.low1,low2:=hst.low2,low3:=hst.low3 }
   have:=wB hR.sim hst2 (tn:=IntKind.wrap .i64 (r.turn+1))
   rw [←hko] at this
   exact this
end
end Go.Proofs.YtgcoppcogllpbaaGreatDoor
namespace Kw
open Go Go.Proofs Go.Shelf Go.Sort Go.RowKit Go.Lib
variable {P:Program}{α:Type} [Inhabited α]
theorem nG {enc:α->Value}{w:World}{b:Nat}{d:Array α}{cs:Array Value}{t:TypeId}{fr:Nat × Nat} (hb:w.heap[b]?=some (.cells cs t fr)) :
  (putRow enc w b 0 d).heap[b]?=some (.cells (putCells enc 0 d cs) t fr)∧(putRow enc w b 0 d).heap.size=w.heap.size∧∀ b',b'≠b->(putRow enc w b 0 d).heap[b']?=w.heap[b']?:=by
 refine ⟨?_,by simp [putRow,mapBlock],fun b' hn=>?_⟩
 ·simp only [putRow,mapBlock,Array.getElem?_modify,if_true,hb,Option.map_some]
  rfl
 ·simp only [putRow,mapBlock,Array.getElem?_modify]
  rw [if_neg (Ne.symm hn)]
theorem gv {enc:α->Value}{w:World}{b m:Nat}{d:Array α}{os:Array Obj}{cs:Array Value}{t:TypeId}{fr:Nat × Nat} (hb:w.heap[b]?=some (.cells cs t fr)) :
  (sortWorld enc w b 0 m d os).heap[b]?=some (.cells (putCells enc 0 d cs) t fr)∧Fr [b] w.heap (sortWorld enc w b 0 m d os).heap:=by
 have h:=nG (enc:=enc) (w:=Sort.ahead w m) (d:=d) (b:=b) (cs:=cs) (t:=t) (fr:=fr) hb
 have hlt:b<w.heap.size:=(Array.getElem?_eq_some_iff.1 hb).1
 have hs:(Sort.ahead w m).heap.size=w.heap.size:=rfl
 unfold sortWorld Sort.grow
 refine ⟨?_,?_,fun b' hb' hn=>?_⟩
 ·simp only
  rw [Array.getElem?_append_left (by rw [h.2.1];exact hlt)]
  exact h.1
 ·simp only [Array.size_append];rw [h.2.1];exact Nat.le_add_right _ _
 ·simp only
  rw [Array.getElem?_append_left (by rw [h.2.1];exact hb')]
  exact h.2.2 b' (by simpa using hn)
theorem ki {ρ:Ren} (L:SlLaysF.n6 P ρ) (enc:α->Int) (cf:α->α->Int) (hO:SWO (ltOf cf)) (hT:∀ x y,(ltOf cf) x y=false->(ltOf cf) y x=false->x=y){g:Nat}{cb:Array Value}
  (hfn:∃ fn,P.funcs[ρ.f 6]?=some fn∧fn.body.isSome=true) (eg:∀ args w,(callFunc g args).run P w=.ok (.enter g args) w){b l c:Nat}{H:ae}{d:List α}{Q:Value->ae->Prop} (ho:bN 1 H (some ⟨b,0,none⟩) l c (aj (d.map enc)) [b]) (hsz:l<4611686018427387904)
  (hcl:∀ x y H',Fr [b] H H'->ac P g (#[.int .i64 (enc x),.int .i64 (enc y)]++cb) (fun v H''=>v=.int .i64 (cf x y)∧H''=H') H')
  (h:∀ H',bN 1 H' (some ⟨b,0,none⟩) l c (aj ((d.mergeSort fun x y=>!(ltOf cf) y x).map enc)) [b]->Fr [b] H H'->Q (.tuple #[]) H') :
  ac P (ρ.f 6) #[.slice (some ⟨b,0,none⟩) l c,.func (.func g) #[] cb] Q H:=by
 refine ⟨hfn,?_⟩
 intro w hw
 subst hw
 rcases ho.2.2 with ⟨h0,_,_⟩ | ⟨b',cs,hb1,_,⟨t,hbk⟩,hcs,htk⟩
 ·cases h0
 cases hb1
 have hl:l=d.length:=by have:=ho.1;simpa [aj] using this.symm
 subst hl
 have hdl:(d.toArray).size=d.length:=by simp
 have hle:d.length<=c:=ho.2.1
 have hcell:∀ j,j<d.length->cs[j]?=some (.int .i64 (enc d.toArray[j]!)):=by
  intro j hj
  have h1:(cs.toList.take (d.length*1))[j]?=(aj (d.map enc))[j]?:=by rw [htk]
  rw [List.getElem?_take_of_lt (by omega)] at h1
  rw [←Array.getElem?_toList,h1]
  simp [aj,hj]
 have hH:Go.Sort.Holds (fun x=>Value.int .i64 (enc x)) w b 0 d.toArray:=by
  intro j hj
  rw [hdl] at hj
  refine ⟨?_,?_⟩
  ·rw [Nat.zero_add,←hcell j hj]
   unfold World.cell?
   simp only [hbk]
   rfl
  ·unfold World.frozen?
   simp only [hbk]
   simp
 have hS0:=Any.slices_SortFunc L (fun x=>Value.int .i64 (enc x)) (fun _=>rfl) cf hO g cb b 0 c d.toArray w eg (fun m os dk hdk x y=>?_) hH (Array.getElem?_eq_some_iff.1 hbk).1 (by simpa using hsz)
 ·rw [hdl] at hS0
  refine hS0.mono ?_
  rintro e w' ⟨rfl,d',n,os,hp,hs,rfl⟩
  have hd':d'=(d.mergeSort fun x y=>!(ltOf cf) y x).toArray:=by
   have h1:=sorted_unique_holds hO hT d.toArray d' (by simpa using hp) (by simpa using hs)
   rw [←h1]
  subst hd'
  have hh:=gv (enc:=fun x=>Value.int .i64 (enc x)) (m:=n) (os:=os) (d:=(d.mergeSort fun x y=>!(ltOf cf) y x).toArray) hbk
  refine ⟨_,rfl,h _ ⟨by simp [aj,List.length_mergeSort],hle,.inr ⟨b,_,rfl,rfl,⟨t,hh.1⟩,by simp [putCells,hcs],?_⟩⟩ hh.2,rfl,rfl,rfl,?_⟩
  ·apply List.ext_getElem
   ·simp [aj,putCells,List.length_mergeSort];omega
   ·intro j h1 h2
    have hj:j<d.length:=by simpa [aj,List.length_mergeSort] using h2
    have hj2:j<(d.mergeSort fun x y=>!(ltOf cf) y x).length:=by rw [List.length_mergeSort];exact hj
    simp only [List.getElem_take,aj,List.getElem_map,Array.getElem_toList,putCells,Array.getElem_mapIdx,Nat.zero_le,true_and,Nat.zero_add,List.size_toArray,List.length_mergeSort,hj,if_true,Nat.sub_zero]
    congr 2
    rw [List.getElem!_toArray,List.getElem!_eq_getElem?_getD,List.getElem?_eq_getElem hj2]
    rfl
  ·refine ⟨by show w.drawn<=w.drawn+n;omega,hh.2.1,fun b' ds hb'=>?_⟩
   have hlt':b'<w.heap.size:=(Array.getElem?_eq_some_iff.1 hb').1
   have hne:b'≠b:=fun e=>by subst e;rw [hbk] at hb';cases hb'
   exact (hh.2.2 b' hlt' (by simpa using hne)).trans hb'
 ·have hh:=gv (enc:=fun x=>Value.int .i64 (enc x)) (m:=m) (os:=os) (d:=dk) hbk
  refine ((hcl x y _ hh.2).2 _ rfl).mono ?_
  rintro e w' ⟨v,rfl,⟨rfl,hheap⟩,h1,h2,h3,h4,h5⟩
  refine ⟨rfl,w'.drawn-(sortWorld (fun x=>Value.int .i64 (enc x)) w b 0 m dk os).drawn,#[],?_⟩
  rw [Sort.grow_empty]
  cases w'
  simp only at hheap h1 h2 h3 h4
  subst hheap;subst h1;subst h2;subst h3
  rename_i dr
  have e:dr=(sortWorld (fun x=>Value.int .i64 (enc x)) w b 0 m dk os).drawn+(dr-(sortWorld (fun x=>Value.int .i64 (enc x)) w b 0 m dk os).drawn):=by omega
  unfold World.drewN
  show World.mk _ _ _ _ _=World.mk _ _ _ _ _
  congr 1
end Kw
namespace Go.Proofs
open Go.Shelf
def Tryz.sortL_ren:Go.Shelf.Ren:=⟨fun | 6=>323 | 15=>321 | 14=>376 | 28=>375 | 29=>363 | 20=>396 | 21=>397 | 22=>398 | 23=>399 | 24=>400 | 25=>401 | 26=>402 | 27=>403 | 46=>410 | 47=>392 | 48=>393 | 49=>411 | 50=>412 | 57=>413 | n=>n,fun | 22=>47 | 24=>3 | 25=>196 | 3=>3 | 39=>77 | 0=>0 | 53=>309 | 55=>279 | 4=>4 | 46=>313 | 45=>312 | 50=>194 | 5=>5 | 9=>9 | 66=>333 | 70=>337 | 76=>349 | 77=>103 | n=>n,fun | n=>n⟩
theorem Tryz.sortL:Go.Proofs.SlLaysF.n6 Tryz.prog Tryz.sortL_ren:={
 mixed:=by kernel_rfl
 f6:=⟨Tryz.f323.name,by decide,Tryz.func323.trans (congrArg some (by kernel_rfl))⟩
 f14:=⟨Tryz.f376.name,by decide,Tryz.func376.trans (congrArg some (by kernel_rfl))⟩
 f15:=Tryz.func321.trans (congrArg some (by kernel_rfl))
 f20:=⟨Tryz.f396.name,by decide,Tryz.func396.trans (congrArg some (by kernel_rfl))⟩
 f21:=⟨Tryz.f397.name,by decide,Tryz.func397.trans (congrArg some (by kernel_rfl))⟩
 f22:=⟨Tryz.f398.name,by decide,Tryz.func398.trans (congrArg some (by kernel_rfl))⟩
 f23:=⟨Tryz.f399.name,by decide,Tryz.func399.trans (congrArg some (by kernel_rfl))⟩
 f24:=⟨Tryz.f400.name,by decide,Tryz.func400.trans (congrArg some (by kernel_rfl))⟩
 f25:=⟨Tryz.f401.name,by decide,Tryz.func401.trans (congrArg some (by kernel_rfl))⟩
 f26:=⟨Tryz.f402.name,by decide,Tryz.func402.trans (congrArg some (by kernel_rfl))⟩
 f27:=⟨Tryz.f403.name,by decide,Tryz.func403.trans (congrArg some (by kernel_rfl))⟩
 f28:=Tryz.func375.trans (congrArg some (by kernel_rfl))
 f29:=Tryz.func363.trans (congrArg some (by kernel_rfl))
 f46:=⟨Tryz.f410.name,by decide,Tryz.func410.trans (congrArg some (by kernel_rfl))⟩
 f47:=Tryz.func392.trans (congrArg some (by kernel_rfl))
 f48:=Tryz.func393.trans (congrArg some (by kernel_rfl))
 f49:=⟨Tryz.f411.name,by decide,Tryz.func411.trans (congrArg some (by kernel_rfl))⟩
 f50:=⟨Tryz.f412.name,by decide,Tryz.func412.trans (congrArg some (by kernel_rfl))⟩
 f57:=⟨Tryz.f413.name,by decide,Tryz.func413.trans (congrArg some (by kernel_rfl))⟩
 t0:=Tryz.underlying0
 a0:=Tryz.isAgg0
 z0:=Tryz.sizeOf0
 v0:=Tryz.zeroValue0
 t3:=Tryz.underlying3
 a3:=Tryz.isAgg3
 z3:=Tryz.sizeOf3
 v3:=Tryz.zeroValue3
 t4:=Tryz.underlying4
 a4:=Tryz.isAgg4
 z4:=Tryz.sizeOf4
 v4:=Tryz.zeroValue4
 t5:=Tryz.underlying5
 a5:=Tryz.isAgg5
 z5:=Tryz.sizeOf5
 v5:=Tryz.zeroValue5
 t9:=Tryz.underlying9
 a9:=Tryz.isAgg9
 z9:=Tryz.sizeOf9
 v9:=Tryz.zeroValue9
 t22:=Tryz.underlying47
 a22:=Tryz.isAgg47
 z22:=Tryz.sizeOf47
 v22:=Tryz.zeroValue47
 a24:=Tryz.isAgg3
 z24:=Tryz.sizeOf3
 t25:=Tryz.underlying196
 a25:=Tryz.isAgg196
 z25:=Tryz.sizeOf196
 v25:=Tryz.zeroValue196
 t39:=Tryz.underlying77
 a39:=Tryz.isAgg77
 z39:=Tryz.sizeOf77
 v39:=Tryz.zeroValue77
 t45:=Tryz.underlying312
 a45:=Tryz.isAgg312
 z45:=Tryz.sizeOf312
 v45:=Tryz.zeroValue312
 t46:=Tryz.underlying313
 a46:=Tryz.isAgg313
 z46:=Tryz.sizeOf313
 v46:=Tryz.zeroValue313
 t50:=Tryz.underlying194
 a50:=Tryz.isAgg194
 z50:=Tryz.sizeOf194
 v50:=Tryz.zeroValue194
 t53:=Tryz.underlying309
 a53:=Tryz.isAgg309
 z53:=Tryz.sizeOf309
 v53:=Tryz.zeroValue309
 t55:=Tryz.underlying279
 a55:=Tryz.isAgg279
 z55:=Tryz.sizeOf279
 v55:=Tryz.zeroValue279
 t66:=Tryz.underlying333
 a66:=Tryz.isAgg333
 z66:=Tryz.sizeOf333
 v66:=Tryz.zeroValue333
 t70:=Tryz.underlying337
 a70:=Tryz.isAgg337
 z70:=Tryz.sizeOf337
 v70:=Tryz.zeroValue337
 t76:=Tryz.underlying349
 a76:=Tryz.isAgg349
 z76:=Tryz.sizeOf349
 v76:=Tryz.zeroValue349
 t77:=Tryz.underlying103
 a77:=Tryz.isAgg103
 z77:=Tryz.sizeOf103
 v77:=Tryz.zeroValue103 }
def Tryz.sortI_ren:Go.Shelf.Ren:=⟨fun | 189=>232 | 125=>321 | 257=>320 | 128=>375 | 129=>363 | 294=>367 | 295=>368 | 296=>369 | 297=>370 | 298=>371 | 299=>372 | 216=>258 | 300=>373 | 301=>374 | 328=>391 | 329=>392 | 330=>393 | 331=>394 | 332=>395 | 215=>330 | 343=>409 | n=>n,fun | 28=>47 | 3=>3 | 46=>77 | 0=>0 | 51=>309 | 53=>279 | 4=>4 | 183=>313 | 182=>312 | 131=>194 | 5=>5 | 9=>9 | 218=>333 | 222=>337 | 228=>349 | 229=>103 | n=>n,fun | n=>n⟩
theorem Tryz.sortI:Go.Proofs.Lays.n189 Tryz.prog Tryz.sortI_ren:={
 mixed:=by kernel_rfl
 f125:=Tryz.func321.trans (congrArg some (by kernel_rfl))
 f128:=Tryz.func375.trans (congrArg some (by kernel_rfl))
 f129:=Tryz.func363.trans (congrArg some (by kernel_rfl))
 f189:=Tryz.func232.trans (congrArg some (by kernel_rfl))
 f215:=Tryz.func330.trans (congrArg some (by kernel_rfl))
 f216:=Tryz.func258.trans (congrArg some (by kernel_rfl))
 f257:=Tryz.func320.trans (congrArg some (by kernel_rfl))
 f294:=Tryz.func367.trans (congrArg some (by kernel_rfl))
 f295:=Tryz.func368.trans (congrArg some (by kernel_rfl))
 f296:=Tryz.func369.trans (congrArg some (by kernel_rfl))
 f297:=Tryz.func370.trans (congrArg some (by kernel_rfl))
 f298:=Tryz.func371.trans (congrArg some (by kernel_rfl))
 f299:=Tryz.func372.trans (congrArg some (by kernel_rfl))
 f300:=Tryz.func373.trans (congrArg some (by kernel_rfl))
 f301:=Tryz.func374.trans (congrArg some (by kernel_rfl))
 f328:=Tryz.func391.trans (congrArg some (by kernel_rfl))
 f329:=Tryz.func392.trans (congrArg some (by kernel_rfl))
 f330:=Tryz.func393.trans (congrArg some (by kernel_rfl))
 f331:=Tryz.func394.trans (congrArg some (by kernel_rfl))
 f332:=Tryz.func395.trans (congrArg some (by kernel_rfl))
 f343:=Tryz.func409.trans (congrArg some (by kernel_rfl))
 t0:=Tryz.underlying0
 a0:=Tryz.isAgg0
 z0:=Tryz.sizeOf0
 v0:=Tryz.zeroValue0
 t3:=Tryz.underlying3
 a3:=Tryz.isAgg3
 z3:=Tryz.sizeOf3
 v3:=Tryz.zeroValue3
 t4:=Tryz.underlying4
 a4:=Tryz.isAgg4
 z4:=Tryz.sizeOf4
 v4:=Tryz.zeroValue4
 t5:=Tryz.underlying5
 a5:=Tryz.isAgg5
 z5:=Tryz.sizeOf5
 v5:=Tryz.zeroValue5
 t9:=Tryz.underlying9
 a9:=Tryz.isAgg9
 z9:=Tryz.sizeOf9
 v9:=Tryz.zeroValue9
 t28:=Tryz.underlying47
 a28:=Tryz.isAgg47
 z28:=Tryz.sizeOf47
 v28:=Tryz.zeroValue47
 t46:=Tryz.underlying77
 a46:=Tryz.isAgg77
 z46:=Tryz.sizeOf77
 v46:=Tryz.zeroValue77
 t51:=Tryz.underlying309
 a51:=Tryz.isAgg309
 z51:=Tryz.sizeOf309
 v51:=Tryz.zeroValue309
 t53:=Tryz.underlying279
 a53:=Tryz.isAgg279
 z53:=Tryz.sizeOf279
 v53:=Tryz.zeroValue279
 t131:=Tryz.underlying194
 a131:=Tryz.isAgg194
 z131:=Tryz.sizeOf194
 v131:=Tryz.zeroValue194
 t182:=Tryz.underlying312
 a182:=Tryz.isAgg312
 z182:=Tryz.sizeOf312
 v182:=Tryz.zeroValue312
 t183:=Tryz.underlying313
 a183:=Tryz.isAgg313
 z183:=Tryz.sizeOf313
 v183:=Tryz.zeroValue313
 t218:=Tryz.underlying333
 a218:=Tryz.isAgg333
 z218:=Tryz.sizeOf333
 v218:=Tryz.zeroValue333
 t222:=Tryz.underlying337
 a222:=Tryz.isAgg337
 z222:=Tryz.sizeOf337
 v222:=Tryz.zeroValue337
 t228:=Tryz.underlying349
 a228:=Tryz.isAgg349
 z228:=Tryz.sizeOf349
 v228:=Tryz.zeroValue349
 t229:=Tryz.underlying103
 a229:=Tryz.isAgg103
 z229:=Tryz.sizeOf103
 v229:=Tryz.zeroValue103 }
end Go.Proofs
namespace Go.Proofs.YtgcoppcogllpbaaGreatDoor
open Kw Go.Sort
theorem tE {H:ae}{hb:Nat}{r:RH}{Q:QT}{F:az} (hbp:nq hb r) (hR:bQ H hb F r){a2:Option Addr}{l2 c2:Nat}{ks:List Int} (hk:Rd 1 H a2 l2 (aj ks)) (hd:∀ p,a2=some p->p.block∉F) (hlk:l2<=1099511627776)
  (h:∀ H',bQ H' hb F (r.keep ks).2->Fr F H H'->Q (lZ (r.keep ks).1) H'):ac PP tB #[.pointer (some ⟨hb,0,none⟩),.slice a2 l2 c2] Q H:=yA hR hbp hk hd hlk h
def cZ (r:RH) (k:Int):Int:=match al r.objs k with
 | some o=>o.place
 | none=>-1
abbrev fh (r:RH):Type:={ k:Int // al r.objs k≠none∨k=0 }
instance (r:RH):Inhabited (fh r):=⟨⟨0,.inr rfl⟩⟩
theorem oB {r:RH} (hw:WFH r){x y:fh r} (h:cZ r x.1=cZ r y.1):x=y:=by
 have h0:∀ z:fh r,al r.objs z.1=none->z.1=0:=fun z hz=>z.2.resolve_left fun hn=>hn hz
 have hp:∀ z o,al r.objs z=some o->o∈r.objs∧o.oop=z∧0<=o.place:=fun z o ho=>⟨(au ho).1,(au ho).2,(hw.objs.good o (au ho).1).pl⟩
 apply Subtype.ext
 unfold cZ at h
 cases hx:al r.objs x.1 with
 | none =>
  cases hy:al r.objs y.1 with
  | none=>rw [h0 x hx,h0 y hy]
  | some o=>rw [hx,hy] at h;have:=(hp _ o hy).2.2;simp only at h;omega
 | some o =>
  cases hy:al r.objs y.1 with
  | none=>rw [hx,hy] at h;have:=(hp _ o hx).2.2;simp only at h;omega
  | some o' =>
   rw [hx,hy] at h
   simp only at h
   obtain ⟨k1,k2,k3⟩:=hp _ o hx
   obtain ⟨k4,k5,k6⟩:=hp _ o' hy
   refine Classical.byContradiction fun hne=>?_
   have:=o.len_pos
   have:=o'.len_pos
   rcases apart hw.objs k1 k4 (by rw [k2,k5];exact hne) with h1 | h1 <;> omega
def sw (r:RH) (x y:fh r):Int:=cZ r x.1-cZ r y.1
theorem iK {r:RH} (x y:fh r):ltOf (sw r) x y=decide (cZ r x.1<cZ r y.1):=by
 unfold ltOf sw
 by_cases h:cZ r x.1<cZ r y.1
 ·simp [h];omega
 ·simp [h];omega
theorem nD {r:RH} (hw:WFH r){d:List (fh r)} (hd:d.map (·.1)=r.all):(d.mergeSort fun x y=>!(ltOf (sw r)) y x).map (·.1)=r.objs.map (·.oop):=by
 have hmem:∀ o∈r.objs,al r.objs o.oop≠none∨o.oop=0:=fun o ho=>.inl (by rw [bW hw.objs ho];simp)
 obtain ⟨t,ht⟩:∃ t:List (fh r),t.map (·.1)=r.objs.map (·.oop):=⟨r.objs.attach.map fun o=>⟨o.1.oop,hmem o.1 o.2⟩,by
  simp only [List.map_map]
  exact List.attach_map_val (f:=fun o:RO=>o.oop) (l:=r.objs)⟩
 have hle:∀ x y:fh r,(!(ltOf (sw r)) y x)=decide (cZ r x.1<=cZ r y.1):=fun x y=>by
  rw [iK]
  by_cases h:cZ r y.1<cZ r x.1
  ·simp [h]
  ·simp [h];omega
 rw [←ht]
 congr 1
 have hfun:(fun x y:fh r=>!(ltOf (sw r)) y x)=fun x y=>decide (cZ r x.1<=cZ r y.1):=by funext x y;exact hle x y
 rw [hfun]
 have hnd:d.Nodup:=by
  have h1:(r.all).Nodup:=by
   unfold RH.all RH.upto
   exact (List.nodup_range.map (fun (i:Nat)=>(i:Int)) fun a b hab h=>hab (by omega)).filter _
  rw [←hd] at h1
  rw [List.nodup_iff_pairwise_ne,List.pairwise_map] at h1
  exact List.nodup_iff_pairwise_ne.2 (h1.imp fun h e=>h (congrArg _ e))
 have hnt:t.Nodup:=by
  have h1:(r.objs.map (·.oop)).Nodup:=by
   rw [List.nodup_iff_pairwise_ne,List.pairwise_map]
   exact hw.objs.pw.imp fun h=>h.1
  rw [←ht] at h1
  rw [List.nodup_iff_pairwise_ne,List.pairwise_map] at h1
  exact List.nodup_iff_pairwise_ne.2 (h1.imp fun h e=>h (congrArg _ e))
 have hperm:d.Perm t:=by
  rw [List.perm_ext_iff_of_nodup hnd hnt]
  intro x
  have e1:x∈d↔x.1∈r.all:=by
   rw [←hd,List.mem_map]
   constructor
   ·exact fun h=>⟨x,h,rfl⟩
   ·rintro ⟨y,hy,he⟩;rw [←Subtype.ext he];exact hy
  have e2:x∈t↔x.1∈r.objs.map (·.oop):=by
   rw [←ht,List.mem_map]
   constructor
   ·exact fun h=>⟨x,h,rfl⟩
   ·rintro ⟨y,hy,he⟩;rw [←Subtype.ext he];exact hy
  rw [e1,e2,RH.mem_all hw,List.mem_map]
  constructor
  ·intro h
   cases ho:al r.objs x.1 with
   | none=>exact absurd ho h
   | some o=>exact ⟨o,(au ho).1,(au ho).2⟩
  ·rintro ⟨o,ho,he⟩
   rw [←he,bW hw.objs ho];simp
 have hs1:=List.pairwise_mergeSort (le:=fun x y:fh r=>decide (cZ r x.1<=cZ r y.1)) (fun a b c h1 h2=>by simp at *;omega) (fun a b=>by simp;omega) d
 have hs2:t.Pairwise fun x y=>decide (cZ r x.1<=cZ r y.1)=true:=by
  have h1:(r.objs.map fun o=>cZ r o.oop).Pairwise (·<=·):=by
   rw [List.pairwise_map]
   have h2:∀ o∈r.objs,cZ r o.oop=o.place:=fun o ho=>by unfold cZ;rw [bW hw.objs ho]
   refine List.Pairwise.imp_of_mem ?_ hw.objs.pw
   intro a b ha hb hab
   rw [h2 a ha,h2 b hb]
   have:=hab.2
   have:=a.len_pos
   omega
  have h2:(t.map fun x=>cZ r x.1)=r.objs.map fun o=>cZ r o.oop:=by
   have:=congrArg (List.map (cZ r)) ht
   rw [List.map_map,List.map_map] at this
   exact this
  rw [←h2,List.pairwise_map] at h1
  exact h1.imp fun h=>by simpa using h
 exact List.Perm.eq_of_pairwise (fun a b _ _ h1 h2=>oB hw (by simp at h1 h2;omega)) hs1 hs2 ((List.mergeSort_perm d _).trans hperm)
theorem sy (hb:Nat) (r:RH):nq hb r:=by
 intro H wb tb bb W T B low Q hR h
 have hw:=hR.wf
 have ho0:=hw.o0
 have ho1:=hw.o1
 apply xC
 unfold DD A0 pV lV cS
 have hgk:ap<H.size:=by
  have h0:=hR.kinds.1
  unfold aa at h0
  rcases Nat.lt_or_ge ap H.size with h1 | h1
  ·exact h1
  ·simp only [Array.getElem?_eq_none h1] at h0;cases h0
 have hfp:Fr [] H (H.push (.cells #[.pointer (some ⟨hb,0,none⟩)] 85)):=Fr.push _ _ _
 obtain ⟨wb',tb',bb',W',T',B',low',e,hR1'⟩:=hR.rep.fr hfp (co.nil_right _) (by simp)
 have hR1:PHs (H.push (.cells #[.pointer (some ⟨hb,0,none⟩)] 85)) hb wb tb bb W T B low r:={ hR with hd:=hR.hd.push _,mw:=hR.mw.push _,mt:=hR.mt.push _,mb:=hR.mb.push _,kinds:=hR1'.kinds }
 simp only [af,cond_true,cond_false,Option.isNone_some,Option.isNone_none,aE,ay,aP,aJ,aF,aK,aL,aw,aN,aM,aD,aO,and_assoc,true_and,and_true,ak,Nat.zero_add,Nat.mul_one,ao,am,av,Bool.not_true,Bool.not_false,aU,aX,List.setIfInBounds_toArray,List.set_cons_zero,List.set_cons_succ,List.size_toArray,List.length_cons,List.length_nil,List.getElem?_toArray,List.getElem?_cons_succ,List.getElem?_cons_zero]
 refine AZ hR1 fun a l c F H1 ho hf hF hFn=>?_
 simp only [af,cond_true,cond_false,Option.isNone_some,Option.isNone_none,aE,ay,aP,aJ,aF,aK,aL,aw,aN,aM,aD,aO,and_assoc,true_and,and_true,ak,Nat.zero_add,Nat.mul_one,ao,am,av,Bool.not_true,Bool.not_false,aU,aX]
 have hlt:=ho.lt
 have hcap:aa H1 ⟨H.size,0,none⟩=some (.pointer (some ⟨hb,0,none⟩)):=((aV.new H #[.pointer (some ⟨hb,0,none⟩)] 85).fr hf (by simp)).cell 0
 have hlen:=ho.len
 simp only [aj,List.length_map] at hlen
 have hul:=r.upto_len (r.oops+1).toNat
 let d:List (fh r):=r.all.attach.map fun k=>⟨k.1,.inl ((RH.mem_all hw).1 k.2)⟩
 have hd:d.map (·.1)=r.all:=by
  simp only [d,List.map_map]
  exact List.attach_map_val (f:=fun k:Int=>k) (l:=r.all) |>.trans (List.map_id _)
 rcases ho.2.2 with ⟨ha,hc,hF0⟩ | ⟨b,cs,ha,hF0,_⟩
 ·exact absurd hF0 hFn
 ·subst ha;subst hF0
  have hbs:b≠H.size:=by
   have:=hF b (by simp)
   simp only [Array.size_push] at this
   omega
  have hbt:∀ x∈[hb,wb,tb,bb],x∉[b]:=fun x hx hn=>by
   simp only [List.mem_singleton] at hn
   have h1:=hF b (by simp)
   have h2:=hR.rep.lt x hx
   simp only [Array.size_push] at h1
   omega
  have hsz:l<4611686018427387904:=by
   have h1:r.all.length<=(r.oops+1).toNat:=hul
   omega
  refine ki (α:=fh r) Tryz.sortL (fun x=>x.1) (sw r) ?_ ?_ ⟨_,Tryz.func323,rfl⟩ (enters_of Tryz.func324 (by kernel_rfl) rfl) (d:=d) (by rw [hd];exact ho) hsz (fun x y H2 hf2=>?_) fun H2 ho2 hf2=>?_
  ·refine ⟨fun x=>?_,fun x y z h1 h2=>?_,fun x y z h1 h2=>?_⟩
   ·rw [iK];simp
   ·rw [iK] at *;simp at *;omega
   ·rw [iK] at *;simp at *;omega
  ·intro x y h1 h2
   rw [iK] at h1 h2
   simp at h1 h2
   exact oB hw (by omega)
  ·have hR2:Raw H2 hb wb tb bb r.words.toNat (r.oops+1).toNat _:=(hR1.raw.keep hf (co.nil_right _)).keep hf2 hbt
   have hcap2:aa H2 ⟨H.size,0,none⟩=some (.pointer (some ⟨hb,0,none⟩)):=(((aV.new H #[.pointer (some ⟨hb,0,none⟩)] 85).fr hf (by simp)).fr hf2 (by simp;omega)).cell 0
   have hrng:∀ z:fh r,0<=z.1∧z.1<=r.oops∧T z.1=cZ r z.1∧-1<=cZ r z.1∧cZ r z.1<=r.words:=by
    intro z
    have hz:0<=z.1∧z.1<=r.oops:=by
     rcases z.2 with h1 | h1
     ·cases ho:al r.objs z.1 with
      | none=>exact absurd ho h1
      | some o =>
       have hg:=hw.objs.good o (au ho).1
       have h2:=hg.oop1
       have h3:=hg.oop2
       rw [(au ho).2] at h2 h3
       omega
     ·omega
    refine ⟨hz.1,hz.2,hR.sim.tab z.1 hz.1 hz.2,?_⟩
    unfold cZ
    have hw0:=hw.w0
    cases ho:al r.objs z.1 with
    | none=>simp;omega
    | some o =>
     have hg:=hw.objs.good o (au ho).1
     have h2:=hg.pl
     have h3:=hg.fits
     have h4:=o.len_pos
     simp only;omega
   obtain ⟨x1,x2,x3,x4,x5⟩:=hrng x
   obtain ⟨y1,y2,y3,y4,y5⟩:=hrng y
   have hw1:=hw.w1
   show ac PP yF #[.int .i64 x.1,.int .i64 y.1,.pointer (some ⟨H.size,0,none⟩)] _ H2
   apply vJ
   unfold Be iV wW pV lV
   simp only [af,cond_true,cond_false,Option.isNone_some,Option.isNone_none,aE,ay,aP,aJ,aF,aK,aL,aw,aN,aM,aD,aO,and_assoc,true_and,and_true,ak,Nat.zero_add,Nat.mul_one,ao,am,av,Bool.not_true,Bool.not_false,aU,aX,hcap2,hR2.c1,hR2.tabc (i:=x.1) (by omega) (by omega),hR2.tabc (i:=y.1) (by omega) (by omega)]
   refine ⟨by omega,by omega,by omega,by omega,?_⟩
   rw [x3,y3,ah (by omega) (by omega)]
   rfl
  ·have hs:=nD hw hd
   rw [hs] at ho2
   refine ⟨rfl,h _ _ _ [b] H2 ho2 ⟨?_,fun x hx _=>?_⟩ (fun x hx=>?_)⟩
   ·exact Nat.le_trans (hfp.trans hf).1 hf2.1
   ·rw [hf2.2 x (Nat.lt_of_lt_of_le hx (hfp.trans hf).1) (fun hn=>by
     simp only [List.mem_singleton] at hn
     have:=hF b (by simp)
     simp only [Array.size_push] at this
     omega),(hfp.trans hf).2 x hx (by simp)]
   ·have:=hF x hx
    simp only [Array.size_push] at this
    omega
end Go.Proofs.YtgcoppcogllpbaaGreatDoor
namespace Go.Proofs.YtgcoppcogllpbaaGreatDoor
open Kw
variable {Q:QT}{H:ae}
abbrev BN:Nat:=28
def EL (p1:Option Addr) (n2:Int) (Q:QT) (H:ae):Prop :=
 ac PP 48 #[pV p1] (fun v3 H1=>∃ b4,v3=.bool b4∧cond b4 (Q (iV 2) H1) (cond (decide (n2<0)) (Q (iV 28) H1) (∃ q5,p1=some q5∧∃ a6 l6 c6,aa H1 (q5.add 2)=some (lV a6 l6 c6)∧cond (decide (n2 > (l6:Int))) (Q (iV 28) H1) (∃ q7,p1=some q7∧∃ a8 l8 c8,aa H1 (q7.add 2)=some (lV a8 l8 c8)∧∃ q9,p1=some q9∧∃ a10 l10 c10,aa H1 (q9.add 2)=some (lV a10 l10 c10)∧((0:Int)<=(wW ((l10:Int)-n2))∧(wW ((l10:Int)-n2))<=(c8:Int))∧∃ q11,p1=some q11∧Wr H1 (q11.add 2)∧True∧Q (iV 0) (aB H1 (q11.add 2) (lV a8 (Int.toNat (wW ((l10:Int)-n2))) c8)))))) H
theorem zo {p1:Option Addr}{n2:Int} (h:EL p1 n2 Q H):ac PP 28 #[.pointer p1,.int .i64 n2] Q H :=
 okF Tryz.func28 rfl h
abbrev CQ:Nat:=30
def EX (p1:Option Addr) (Q:QT) (H:ae):Prop :=
 ac PP 48 #[pV p1] (fun v2 H1=>∃ b3,v2=.bool b3∧cond b3 (Q (.tuple #[iV 0,iV 0,iV 2]) H1) (∃ q4,p1=some q4∧∃ b5,aa H1 (q4.add 3)=some (.bool b5)∧cond b5 (Q (.tuple #[iV 0,iV 0,iV 25]) H1) (∃ q6,p1=some q6∧∃ p7,aa H1 q6=some (pV p7)∧cS 50 #[pV p1] (fun v8 H2=>∃ a9 l9 c9,v8=lV a9 l9 c9∧((aa H2 q6=some (pV p7)∧True)∧True)∧cS 49 #[pV p7,lV a9 l9 c9] (fun v10 H3=>∃ n11 n12 n13,v10=.tuple #[iV n11,iV n12,iV n13]∧True∧Q (.tuple #[iV n11,iV n12,iV n13]) H3) H2) H1))) H
theorem Aq {p1:Option Addr} (h:EX p1 Q H):ac PP 30 #[.pointer p1] Q H :=
 okF Tryz.func30 rfl h
abbrev A5:Nat:=48
def EY (p1:Option Addr) (Q:QT) (H:ae):Prop :=
 cond (Option.isNone p1) (Q (.bool true) H) (∃ q2,p1=some q2∧∃ p3,aa H q2=some (pV p3)∧Q (.bool (Option.isNone p3)) H)
theorem yD {p1:Option Addr} (h:EY p1 Q H):ac PP 48 #[.pointer p1] Q H :=
 okF Tryz.func48 rfl h
abbrev BU:Nat:=49
def Ey (p1:Option Addr) (a2:Option Addr) (l2:Nat) (c2:Nat) (Q:QT) (H:ae):Prop :=
 ac PP 106 #[pV p1,lV a2 l2 c2] (fun v3 H1=>∃ a4 l4 c4 n5,v3=.tuple #[lV a4 l4 c4,iV n5]∧cond (n5 != 0) (Q (.tuple #[iV 0,iV 0,iV n5]) H1) (cS 107 #[pV p1,lV a4 l4 c4] (fun v6 H2=>∃ n7 n8 n9,v6=.tuple #[iV n7,iV n8,iV n9]∧Q (.tuple #[iV n7,iV n8,iV n9]) H2) H1)) H
theorem zz {p1:Option Addr}{a2:Option Addr}{l2:Nat}{c2:Nat} (h:Ey p1 a2 l2 c2 Q H):ac PP 49 #[.pointer p1,.slice a2 l2 c2] Q H :=
 okF Tryz.func49 rfl h
abbrev B0:Nat:=50
def EQ (p1:Option Addr) (Q:QT) (H:ae):Prop :=
 ∃ q2,p1=some q2∧∃ n3,aa H (q2.add 1)=some (iV n3)∧cS 108 #[iV n3] (fun v4 H1=>∃ n5 n6,v4=.tuple #[iV n5,iV n6]∧cond (n6 != 0) (∃ q7,p1=some q7∧∃ a8 l8 c8,aa H1 (q7.add 2)=some (lV a8 l8 c8)∧Q (lV a8 l8 c8) H1) (∃ q9,p1=some q9∧∃ a10 l10 c10,aa (H1.push (.cells #[iV n5] 24)) (q9.add 2)=some (lV a10 l10 c10)∧aI PP (Builtin.append_ #[30,30] 30 #[lV (some (A0 H1.size)) 1 1,lV a10 l10 c10]) (fun v11 H2=>∃ a12 l12 c12,v11=lV a12 l12 c12∧Q (lV a12 l12 c12) H2) (H1.push (.cells #[iV n5] 24)))) H
theorem zF {p1:Option Addr} (h:EQ p1 Q H):ac PP 50 #[.pointer p1] Q H :=
 okF Tryz.func50 rfl h
abbrev qL:Nat:=63
def DQ (p1:Option Addr) (Q:QT) (H:ae):Prop :=
 ac PP 48 #[pV p1] (fun v2 H1=>∃ b3,v2=.bool b3∧cond b3 (Q (pV none) H1) (∃ q4,p1=some q4∧∃ p5,aa H1 q4=some (pV p5)∧Q (pV p5) H1)) H
theorem ur {p1:Option Addr} (h:DQ p1 Q H):ac PP 63 #[.pointer p1] Q H :=
 okF Tryz.func63 rfl h
abbrev Br:Nat:=82
def EE (p1:Option Addr) (Q:QT) (H:ae):Prop :=
 ac PP 48 #[pV p1] (fun v2 H1=>∃ b3,v2=.bool b3∧cond b3 (Q (lV none 0 0) H1) (∃ q4,p1=some q4∧∃ a5 l5 c5,aa H1 (q4.add 2)=some (lV a5 l5 c5)∧cS 144 #[lV a5 l5 c5] (fun v6 H2=>∃ a7 l7 c7,v6=lV a7 l7 c7∧cS 143 #[lV a7 l7 c7] (fun v8 H3=>∃ a9 l9 c9,v8=lV a9 l9 c9∧Q (lV a9 l9 c9) H3) H2) H1)) H
theorem zR {p1:Option Addr} (h:EE p1 Q H):ac PP 82 #[.pointer p1] Q H :=
 okF Tryz.func82 rfl h
abbrev Cl:Nat:=88
def ES (n1:Int) (n2:Int) (Q:QT) (H:ae):Prop :=
 ac PP 159 #[iV n1,iV n2] (fun v3 H1=>∃ p4 n5,v3=.tuple #[pV p4,iV n5]∧cond (n5 != 0) (Q (.tuple #[pV none,iV n5]) H1) (Q (.tuple #[pV (some (A0 H1.size)),iV 0]) (H1.push (.cells #[pV p4,iV 0,lV none 0 0,.bool false,pV none,iV 0,iV 0,iV 0] 91)))) H
theorem zW {n1:Int}{n2:Int} (h:ES n1 n2 Q H):ac PP 88 #[.int .i64 n1,.int .i64 n2] Q H :=
 okF Tryz.func88 rfl h
abbrev Dt:Nat:=93
def ET (p1:Option Addr) (a2:Option Addr) (l2:Nat) (c2:Nat) (Q:QT) (H:ae):Prop :=
 ac PP 48 #[pV p1] (fun v3 H1=>∃ b4,v3=.bool b4∧cond b4 (Q (iV 2) H1) (cS 163 #[lV a2 l2 c2,.func (.func 164) #[] #[]] (fun v5 H2=>∃ b6,v5=.bool b6∧cond b6 (Q (iV 10) H2) (∃ q7,p1=some q7∧∃ a8 l8 c8,aa H2 (q7.add 2)=some (lV a8 l8 c8)∧cond (decide ((wW ((l8:Int)+(l2:Int))) > 65536)) (Q (iV 22) H2) (∃ q9,p1=some q9∧∃ a10 l10 c10,aa H2 (q9.add 2)=some (lV a10 l10 c10)∧aI PP (Builtin.append_ #[30,30] 30 #[lV a10 l10 c10,lV a2 l2 c2]) (fun v11 H3=>∃ a12 l12 c12,v11=lV a12 l12 c12∧∃ q13,p1=some q13∧Wr H3 (q13.add 2)∧Q (iV 0) (aB H3 (q13.add 2) (lV a12 l12 c12))) H2))) H1)) H
theorem yl {p1:Option Addr}{a2:Option Addr}{l2:Nat}{c2:Nat} (h:ET p1 a2 l2 c2 Q H):ac PP 93 #[.pointer p1,.slice a2 l2 c2] Q H :=
 okF Tryz.func93 rfl h
abbrev BE:Nat:=95
def Ev (p1:Option Addr) (n2:Int) (Q:QT) (H:ae):Prop :=
 ac PP 48 #[pV p1] (fun v3 H1=>∃ b4,v3=.bool b4∧cond b4 (Q (iV 2) H1) (∃ q5,p1=some q5∧∃ p6,aa H1 q5=some (pV p6)∧cS 73 #[pV p6,iV n2] (fun v7 H2=>∃ n8 n9,v7=.tuple #[iV n8,iV n9]∧cond (n9 != 0) (Q (iV n9) H2) (∃ q10,p1=some q10∧Wr H2 (q10.add 1)∧Q (iV 0) (aB H2 (q10.add 1) (iV n2)))) H1)) H
theorem zh {p1:Option Addr}{n2:Int} (h:Ev p1 n2 Q H):ac PP 95 #[.pointer p1,.int .i64 n2] Q H :=
 okF Tryz.func95 rfl h
abbrev yU:Nat:=106
def Ch (p1:Option Addr) (a2:Option Addr) (l2:Nat) (c2:Nat) (Q:QT) (H:ae):Prop :=
 shH (aB ((H.push (.map #[] 0)).push (.cells #[.map none] 234)) (⟨(H.push (.map #[] 0)).size,0,none⟩:Addr) (.map (some H.size))) fun C1=>shH ((C1.push (.cells #[lV none 0 0] 47)).push (.cells #[.nilFunc] 235)) fun C2=>cond (Option.isNone p1) (∀ H1:ae,fR H.size H H1->Q (.tuple #[lV none 0 0,iV 2]) H1) (Wr ((H.push (.map #[] 0)).push (.cells #[.map none] 234)) (⟨(H.push (.map #[] 0)).size,0,none⟩:Addr)∧Wr C2 (⟨(C1.push (.cells #[lV none 0 0] 47)).size,0,none⟩:Addr)∧∃(I3:IT) (μ3:MT),I3 [iV 0] (aB C2 (⟨(C1.push (.cells #[lV none 0 0] 47)).size,0,none⟩:Addr) (.func (.func 229) #[] #[pV (some (⟨(H.push (.map #[] 0)).size,0,none⟩:Addr)),pV (some (A0 C1.size))]))∧∀ w4 H2,I3 w4 H2->∀ g_5:Nat->Value,∃ n6,w4=[iV n6]∧cond (decide (n6<(l2:Int))) (((0:Int)<=n6∧n6<(l2:Int))∧∃ q7,a2=some q7∧∃ n8,aa H2 (q7.add (Int.toNat n6*1))=some (iV n8)∧cS 230 #[pV p1,iV n8] (fun v9 H3=>∃ n10 b11,v9=.tuple #[iV n10,.bool b11]∧cond b11 (∃ f12,∃ g12:Array Value,∃ h12:Array Value,aa H3 (⟨(C1.push (.cells #[lV none 0 0] 47)).size,0,none⟩:Addr)=some (.func (.func f12) g12 h12)∧ac PP f12 ((g12++#[iV n10])++h12) (fun v13 H4=>v13=.tuple #[]∧I3 [iV (wW (n6+1))] H4∧μ3 [iV (wW (n6+1))] H4<μ3 w4 H2) H3) (I3 [iV (wW (n6+1))] H3∧μ3 [iV (wW (n6+1))] H3<μ3 w4 H2)) H2) (∃(I14:IT) (μ14:MT),I14 [] H2∧∀ w15 H5,I14 w15 H5->∀ g_16:Nat->Value,w15=[]∧∃ a17 l17 c17,aa H5 (A0 C1.size)=some (lV a17 l17 c17)∧cond (decide ((l17:Int) > 0)) (∃ a18 l18 c18,aa H5 (A0 C1.size)=some (lV a18 l18 c18)∧∃ a19 l19 c19,aa H5 (A0 C1.size)=some (lV a19 l19 c19)∧((0:Int)<=(wW ((l19:Int)-1))∧(wW ((l19:Int)-1))<(l18:Int))∧∃ q20,a18=some q20∧∃ n21,aa H5 (q20.add (Int.toNat (wW ((l19:Int)-1))*1))=some (iV n21)∧∃ a22 l22 c22,aa H5 (A0 C1.size)=some (lV a22 l22 c22)∧∃ a23 l23 c23,aa H5 (A0 C1.size)=some (lV a23 l23 c23)∧((0:Int)<=(wW ((l23:Int)-1))∧(wW ((l23:Int)-1))<=(c22:Int))∧Wr H5 (A0 C1.size)∧cS 231 #[pV p1,iV n21] (fun v24 H6=>∃ f25,∃ g25:Array Value,∃ h25:Array Value,v24=.func (.func f25) g25 h25∧∀ fn26:FuncId,ac PP f25 ((g25++#[.func (.yield (H6.size+1)) #[] #[]])++h25) (fun _ H7=>kX (H6.size+1) (fun H8=>I14 [] H8∧μ14 [] H8<μ14 w15 H5) (fun H9=>∀ H10:ae,fR H.size H9 H10->Q (.tuple #[lV none 0 0,iV 0]) H10) [] H7) ((H6.push (.deferred (some []))).push (.loop (gJ fn26 #[pV p1,lV a2 l2 c2,.tuple #[],.tuple #[],lV none 0 0,iV 0,pV (some (⟨(H.push (.map #[] 0)).size,0,none⟩:Addr)),pV (some (A0 C1.size)),pV (some (⟨(C1.push (.cells #[lV none 0 0] 47)).size,0,none⟩:Addr)),.tuple #[],(g_5 10),(g_5 11),(g_5 12),iV n21,.tuple #[],.tuple #[],.tuple #[],pV p1,.bool false,.map (some H.size),.func (.func 229) #[] #[pV (some (⟨(H.push (.map #[] 0)).size,0,none⟩:Addr)),pV (some (A0 C1.size))],lV a2 l2 c2,iV (l2:Int),iV n6,.bool false,(g_5 25),(g_5 26),(g_5 27),(g_5 28),(g_5 29),(g_5 30),(g_5 31),(g_5 32),(g_5 33),(g_5 34),(g_5 35),(g_5 36),(g_5 37),lV a17 l17 c17,iV (l17:Int),.bool true,lV a18 l18 c18,lV a19 l19 c19,iV (l19:Int),iV (wW ((l19:Int)-1)),pV (some (q20.add (Int.toNat (wW ((l19:Int)-1))*1))),iV n21,lV a22 l22 c22,lV a23 l23 c23,iV (l23:Int),iV (wW ((l23:Int)-1)),lV a22 (Int.toNat (wW ((l23:Int)-1))) c22,pV p1,iV n21,.func (.func f25) g25 h25,.tuple #[],.tuple #[],.tuple #[],.tuple #[],.tuple #[],.tuple #[],.tuple #[],.tuple #[],.tuple #[],.tuple #[],.tuple #[],.tuple #[],.tuple #[],.tuple #[],.tuple #[],.tuple #[],.tuple #[],.tuple #[],.tuple #[],.tuple #[]] (gC PP 106 0).1 (gC PP 106 0).2.1 (gC PP 106 0).2.2 H6.size)))) (aB H5 (A0 C1.size) (lV a22 (Int.toNat (wW ((l23:Int)-1))) c22))) (∃ r27:Option Nat,aa H5 (⟨(H.push (.map #[] 0)).size,0,none⟩:Addr)=some (.map r27)∧aI PP (Builtin.len_ #[234] 3 #[.map r27]) (fun v28 H11=>∃ n29,v28=iV n29∧aI PP (Instr.makeSlice 47 (iV 0) (iV n29)) (fun v30 H12=>∃ a31 l31 c31,v30=lV a31 l31 c31∧∃ r32:Option Nat,aa H12 (⟨(H.push (.map #[] 0)).size,0,none⟩:Addr)=some (.map r32)∧aI PP (Instr.range 234 (.map r32)) (fun v33 H13=>∃(I34:IT) (μ34:MT),I34 [lV a31 l31 c31] H13∧∀ w35 H14,I34 w35 H14->∀ g_36:Nat->Value,∃ a37 l37 c37,w35=[lV a37 l37 c37]∧aI PP (Instr.next (v33) false 0) (fun v38 H15=>(v38=.tuple #[.bool false]∧cS 232 #[lV a37 l37 c37] (fun v41 H16=>v41=.tuple #[]∧∀ H17:ae,fR H.size H16 H17->Q (.tuple #[lV a37 l37 c37,iV 0]) H17) H15)∨∃ x39 y40:Value,v38=.tuple #[.bool true,x39,y40]∧aI PP (Instr.entry (v33)) (fun v42 H18=>∃ n43,∃ x44:Value,v42=.tuple #[iV n43,x44]∧aI PP (Builtin.append_ #[47,47] 47 #[lV a37 l37 c37,lV (some (A0 H18.size)) 1 1]) (fun v45 H19=>∃ a46 l46 c46,v45=lV a46 l46 c46∧I34 [lV a46 l46 c46] H19∧μ34 [lV a46 l46 c46] H19<μ34 w35 H14) (H18.push (.cells #[iV n43] 3))) H15) H14) H12) H11) H5)))
theorem xg {p1:Option Addr}{a2:Option Addr}{l2:Nat}{c2:Nat} (h:Ch p1 a2 l2 c2 Q H):ac PP 106 #[.pointer p1,.slice a2 l2 c2] Q H :=
 sk good Tryz.func106 rfl (Ls:=fun | 7=>some [(23,3)] | 13=>some [] | 21=>some [(15,47)] | _=>none) (mk:=true) (by kernel_rfl) h
def cF (l:Nat) (q_8:Addr) (n1:Int) (Q:QT) (H:ae):Prop :=
 ∃ r2:Loop,H[l]?=some (.loop r2)∧r2.state=.ready∧∃ f3,∃ g3:Array Value,∃ h3:Array Value,aa (H.setIfInBounds l (.loop { r2 with state:=.busy })) q_8=some (.func (.func f3) g3 h3)∧ac PP f3 ((g3++#[iV n1])++h3) (fun v4 H1=>v4=.tuple #[]∧∃ r5:Loop,H1[l]?=some (.loop r5)∧Q (.bool true) (H1.setIfInBounds l (.loop { r5 with state:=.ready,pending:=none }))) (H.setIfInBounds l (.loop { r2 with state:=.busy }))
theorem ft {l:Nat}{fn:FuncId}{D:Nat}{Ya:Value}{Yb:Value}{Yc:Value}{Yd:Value}{Ye:Value}{Yf:Value}{Yg:Value}{Yh:Value}{q_8:Addr}{Yj:Value}{Yk:Value}{Yl:Value}{Ym:Value}{Yn:Value}{Yo:Value}{Yp:Value}{Yq:Value}{Yr:Value}{Ys:Value}{Yt:Value}{Yu:Value}{Yv:Value}{Yw:Value}{Yx:Value}{Yy:Value}{Yz:Value}{YA:Value}{YB:Value}{YC:Value}{YD:Value}{YE:Value}{YF:Value}{YG:Value}{YH:Value}{YI:Value}{YJ:Value}{YK:Value}{YL:Value}{YM:Value}{YN:Value}{YO:Value}{YP:Value}{YQ:Value}{YR:Value}{YS:Value}{YT:Value}{YU:Value}{YV:Value}{YW:Value}{YX:Value}{YY:Value}{YZ:Value}{Y0:Value}{Y1:Value}{Y2:Value}{Y3:Value}{Y4:Value}{Y5:Value}{Y6:Value}{Y7:Value}{Y8:Value}{Y9:Value}{Za:Value}{Zb:Value}{Zc:Value}{Zd:Value}{Ze:Value}{Zf:Value}{Zg:Value}{Zh:Value}{Zi:Value}{Zj:Value}{Zk:Value}{Zl:Value}{Zm:Value}{n1:Int} (hl:H[l]?=some (.loop (gJ fn #[Ya,Yb,Yc,Yd,Ye,Yf,Yg,Yh,.pointer (some q_8),Yj,Yk,Yl,Ym,Yn,Yo,Yp,Yq,Yr,Ys,Yt,Yu,Yv,Yw,Yx,Yy,Yz,YA,YB,YC,YD,YE,YF,YG,YH,YI,YJ,YK,YL,YM,YN,YO,YP,YQ,YR,YS,YT,YU,YV,YW,YX,YY,YZ,Y0,Y1,Y2,Y3,Y4,Y5,Y6,Y7,Y8,Y9,Za,Zb,Zc,Zd,Ze,Zf,Zg,Zh,Zi,Zj,Zk,Zl,Zm] (gC PP 106 0).1 (gC PP 106 0).2.1 (gC PP 106 0).2.2 D))) (h:cF l q_8 n1 Q H):eV PP l #[.int .i64 n1] Q H :=
 pR good hl (by kernel_rfl) (by kernel_rfl) (Ls:=fun _=>none) (Ls':=fun _=>none) (by kernel_rfl) h
abbrev pd:Nat:=164
def BS (n1:Int) (Q:QT) (H:ae):Prop :=
 ac PP 32 #[iV n1] (fun v2 H1=>∃ n3,v2=iV n3∧Q (.bool (n3 == 0)) H1) H
theorem vy {n1:Int} (h:BS n1 Q H):ac PP 164 #[.int .i64 n1] Q H :=
 okF Tryz.func164 rfl h
abbrev zv:Nat:=182
def BV (p1:Option Addr) (n2:Int) (n3:Int) (Q:QT) (H:ae):Prop :=
 ac PP 48 #[pV p1] (fun v4 H1=>∃ b5,v4=.bool b5∧cond b5 (Q (iV 2) H1) (∃ q6,p1=some q6∧∃ p7,aa H1 q6=some (pV p7)∧∃ q8,p1=some q8∧∃ n9,aa H1 (q8.add 1)=some (iV n9)∧cS 168 #[pV p7,iV n9,iV n2,iV n3] (fun v10 H2=>∃ n11,v10=iV n11∧True∧Q (iV n11) H2) H1)) H
theorem wL {p1:Option Addr}{n2:Int}{n3:Int} (h:BV p1 n2 n3 Q H):ac PP 182 #[.pointer p1,.int .i64 n2,.int .i64 n3] Q H :=
 okF Tryz.func182 rfl h
abbrev kF:Nat:=229
def C8 (n1:Int) (q_0:Addr) (q_1:Addr) (Q:QT) (H:ae):Prop :=
 ∃ r2:Option Nat,aa H q_0=some (.map r2)∧aI PP (Instr.lookup 234 (.map r2) (iV n1) false) (fun v3 H1=>∃ n4,v3=iV n4∧cond (n4 == 0) (∃ r5:Option Nat,aa H1 q_0=some (.map r5)∧aI PP (Instr.mapUpdate 234 (.map r5) (iV n1) (iV 1)) (fun _ H2=>∃ a6 l6 c6,aa H2 q_1=some (lV a6 l6 c6)∧aI PP (Builtin.append_ #[47,47] 47 #[lV a6 l6 c6,lV (some (A0 H2.size)) 1 1]) (fun v7 H3=>∃ a8 l8 c8,v7=lV a8 l8 c8∧Wr H3 q_1∧Q (.tuple #[]) (aB H3 q_1 (lV a8 l8 c8))) (H2.push (.cells #[iV n1] 3))) H1) (Q (.tuple #[]) H1)) H
theorem uC {n1:Int}{q_0:Addr}{q_1:Addr} (h:C8 n1 q_0 q_1 Q H):ac PP 229 #[.int .i64 n1,.pointer (some q_0),.pointer (some q_1)] Q H :=
 okF Tryz.func229 rfl h
abbrev AH:Nat:=230
def Bl (p1:Option Addr) (n2:Int) (Q:QT) (H:ae):Prop :=
 ac PP 109 #[iV n2] (fun v3 H1=>∃ n4 n5,v3=.tuple #[iV n4,iV n5]∧cond (n5 != 0) (Q (.tuple #[iV 0,.bool false]) H1) (cS 73 #[pV p1,iV n4] (fun v6 H2=>∃ n7 n8,v6=.tuple #[iV n7,iV n8]∧Q (.tuple #[iV n4,.bool (n8 == 0)]) H2) H1)) H
theorem uH {p1:Option Addr}{n2:Int} (h:Bl p1 n2 Q H):ac PP 230 #[.pointer p1,.int .i64 n2] Q H :=
 okF Tryz.func230 rfl h
abbrev yN:Nat:=231
def Cb (p1:Option Addr) (n2:Int) (Q:QT) (H:ae):Prop :=
 Q (.func (.func 319) #[] #[pV (some (A0 H.size)),pV (some (⟨(H.push (.cells #[pV p1] 85)).size,0,none⟩:Addr))]) ((H.push (.cells #[pV p1] 85)).push (.cells #[iV n2] 3))
theorem vQ {p1:Option Addr}{n2:Int} (h:Cb p1 n2 Q H):ac PP 231 #[.pointer p1,.int .i64 n2] Q H :=
 okF Tryz.func231 rfl h
abbrev zO:Nat:=291
def Ce (p1:Option Addr) (n2:Int) (n3:Int) (n4:Int) (Q:QT) (H:ae):Prop :=
 ∃ p5,aa (H.push (.cells #[pV p1] 53)) (A0 H.size)=some (pV p5)∧cS 48 #[pV p5] (fun v6 H1=>∃ b7,v6=.bool b7∧cond b7 (Q (.tuple #[iV 0,iV 2]) H1) (∃ p8,aa H1 (A0 H.size)=some (pV p8)∧∃ q9,p8=some q9∧∃ p10,aa H1 q9=some (pV p10)∧cS 351 #[.func (.func 91) #[pV p10] #[],iV n2,iV n3,iV n4,.func (.func 352) #[] #[pV (some (A0 H.size))]] (fun v11 H2=>∃ n12 n13,v11=.tuple #[iV n12,iV n13]∧cond (n13 != 0) (Q (.tuple #[iV 0,iV n13]) H2) (cS 108 #[iV n12] (fun v14 H3=>∃ n15 n16,v14=.tuple #[iV n15,iV n16]∧Q (.tuple #[iV n15,iV n16]) H3) H2)) H1)) (H.push (.cells #[pV p1] 53))
theorem xd {p1:Option Addr}{n2:Int}{n3:Int}{n4:Int} (h:Ce p1 n2 n3 n4 Q H):ac PP 291 #[.pointer p1,.int .i64 n2,.int .i64 n3,.int .i64 n4] Q H :=
 okF Tryz.func291 rfl h
abbrev mV:Nat:=319
def Dq (l0:Nat) (q_0:Addr) (q_1:Addr) (Q:QT) (H:ae):Prop :=
 ∃ p1,aa H q_0=some (pV p1)∧∃ n2,aa H q_1=some (iV n2)∧cS 73 #[pV p1,iV n2] (fun v3 H1=>∃ n4 n5,v3=.tuple #[iV n4,iV n5]∧cond (n5 != 0) (Q (.tuple #[]) H1) (∃ J6:IT,(∃ p7,aa H1 q_0=some (pV p7)∧cS 230 #[pV p7,iV n4] (fun v8 H2=>∃ n9 b10,v8=.tuple #[iV n9,.bool b10]∧cond b10 (eV PP l0 #[iV n9] (fun v11 H3=>∃ b12,v11=.bool b12∧cond (!b12) (Q (.tuple #[]) H3) (J6 [] H3)) H2) (J6 [] H2)) H1)∧∀ w13 H4,J6 w13 H4->∀ _g:Nat->Value,w13=[]∧∃ p14,aa H4 q_0=some (pV p14)∧∃ n15,aa H4 q_1=some (iV n15)∧cS 74 #[pV p14,iV n15] (fun v16 H5=>∃ n17 n18 n19,v16=.tuple #[iV n17,iV n18,iV n19]∧cond (n19 != 0) (Q (.tuple #[]) H5) (cond (n18 != 0) (Q (.tuple #[]) H5) (∃(I20:IT) (μ20:MT),I20 [iV 0] H5∧∀ w21 H6,I20 w21 H6->∀ _g:Nat->Value,∃ n22,w21=[iV n22]∧cond (decide (n22<n17)) (∃ p23,aa H6 q_0=some (pV p23)∧∃ n24,aa H6 q_1=some (iV n24)∧cS 76 #[pV p23,iV n24,iV n22] (fun v25 H7=>∃ n26 n27,v25=.tuple #[iV n26,iV n27]∧cond (n27 != 0) (Q (.tuple #[]) H7) (∃ p28,aa H7 q_0=some (pV p28)∧cS 230 #[pV p28,iV n26] (fun v29 H8=>∃ n30 b31,v29=.tuple #[iV n30,.bool b31]∧cond b31 (eV PP l0 #[iV n30] (fun v32 H9=>∃ b33,v32=.bool b33∧cond (!b33) (Q (.tuple #[]) H9) (I20 [iV (wW (n22+1))] H9∧μ20 [iV (wW (n22+1))] H9<μ20 w21 H6)) H8) (I20 [iV (wW (n22+1))] H8∧μ20 [iV (wW (n22+1))] H8<μ20 w21 H6)) H7)) H6) (Q (.tuple #[]) H6)))) H4)) H
theorem uV {l0:Nat}{q_0:Addr}{q_1:Addr} (h:Dq l0 q_0 q_1 Q H):ac PP 319 #[.func (.yield l0) #[] #[],.pointer (some q_0),.pointer (some q_1)] Q H :=
 aT good Tryz.func319 rfl (Ls:=fun | 1004=>some [] | 7=>some [(50,3)] | _=>none) (by kernel_rfl) h
def Bz (f0:Nat) (g0:Array Value) (h0:Array Value) (n1:Int) (n2:Int) (n3:Int) (f4:Nat) (g4:Array Value) (h4:Array Value) (Q:QT) (H:ae):Prop :=
 ac PP f0 ((g0++#[iV n1,iV n2,iV n3])++h0) (fun v4 H1=>∃ n5 n6,v4=.tuple #[iV n5,iV n6]∧cond (n6 == 23) (ac PP f4 ((g4++#[])++h4) (fun v7 H2=>∃ b8,v7=.bool b8∧cond b8 (ac PP f0 ((g0++#[iV n1,iV n2,iV n3])++h0) (fun v9 H3=>∃ n10 n11,v9=.tuple #[iV n10,iV n11]∧Q (.tuple #[iV n10,iV n11]) H3) H2) (Q (.tuple #[iV n5,iV n6]) H2)) H1) (Q (.tuple #[iV n5,iV n6]) H1)) H
theorem u9 {f0:Nat}{g0:Array Value}{h0:Array Value}{n1:Int}{n2:Int}{n3:Int}{f4:Nat}{g4:Array Value}{h4:Array Value} (h:Bz f0 g0 h0 n1 n2 n3 f4 g4 h4 Q H):ac PP 351 #[.func (.func f0) g0 h0,.int .i64 n1,.int .i64 n2,.int .i64 n3,.func (.func f4) g4 h4] Q H :=
 okF Tryz.func351 rfl h
abbrev y8:Nat:=352
def BF (q_0:Addr) (Q:QT) (H:ae):Prop :=
 ∃ p1,aa H q_0=some (pV p1)∧cS 30 #[pV p1] (fun v2 H1=>∃ n3 n4 n5,v2=.tuple #[iV n3,iV n4,iV n5]∧Q (.bool (n5 == 0)) H1) H
theorem wj {q_0:Addr} (h:BF q_0 Q H):ac PP 352 #[.pointer (some q_0)] Q H :=
 okF Tryz.func352 rfl h
end Go.Proofs.YtgcoppcogllpbaaGreatDoor
namespace Kw
open Go Go.Proofs Go.Shelf Go.Sort Go.RowKit
variable {P:Program}
theorem kA {ρ:Ren} (L:Lays.n189 P ρ) (hfn:∃ fn,P.funcs[ρ.f 189]?=some fn∧fn.body.isSome=true){b l c:Nat}{H:ae}{zs:List Int}{Q:Value->ae->Prop} (ho:bN 1 H (some ⟨b,0,none⟩) l c (aj zs) [b]) (hsz:l<4611686018427387904)
  (h:∀ H',bN 1 H' (some ⟨b,0,none⟩) l c (aj (zs.mergeSort fun x y=>decide (x<=y))) [b]->Fr [b] H H'->Q (.tuple #[]) H'):ac P (ρ.f 189) #[.slice (some ⟨b,0,none⟩) l c] Q H:=by
 refine ⟨hfn,?_⟩
 intro w hw
 subst hw
 rcases ho.2.2 with ⟨h0,_,_⟩ | ⟨b',cs,hb1,_,⟨t,hbk⟩,hcs,htk⟩
 ·cases h0
 cases hb1
 have hl:l=zs.length:=by have:=ho.1;simpa [aj] using this.symm
 subst hl
 have hle:zs.length<=c:=ho.2.1
 have hlt:b<w.heap.size:=(Array.getElem?_eq_some_iff.1 hbk).1
 have hH:Go.Sort.Holds (Value.int .i64) w b 0 zs.toArray:=by
  intro j hj
  have hj:j<zs.length:=by simpa using hj
  refine ⟨?_,?_⟩
  ·rw [Nat.zero_add]
   have h1:(cs.toList.take (zs.length*1))[j]?=(aj zs)[j]?:=by rw [htk]
   rw [List.getElem?_take_of_lt (by omega)] at h1
   unfold World.cell?
   simp only [hbk]
   show cs[j]?=_
   rw [←Array.getElem?_toList,h1]
   simp [aj,hj]
  ·unfold World.frozen?
   simp only [hbk]
   simp
 refine (Any.slices_Sort_int L b 0 c zs w hH hlt hsz).mono ?_
 rintro e w' ⟨rfl,n,os,rfl⟩
 have hp:(putRow (Value.int .i64) (Sort.ahead w n) b 0 (zs.mergeSort fun x y=>decide (x<=y)).toArray).heap[b]?=some (.cells (putCells (Value.int .i64) 0 (zs.mergeSort fun x y=>decide (x<=y)).toArray cs) t (0,0)):=by
  simp only [putRow,mapBlock,Array.getElem?_modify,if_true]
  show Option.map _ w.heap[b]?=_
  rw [hbk]
  rfl
 have hsz':(putRow (Value.int .i64) (Sort.ahead w n) b 0 (zs.mergeSort fun x y=>decide (x<=y)).toArray).heap.size=w.heap.size:=by simp [putRow,mapBlock,Sort.ahead]
 have hother:∀ b',b'≠b->(putRow (Value.int .i64) (Sort.ahead w n) b 0 (zs.mergeSort fun x y=>decide (x<=y)).toArray).heap[b']?=w.heap[b']?:=fun b' hn=>by
  simp only [putRow,mapBlock,Array.getElem?_modify]
  rw [if_neg (Ne.symm hn)]
  rfl
 have hfr:Fr [b] w.heap (grow (putRow (Value.int .i64) (Sort.ahead w n) b 0 (zs.mergeSort fun x y=>decide (x<=y)).toArray) os).heap:=by
  refine ⟨?_,fun b' hb' hn=>?_⟩
  ·simp only [Sort.grow,Array.size_append];rw [hsz'];exact Nat.le_add_right _ _
  ·simp only [Sort.grow]
   rw [Array.getElem?_append_left (by rw [hsz'];exact hb')]
   exact hother b' (by simpa using hn)
 have hblk:(grow (putRow (Value.int .i64) (Sort.ahead w n) b 0 (zs.mergeSort fun x y=>decide (x<=y)).toArray) os).heap[b]?=some (.cells (putCells (Value.int .i64) 0 (zs.mergeSort fun x y=>decide (x<=y)).toArray cs) t (0,0)):=by
  simp only [Sort.grow]
  rw [Array.getElem?_append_left (by rw [hsz'];exact hlt)]
  exact hp
 refine ⟨_,rfl,h _ ⟨by simp [aj,List.length_mergeSort],hle,.inr ⟨b,_,rfl,rfl,⟨t,hblk⟩,by simp [putCells,hcs],?_⟩⟩ hfr,rfl,rfl,rfl,?_,hfr.1,fun b' ds hb'=>?_⟩
 ·apply List.ext_getElem
  ·simp [aj,putCells,List.length_mergeSort];omega
  ·intro j h1 h2
   have hj:j<zs.length:=by simpa [aj,List.length_mergeSort] using h2
   have hj2:j<(zs.mergeSort fun x y=>decide (x<=y)).length:=by rw [List.length_mergeSort];exact hj
   simp only [List.getElem_take,aj,List.getElem_map,Array.getElem_toList,putCells,Array.getElem_mapIdx,Nat.zero_le,true_and,Nat.zero_add,List.size_toArray,List.length_mergeSort,hj,if_true,Nat.sub_zero]
   congr 1
   rw [List.getElem!_toArray,List.getElem!_eq_getElem?_getD,List.getElem?_eq_getElem hj2]
   rfl
 ·show w.drawn<=w.drawn+n
  omega
 ·have hlt':b'<w.heap.size:=(Array.getElem?_eq_some_iff.1 hb').1
  have hne:b'≠b:=fun e=>by subst e;rw [hbk] at hb';cases hb'
  exact (hfr.2 b' hlt' (by simpa using hne)).trans hb'
end Kw
namespace Kw
open Go
def cp (P:Program) (t:TypeId):Option (TypeDesc × Option Value) :=
 match P.underlying t with
 | some (.map k e)=>match P.underlying k,P.info? e with
  | some d,some i=>some (d,i.zero)
  | _,_=>none
 | _=>none
inductive Key
 | str (s:ByteArray)
 | int (n:Int)
deriving DecidableEq
def Key.v:Key->Value
 | .str s=>.string s
 | .int n=>.int .i64 n
def Key.of:TypeDesc->Key->Prop
 | .string,.str _=>True
 | .int _,.int _=>True
 | _,_=>False
def wt (ents:Array MapEntry) (clock:Nat):Prop:=(ents.toList.map (·.born)).Nodup∧∀ e∈ents.toList,e.born<clock
def bT (H:ae) (r:Nat) (es:List (Key × Value)):Prop:=∃(ents:Array MapEntry) (clock:Nat),H[r]?=some (.map ents clock)∧ents.toList.map (fun e=>(e.key,e.val))=es.map (fun p=>(p.1.v,p.2))∧wt ents clock
theorem bT.new (H:ae):bT (H.push (.map #[] 0)) H.size []:=⟨#[],0,by simp,rfl,by simp [wt]⟩
theorem bT.lt {H:ae}{r:Nat}{es:List (Key × Value)} (h:bT H r es):r<H.size:=by
 obtain ⟨ents,clock,hr,_⟩:=h;exact (Array.getElem?_eq_some_iff.1 hr).1
theorem bT.of_eq {H H':ae}{r:Nat}{es:List (Key × Value)} (h:bT H r es) (he:H'[r]?=H[r]?):bT H' r es:=by
 obtain ⟨ents,clock,hr,h2⟩:=h;exact ⟨ents,clock,he.trans hr,h2⟩
theorem bT.fr {H H':ae}{G:az}{r:Nat}{es:List (Key × Value)} (h:bT H r es) (hf:Fr G H H') (hn:r∉G):bT H' r es:=h.of_eq (hf.2 r h.lt hn)
def bS:List (Key × Value)->Key->Option Value
 | [],_=>none
 | p :: l,k=>if k=p.1 then some p.2 else bS l k
theorem lD (a b:ByteArray):(a == b)=true↔a=b:=by
 obtain ⟨x⟩:=a
 obtain ⟨y⟩:=b
 show (x == y)=true↔_
 simp
theorem nC {d:TypeDesc}{k k':Key} (h:k.of d) (h':k'.of d):Instr.sameNow d k.v k'.v=some (decide (k=k')):=by
 cases d <;> cases k <;> cases k' <;> simp_all [Key.of,Key.v,Instr.sameNow] <;> (rw [Bool.eq_iff_iff];simp [lD])
def dE:List (Key × Value)->Key->Option Nat
 | [],_=>none
 | p :: l,k=>if k=p.1 then some 0 else (dE l k).map (·+1)
theorem cU {es:List (Key × Value)}{k:Key}:dE es k=none↔bS es k=none:=by
 induction es with
 | nil=>simp [dE,bS]
 | cons p l ih =>
  unfold dE bS
  by_cases h:k=p.1
  ·simp [h]
  ·rw [if_neg h,if_neg h];simpa using ih
theorem jv {d:TypeDesc}{k:Key} (hk:k.of d):∀ (ents:List MapEntry) (es:List (Key × Value)) (i:Nat),ents.map (fun e=>(e.key,e.val))=es.map (fun p=>(p.1.v,p.2))->(∀ p∈es,p.1.of d) ->
  Instr.findNow d k.v ents i=some (match dE es k,bS es k with
   | some j,some v=>some (i+j,v)
   | _,_=>none)
 | [],[],i,_,_=>rfl
 | [],_ :: _,_,h,_=>by simp at h
 | _ :: _,[],_,h,_=>by simp at h
 | e :: ents,p :: es,i,h,ho=>by
  simp only [List.map_cons,List.cons.injEq,Prod.mk.injEq] at h
  obtain ⟨⟨h1,h2⟩,h3⟩:=h
  unfold Instr.findNow
  rw [h1,nC hk (ho p (by simp))]
  unfold dE bS
  by_cases hkp:k=p.1
  ·simp [hkp,h2]
  ·have ih:=jv hk ents es (i+1) h3 fun q hq=>ho q (by simp [hq])
   simp only [hkp,decide_false,if_false]
   rw [ih]
   cases h4:dE es k with
   | none=>simp
   | some j =>
    cases h5:bS es k with
    | none=>exact absurd (cU.2 h5) (by rw [h4];simp)
    | some v=>simp;omega
section
variable {P:Program}{H:ae}
theorem dW {t:TypeId}{d:TypeDesc}{k:Key}{e:Bool}{Q:Unit->ae->Prop} (hu:P.underlying t=some d) (hk:k.of d) (h:Q () H):aI P (Instr.checkKey e 10000 t k.v) Q H:=by
 unfold Instr.checkKey
 refine ag (aG hu ?_)
 cases d <;> cases k <;> simp_all [Key.of,Key.v] <;> exact h
theorem eH {t:TypeId}{d:TypeDesc}{k:Key}{ents:Array MapEntry}{es:List (Key × Value)}{Q:Option (Nat × Value)->ae->Prop} (hu:P.underlying t=some d) (hk:k.of d) (he:ents.toList.map (fun e=>(e.key,e.val))=es.map fun p=>(p.1.v,p.2)) (ho:∀ p∈es,p.1.of d)
  (h:Q (match dE es k,bS es k with
   | some j,some v=>some (j,v)
   | _,_=>none) H):aI P (Instr.findKey t k.v ents.toList) Q H:=by
 unfold Instr.findKey
 refine ag (aG hu ?_)
 rw [jv hk _ _ 0 he ho]
 cases h4:dE es k with
 | none=>rw [h4] at h;exact h
 | some j =>
  cases h5:bS es k with
  | none=>rw [h4,h5] at h;exact h
  | some v=>rw [h4,h5] at h;show Q (some (0+j,v)) H;rw [Nat.zero_add];exact h
theorem cI {T:TypeId}{d:TypeDesc}{z:Option Value} (h:cp P T=some (d,z)):∃ k e i,P.underlying T=some (.map k e)∧P.underlying k=some d∧P.info? e=some i∧i.zero=z:=by
 unfold cp at h
 split at h
 ·rename_i k e hu
  split at h
  ·rename_i d' i h1 h2
   cases h
   exact ⟨k,e,i,hu,h1,h2,rfl⟩
  ·cases h
 ·cases h
theorem ij {T:TypeId}{d:TypeDesc}{z:Value}{r:Nat}{k:Key}{es:List (Key × Value)}{ok:Bool}{Q:Value->ae->Prop} (hi:cp P T=some (d,some z)) (hk:k.of d) (ho:∀ p∈es,p.1.of d) (hm:bT H r es)
  (h:Q (if ok then .tuple #[(bS es k).getD z,.bool (bS es k).isSome] else (bS es k).getD z) H):aI P (Instr.lookup T (.map (some r)) k.v ok) Q H:=by
 obtain ⟨kt,et,i,hu,hkt,hie,hz⟩:=cI hi
 obtain ⟨ents,clock,hr,he,hbn⟩:=hm
 unfold Instr.lookup
 refine ag (aG hu ?_)
 refine ag ?_
 refine (⟨_,hr,rfl,?_⟩:∃ o,H[r]?=some o∧bM o=false∧_)
 refine ag (cg ?_)
 refine ag (dW hkt hk ?_)
 refine ag (eH hkt hk he ho ?_)
 cases h5:bS es k with
 | none =>
  rw [cU.2 h5]
  rw [h5] at h
  exact ag (cl hie hz h)
 | some v =>
  cases h4:dE es k with
  | none=>rw [cU.1 h4] at h5;cases h5
  | some j=>rw [h5] at h;exact h
theorem eP {α β:Type} (f:α->β):∀ (l:List α) (j:Nat),(l.eraseIdx j).map f=(l.map f).eraseIdx j
 | [],_=>rfl
 | _ :: _,0=>rfl
 | x :: l,j+1=>by simp [eP f l j]
def i6:List (Key × Value)->Key->Value->List (Key × Value)
 | [],k,v=>[(k,v)]
 | p :: l,k,v=>if k=p.1 then (k,v) :: l else p :: i6 l k v
def kd:List (Key × Value)->Key->List (Key × Value)
 | [],_=>[]
 | p :: l,k=>if k=p.1 then l else p :: kd l k
theorem rI (es:List (Key × Value)) (k k':Key) (v:Value):bS (i6 es k v) k'=if k'=k then some v else bS es k':=by
 induction es with
 | nil=>simp [i6,bS]
 | cons p l ih =>
  unfold i6
  by_cases h:k=p.1
  ·rw [if_pos h]
   unfold bS
   by_cases h2:k'=k
   ·simp [h2]
   ·simp only [h2,if_false]
    rw [if_neg (fun e=>h2 (e.trans h.symm))]
  ·rw [if_neg h]
   unfold bS
   by_cases h2:k'=p.1
   ·rw [if_pos h2,if_pos h2,if_neg (fun e=>h (e.symm.trans h2))]
   ·rw [if_neg h2,if_neg h2];exact ih
theorem gA {es:List (Key × Value)}{k:Key}{v:Value} (h:dE es k=none):i6 es k v=es++[(k,v)]:=by
 induction es with
 | nil=>rfl
 | cons p l ih =>
  unfold dE at h
  unfold i6
  by_cases hk:k=p.1
  ·rw [if_pos hk] at h;cases h
  ·rw [if_neg hk] at h ⊢
   rw [ih (by simpa using h)];rfl
theorem lM {es:List (Key × Value)}{k:Key}{v:Value}{j:Nat} (h:dE es k=some j):i6 es k v=es.set j (k,v)∧j<es.length:=by
 induction es generalizing j with
 | nil=>cases h
 | cons p l ih =>
  unfold dE at h
  unfold i6
  by_cases hk:k=p.1
  ·rw [if_pos hk] at h ⊢
   cases h
   simp
  ·rw [if_neg hk] at h ⊢
   cases h4:dE l k with
   | none=>rw [h4] at h;cases h
   | some i =>
    rw [h4] at h
    cases h
    have:=ih h4
    exact ⟨by rw [this.1];rfl,by simp;exact this.2⟩
theorem rL {es:List (Key × Value)}{k:Key}{j:Nat} (h:dE es k=some j):kd es k=es.eraseIdx j:=by
 induction es generalizing j with
 | nil=>cases h
 | cons p l ih =>
  unfold dE at h
  unfold kd
  by_cases hk:k=p.1
  ·rw [if_pos hk] at h ⊢
   cases h
   rfl
  ·rw [if_neg hk] at h ⊢
   cases h4:dE l k with
   | none=>rw [h4] at h;cases h
   | some i =>
    rw [h4] at h
    cases h
    rw [ih h4];rfl
theorem sc {es:List (Key × Value)}{k:Key} (h:dE es k=none):kd es k=es:=by
 induction es with
 | nil=>rfl
 | cons p l ih =>
  unfold dE at h
  unfold kd
  by_cases hk:k=p.1
  ·rw [if_pos hk] at h;cases h
  ·rw [if_neg hk] at h ⊢
   rw [ih (by simpa using h)]
theorem ji {k:Key}{Q:Value->ae->Prop} (h:Q k.v H):aI P (Instr.keyThatStays k.v k.v) Q H:=by
 unfold Instr.keyThatStays
 have:Instr.sameBits 10000 k.v k.v=true:=by
  cases k with
  | str s=>show (s == s)=true;rw [lD]
  | int n=>simp [Key.v,Instr.sameBits]
 rw [if_pos this]
 exact h
theorem xl {es:List (Key × Value)}{k:Key}{j:Nat} (h:dE es k=some j):∃ v,es[j]?=some (k,v):=by
 induction es generalizing j with
 | nil=>cases h
 | cons p l ih =>
  unfold dE at h
  by_cases hk:k=p.1
  ·rw [if_pos hk] at h
   cases h
   exact ⟨p.2,by simp [hk]⟩
  ·rw [if_neg hk] at h
   cases h4:dE l k with
   | none=>rw [h4] at h;cases h
   | some i =>
    rw [h4] at h
    cases h
    simpa using ih h4
theorem eO {T:TypeId}{d:TypeDesc}{z:Option Value}{r:Nat}{k:Key}{v:Value}{es:List (Key × Value)}{Q:Unit->ae->Prop} (hi:cp P T=some (d,z)) (hk:k.of d) (ho:∀ p∈es,p.1.of d) (hm:bT H r es)
  (h:∀ H',bT H' r (i6 es k v)->Fr [r] H H'->Q () H'):aI P (Instr.mapUpdate T (.map (some r)) k.v v) Q H:=by
 obtain ⟨kt,et,i,hu,hkt,hie,hz⟩:=cI hi
 obtain ⟨ents,clock,hr,he,hbn⟩:=hm
 have hrl:r<H.size:=(Array.getElem?_eq_some_iff.1 hr).1
 have hset:∀ o:Obj,Fr [r] H (H.setIfInBounds r o)∧(H.setIfInBounds r o)[r]?=some o:=fun o =>
  ⟨⟨by simp,fun b _ hn=>by rw [Array.getElem?_setIfInBounds,if_neg (by simp only [List.mem_singleton] at hn;exact fun e=>hn e.symm)]⟩,by simp [hrl]⟩
 unfold Instr.mapUpdate
 refine ag (aG hu ?_)
 refine ag ?_
 refine (⟨_,hr,rfl,?_⟩:∃ o,H[r]?=some o∧bM o=false∧_)
 refine ag (dW hkt hk ?_)
 refine ag (eH hkt hk he ho ?_)
 cases h4:dE es k with
 | none =>
  refine (⟨⟨_,hr,rfl⟩,?_⟩:(∃ o',H[r]?=some o'∧bM o'=false)∧_)
  refine h _ ⟨_,_,(hset _).2,?_,?_⟩ (hset _).1
  ·rw [gA h4]
   simp [he]
  ·refine ⟨?_,fun e hmem=>?_⟩
   ·rw [Array.toList_push,List.map_append,List.nodup_append]
    refine ⟨hbn.1,by simp,fun a ha b hb hab=>?_⟩
    obtain ⟨e,hmem,rfl⟩:=List.mem_map.1 ha
    have:=hbn.2 e hmem
    simp only [List.map_cons,List.map_nil,List.mem_singleton] at hb
    omega
   ·rw [Array.toList_push] at hmem
    rcases List.mem_append.1 hmem with hmem | hmem
    ·have:=hbn.2 e hmem;omega
    ·simp only [List.mem_singleton] at hmem;subst hmem;exact Nat.lt_succ_self _
 | some j =>
  cases h5:bS es k with
  | none=>rw [cU.2 h5] at h4;cases h4
  | some w =>
   have hset4:=lM (v:=v) h4
   have hlen:ents.size=es.length:=by have:=congrArg List.length he;simpa using this
   have hjl:j<ents.size:=by omega
   obtain ⟨u,hu2⟩:=xl h4
   have hkey:ents[j].key=k.v:=by
    have h6:(ents.toList.map fun e=>(e.key,e.val))[j]?=(es.map fun p=>(p.1.v,p.2))[j]?:=by rw [he]
    rw [List.getElem?_map,List.getElem?_map,hu2] at h6
    simp [hjl] at h6
    exact h6.1
   refine ag ?_
   have hg:((ents[j]?).map (·.key)).getD k.v=k.v:=by simp [hjl,hkey]
   rw [hg]
   refine ji ?_
   refine (⟨⟨_,hr,rfl⟩,?_⟩:(∃ o',H[r]?=some o'∧bM o'=false)∧_)
   have hbm:wt (ents.modify j fun e=>{ e with key:=k.v,val:=v }) clock:=by
    have hbl:(ents.modify j fun e=>{ e with key:=k.v,val:=v }).toList.map (·.born)=ents.toList.map (·.born):=by
     apply List.ext_getElem?
     intro q
     rw [List.getElem?_map,List.getElem?_map,Array.getElem?_toList,Array.getElem?_toList,Array.getElem?_modify]
     split
     ·rename_i e;subst e;cases ents[j]? <;> rfl
     ·rfl
    refine ⟨by rw [hbl];exact hbn.1,fun e hmem=>?_⟩
    have:e.born∈ents.toList.map (·.born):=by rw [←hbl];exact List.mem_map.2 ⟨e,hmem,rfl⟩
    obtain ⟨e',h1,h2⟩:=List.mem_map.1 this
    rw [←h2];exact hbn.2 e' h1
   refine h _ ⟨_,clock,(hset _).2,?_,hbm⟩ (hset _).1
   rw [hset4.1]
   apply List.ext_getElem?
   intro q
   rw [List.getElem?_map,List.getElem?_map,Array.getElem?_toList,Array.getElem?_modify,List.getElem?_set]
   have h6:(ents.toList.map fun e=>(e.key,e.val))[q]?=(es.map fun p=>(p.1.v,p.2))[q]?:=by rw [he]
   rw [List.getElem?_map,List.getElem?_map,Array.getElem?_toList] at h6
   by_cases hjq:j=q
   ·subst hjq
    simp [hjl,hset4.2]
   ·rw [if_neg hjq,if_neg hjq];exact h6
theorem pZ {T:TypeId}{d:TypeDesc}{z:Option Value}{a1 T0:TypeId}{r:Nat}{k:Key}{es:List (Key × Value)}{Q:Value->ae->Prop} (hi:cp P T=some (d,z)) (hk:k.of d) (ho:∀ p∈es,p.1.of d) (hm:bT H r es)
  (h:∀ H',bT H' r (kd es k)->Fr [r] H H'->Q (.tuple #[]) H'):aI P (Builtin.delete_ #[T,a1] T0 #[.map (some r),k.v]) Q H:=by
 obtain ⟨kt,et,i,hu,hkt,hie,hz⟩:=cI hi
 obtain ⟨ents,clock,hr,he,hbn⟩:=hm
 have hrl:r<H.size:=(Array.getElem?_eq_some_iff.1 hr).1
 have hset:∀ o:Obj,Fr [r] H (H.setIfInBounds r o)∧(H.setIfInBounds r o)[r]?=some o:=fun o =>
  ⟨⟨by simp,fun b _ hn=>by rw [Array.getElem?_setIfInBounds,if_neg (by simp only [List.mem_singleton] at hn;exact fun e=>hn e.symm)]⟩,by simp [hrl]⟩
 unfold Builtin.delete_
 refine ag (aG hu ?_)
 refine ag ?_
 refine (⟨_,hr,rfl,?_⟩:∃ o,H[r]?=some o∧bM o=false∧_)
 refine ag (dW hkt hk ?_)
 refine ag (eH hkt hk he ho ?_)
 cases h4:dE es k with
 | none =>
  refine ag ?_
  refine (⟨⟨_,hr,rfl⟩,?_⟩:(∃ o',H[r]?=some o'∧bM o'=false)∧_)
  refine h _ ⟨ents,clock,(hset _).2,?_,hbn⟩ (hset _).1
  rw [sc h4];exact he
 | some j =>
  cases h5:bS es k with
  | none=>rw [cU.2 h5] at h4;cases h4
  | some v =>
   refine ag ?_
   refine (⟨⟨_,hr,rfl⟩,?_⟩:(∃ o',H[r]?=some o'∧bM o'=false)∧_)
   have hsub:(ents.eraseIdxIfInBounds j).toList.Sublist ents.toList:=by
    rw [Array.eraseIdxIfInBounds]
    split
    ·rw [Array.toList_eraseIdx];exact List.eraseIdx_sublist _ _
    ·exact List.Sublist.refl _
   refine h _ ⟨_,clock,(hset _).2,?_,hbn.1.sublist (hsub.map _),fun e hmem=>hbn.2 e (hsub.subset hmem)⟩ (hset _).1
   rw [rL h4]
   have hlen:ents.size=es.length:=by have:=congrArg List.length he;simpa using this
   have hjl:=(lM (v:=v) h4).2
   rw [Array.eraseIdxIfInBounds,dif_pos (by omega),Array.toList_eraseIdx,eP,eP,he]
theorem o8 {T T0:TypeId}{d:TypeDesc}{z:Option Value}{r:Nat}{es:List (Key × Value)}{Q:Value->ae->Prop} (hi:cp P T=some (d,z)) (hm:bT H r es) (h:Q (.int .i64 (es.length:Int)) H):aI P (Builtin.len_ #[T] T0 #[.map (some r)]) Q H:=by
 obtain ⟨kt,et,i,hu,hkt,hie,hz⟩:=cI hi
 obtain ⟨ents,clock,hr,he,hbn⟩:=hm
 unfold Builtin.len_
 refine ag (aG hu ?_)
 refine ag ?_
 refine (⟨_,hr,rfl,?_⟩:∃ o,H[r]?=some o∧bM o=false∧_)
 have hlen:ents.size=es.length:=by have:=congrArg List.length he;simpa using this
 show Q (goInt ents.size) H
 rw [hlen]
 exact h
def dJ (H:ae) (b r:Nat) (es done:List (Key × Value)):Prop:=∃(ents:Array MapEntry) (clock:Nat) (seen:Array Nat) (ds rest:List MapEntry),H[r]?=some (.map ents clock)∧ents.toList.map (fun e=>(e.key,e.val))=es.map (fun p=>(p.1.v,p.2))∧wt ents clock ∧
 H[b]?=some (.mapIter (some r) clock seen clock)∧seen.toList=ds.map (·.born)∧(ds++rest).Perm ents.toList∧ds.map (fun e=>(e.key,e.val))=done.map (fun p=>(p.1.v,p.2))
theorem Key.v_inj {k k':Key} (h:k.v=k'.v):k=k':=by
 cases k <;> cases k' <;> simp_all [Key.v]
theorem pM {l l':List (Key × Value)} (h:(l.map fun p=>(p.1.v,p.2)).Perm (l'.map fun p=>(p.1.v,p.2))):l.Perm l':=by
 induction l generalizing l' with
 | nil=>have:=h.length_eq;simp at this;have:l'=[]:=List.eq_nil_of_length_eq_zero this.symm;rw [this]
 | cons p l ih =>
  have hmem:(p.1.v,p.2)∈l'.map (fun p=>(p.1.v,p.2)):=h.subset (by simp)
  obtain ⟨q,hq,he⟩:=List.mem_map.1 hmem
  simp only [Prod.mk.injEq] at he
  have hqp:q=p:=Prod.ext (Key.v_inj he.1) he.2
  subst hqp
  obtain ⟨s,t,rfl⟩:=List.append_of_mem hq
  refine (List.Perm.cons q (ih ?_)).trans (List.perm_middle.symm)
  have h2:(q :: l).map (fun p=>(p.1.v,p.2)) |>.Perm ((q :: (s++t)).map fun p=>(p.1.v,p.2)):=h.trans (List.Perm.map _ List.perm_middle)
  simpa using List.Perm.cons_inv h2
theorem dJ.len {b r:Nat}{es done:List (Key × Value)} (h:dJ H b r es done):done.length<=es.length:=by
 obtain ⟨ents,clock,seen,ds,rest,_,he,_,_,_,hp,hd⟩:=h
 have h1:=hp.length_eq
 have h2:=congrArg List.length he
 have h3:=congrArg List.length hd
 simp only [List.length_map,List.length_append] at h1 h2 h3
 omega
theorem dJ.fr {H':ae}{G:az}{b r:Nat}{es done:List (Key × Value)} (h:dJ H b r es done) (hf:Fr G H H') (hb:b∉G) (hr:r∉G):dJ H' b r es done:=by
 obtain ⟨ents,clock,seen,ds,rest,h1,h2,h3,h4,h5⟩:=h
 exact ⟨ents,clock,seen,ds,rest,(hf.2 r (Array.getElem?_eq_some_iff.1 h1).1 hr).trans h1,h2,h3,(hf.2 b (Array.getElem?_eq_some_iff.1 h4).1 hb).trans h4,h5⟩
theorem dJ.map {b r:Nat}{es done:List (Key × Value)} (h:dJ H b r es done):bT H r es:=by
 obtain ⟨ents,clock,seen,ds,rest,h1,h2,h3,_⟩:=h
 exact ⟨ents,clock,h1,h2,h3⟩
theorem ni {T:TypeId}{d:TypeDesc}{z:Option Value}{r:Nat}{es:List (Key × Value)}{Q:Value->ae->Prop} (hi:cp P T=some (d,z)) (hm:bT H r es)
  (h:∀ H',dJ H' H.size r es []->Fr [] H H'->Q (.pointer (some ⟨H.size,0,none⟩)) H'):aI P (Instr.range T (.map (some r))) Q H:=by
 obtain ⟨kt,et,i,hu,hkt,hie,hz⟩:=cI hi
 obtain ⟨ents,clock,hr,he,hbn⟩:=hm
 have hlt:r<H.size:=(Array.getElem?_eq_some_iff.1 hr).1
 unfold Instr.range
 refine ag ?_
 refine ag (aG hu ?_)
 refine ag ?_
 refine (⟨_,hr,rfl,?_⟩:∃ o,H[r]?=some o∧bM o=false∧_)
 show Q (.pointer (some ⟨H.size,0,none⟩)) (H.push (.mapIter (some r) clock #[] clock))
 refine h _ ⟨ents,clock,#[],[],ents.toList,?_,he,hbn,by simp,rfl,by simp,rfl⟩ (Fr.push [] H _)
 rw [Array.getElem?_push,if_neg (by omega)];exact hr
theorem nN {T0:TypeId}{b r:Nat}{es done:List (Key × Value)}{Q:Value->ae->Prop} (hm:dJ H b r es done) (h0:done.Perm es->Q (.tuple #[.bool false]) H)
  (h1:∀ p H',p∈es->dJ H' b r es (done++[p])->Fr [b] H H'->Q (.tuple #[.bool true,p.1.v,p.2]) H'):aI P (Instr.next (.pointer (some ⟨b,0,none⟩)) false T0) Q H:=by
 obtain ⟨ents,clock,seen,ds,rest,hr,he,hbn,hb,hs,hp,hd⟩:=hm
 have hbl:b<H.size:=(Array.getElem?_eq_some_iff.1 hb).1
 have hbr:b≠r:=fun e=>by subst e;rw [hr] at hb;cases hb
 unfold Instr.next
 refine ag ?_
 refine (⟨_,hb,rfl,?_⟩:∃ o,H[b]?=some o∧bM o=false∧_)
 refine ag ?_
 refine (⟨_,hr,rfl,?_⟩:∃ o,H[r]?=some o∧bM o=false∧_)
 refine cg ?_
 have hany:(!seen.isEmpty && !ents.isEmpty && ents.all fun x=>decide (x.born ≥ clock))=false:=by
  by_cases hemp:ents.isEmpty=true
  ·simp [hemp]
  ·have hpos:0<ents.size:=by
    rcases Nat.eq_zero_or_pos ents.size with h | h
    ·exact absurd (by simp [Array.isEmpty,h]) hemp
    ·exact h
   have:ents.all (fun x=>decide (x.born ≥ clock))=false:=by
    rw [Bool.eq_false_iff]
    intro hall
    have h2:=(Array.all_eq_true.1 hall) 0 hpos
    have h3:=hbn.2 ents[0] (by simp)
    have h4:ents[0].born ≥ clock:=by simpa using h2
    omega
   rw [this,Bool.and_false]
 simp only [hany,Bool.false_eq_true,if_false,ge_iff_le]
 obtain ⟨left,hleft⟩:∃ left:Array MapEntry,left=ents.filter fun e=>!seen.contains e.born:=⟨_,rfl⟩
 rw [←hleft]
 have hlm:∀ e,e∈left.toList↔e∈rest:=by
  intro e
  rw [hleft,Array.toList_filter,List.mem_filter]
  have hnd:((ds++rest).map (·.born)).Nodup:=(List.Perm.map _ hp).nodup_iff.2 hbn.1
  rw [List.map_append,List.nodup_append] at hnd
  constructor
  ·rintro ⟨h2,h3⟩
   rcases List.mem_append.1 (hp.symm.subset h2) with h4 | h4
   ·exfalso
    have:e.born∈seen:=by rw [←Array.mem_toList_iff,hs];exact List.mem_map.2 ⟨e,h4,rfl⟩
    simp [this] at h3
   ·exact h4
  ·intro h2
   refine ⟨hp.subset (by simp [h2]),?_⟩
   have:e.born∉seen:=fun hin=>by
    rw [←Array.mem_toList_iff,hs] at hin
    obtain ⟨e',h4,h5⟩:=List.mem_map.1 hin
    exact hnd.2.2 _ (List.mem_map.2 ⟨e',h4,rfl⟩) _ (List.mem_map.2 ⟨e,h2,rfl⟩) h5
   simp [this]
 have hold:left.filter (fun e=>decide (e.born<clock))=left:=by
  rw [Array.filter_eq_self]
  intro e hmem
  have h2:=(hlm e).1 (by simpa using hmem)
  exact decide_eq_true (hbn.2 e (hp.subset (by simp [h2])))
 have hnew:left.filter (fun e=>decide (clock<=e.born))=#[]:=by
  rw [Array.filter_eq_empty_iff]
  intro e hmem
  have h2:=(hlm e).1 (by simpa using hmem)
  have:=hbn.2 e (hp.subset (by simp [h2]))
  simp;omega
 rw [hold,hnew]
 have key:∀ (cands:Array (Option MapEntry)) (i:Nat),(i<cands.size)->(cands=if left.isEmpty then #[none] else left.map some)->aI P (match cands[i]? with
   | some (some e)=>do
    setObj b (.mapIter (some r) clock (seen.push e.born) clock)
    pure (.tuple #[.bool true,e.key,e.val])
   | some none=>pure (.tuple #[.bool false])
   | none => stuck "Next: no such candidate") Q H := by
  intro cands i hi hc
  by_cases hemp:left.isEmpty=true
  ·rw [if_pos hemp] at hc
   subst hc
   simp only [List.size_toArray,List.length_cons,List.length_nil,Nat.zero_add,Nat.lt_one_iff] at hi
   subst hi
   refine h0 ?_
   have hrest:rest=[]:=by
    cases rest with
    | nil=>rfl
    | cons e rest =>
     have:=(hlm e).2 (by simp)
     simp [Array.isEmpty_iff.1 hemp] at this
   subst hrest
   rw [List.append_nil] at hp
   have h2:=List.Perm.map (fun e:MapEntry=>(e.key,e.val)) hp
   rw [hd,he] at h2
   exact pM h2
  ·rw [if_neg hemp] at hc
   subst hc
   have hil:i<left.size:=by simpa using hi
   have hmem:left[i]∈rest:=(hlm _).1 (by simp)
   obtain ⟨s,t,hst⟩:=List.append_of_mem hmem
   have hget:(left.map some)[i]?=some (some left[i]):=by simp [hil]
   rw [hget]
   have hin:left[i]∈ents.toList:=hp.subset (by simp [hmem])
   have hpk:(left[i].key,left[i].val)∈es.map (fun p=>(p.1.v,p.2)):=by rw [←he];exact List.mem_map.2 ⟨_,hin,rfl⟩
   obtain ⟨p,hpm,hpe⟩:=List.mem_map.1 hpk
   simp only [Prod.mk.injEq] at hpe
   refine ag ?_
   refine (⟨⟨_,hb,rfl⟩,?_⟩:(∃ o',H[b]?=some o'∧bM o'=false)∧_)
   show Q (.tuple #[.bool true,left[i].key,left[i].val]) (H.setIfInBounds b (.mapIter (some r) clock (seen.push left[i].born) clock))
   rw [←hpe.1,←hpe.2]
   refine h1 p _ hpm ⟨ents,clock,seen.push left[i].born,ds++[left[i]],s++t,?_,he,hbn,by simp [hbl],?_,?_,?_⟩ ⟨by simp,fun b' _ hn=>?_⟩
   ·rw [Array.getElem?_setIfInBounds_ne hbr];exact hr
   ·rw [Array.toList_push,hs,List.map_append];rfl
   ·refine List.Perm.trans ?_ hp
    rw [hst,List.append_assoc]
    exact List.Perm.append_left ds (by simpa using (List.perm_middle (l₁:=s) (l₂:=t) (a:=left[i])).symm)
   ·rw [List.map_append,List.map_append,hd]
    simp [hpe.1,hpe.2]
   ·rw [Array.getElem?_setIfInBounds_ne (fun e=>hn (by simp [e]))]
 have hcands:(if left.isEmpty=true then #[none] else #[])++Array.map some (left++#[])=if left.isEmpty then #[none] else left.map some:=by
  by_cases hemp:left.isEmpty=true
  ·rw [if_pos hemp,if_pos hemp,Array.isEmpty_iff.1 hemp];simp
  ·rw [if_neg hemp,if_neg hemp];simp
 have hpos:0<(if left.isEmpty=true then #[none] else left.map some).size:=by
  split
  ·simp
  ·rename_i hemp
   rcases Nat.eq_zero_or_pos left.size with h | h
   ·exact absurd (by simp [Array.isEmpty,h]) hemp
   ·simpa using h
 obtain ⟨cands,hc⟩:∃ c:Array (Option MapEntry),c=if left.isEmpty then #[none] else left.map some:=⟨_,rfl⟩
 rw [←hc] at hcands hpos
 simp only [hcands]
 refine ag ?_
 show if (Question.mapNext cands.size).forced then _ else ∀ t,_
 split
 ·exact key _ 0 hpos hc
 ·intro t
  exact key _ _ (Nat.mod_lt _ hpos) hc
theorem mi {b r:Nat}{es done:List (Key × Value)}{p:Key × Value}{Q:Value->ae->Prop} (hm:dJ H b r es (done++[p])) (h:Q (.tuple #[p.1.v,p.2]) H):aI P (Instr.entry (.pointer (some ⟨b,0,none⟩))) Q H:=by
 obtain ⟨ents,clock,seen,ds,rest,hr,he,hbn,hb,hs,hp,hd⟩:=hm
 unfold Instr.entry
 refine ag ?_
 refine (⟨_,hb,rfl,?_⟩:∃ o,H[b]?=some o∧bM o=false∧_)
 refine cg ?_
 obtain ⟨ds',e,hde⟩:∃ ds' e,ds=ds'++[e]:=by
  rcases List.eq_nil_or_concat ds with h0 | ⟨m,x,h0⟩
  ·subst h0;simp at hd
  ·exact ⟨m,x,by simpa using h0⟩
 subst hde
 have hback:seen.back?=some e.born:=by
  have:seen=(ds'.map (·.born)++[e.born]).toArray:=by
   apply Array.ext';rw [hs];simp
  rw [this];simp
 simp only [hback]
 refine ag ?_
 refine (⟨_,hr,rfl,?_⟩:∃ o,H[r]?=some o∧bM o=false∧_)
 refine cg ?_
 simp only [bne_self_eq_false,Bool.false_eq_true,if_false]
 have hin:e∈ents.toList:=hp.subset (by simp)
 have hfind:ents.find? (fun x=>x.born == e.born)=some e:=by
  rw [←Array.find?_toList]
  have:∀ (l:List MapEntry),(l.map (·.born)).Nodup->e∈l->l.find? (fun x=>x.born == e.born)=some e:=by
   intro l
   induction l with
   | nil=>intro _ h;cases h
   | cons x l ih =>
    intro hnd hmem
    rw [List.find?_cons]
    by_cases hx:x.born=e.born
    ·rcases List.mem_cons.1 hmem with rfl | hmem
     ·simp
     ·exfalso
      rw [List.map_cons] at hnd
      have:=(List.nodup_cons.1 hnd).1
      exact this (by rw [hx];exact List.mem_map.2 ⟨e,hmem,rfl⟩)
    ·have:(x.born == e.born)=false:=by simpa using hx
     rw [this]
     rcases List.mem_cons.1 hmem with rfl | hmem
     ·exact absurd rfl hx
     ·rw [List.map_cons] at hnd;exact ih (List.nodup_cons.1 hnd).2 hmem
  exact this _ hbn.1 hin
 rw [hfind]
 rw [List.map_append,List.map_append] at hd
 have h2:=(List.append_inj_right' hd rfl)
 simp only [List.map_cons,List.map_nil,List.cons.injEq,Prod.mk.injEq,and_true] at h2
 show Q (.tuple #[e.key,e.val]) H
 rw [h2.1,h2.2]
 exact h
end
end Kw
namespace Kw
open Go
def aR (r:RH) (w:Int):Int:=if bg w=3∧(al r.objs (w / 4)).isSome then w / 4 else 0
inductive Reaches (r:RH) (ws:List Int):Int->Prop
 | root {w:Int}:w∈ws->aR r w≠0->Reaches r ws (aR r w)
 | cls {o:RO}:Reaches r ws o.oop->o∈r.objs->aR r o.cls≠0->Reaches r ws (aR r o.cls)
 | slot {o:RO}{w:Int}:Reaches r ws o.oop->o∈r.objs->o.fmt=0->w∈o.slots->aR r w≠0->Reaches r ws (aR r w)
theorem fy {r:RH}{w:Int} (h:aR r w≠0):al r.objs (aR r w)≠none:=by
 unfold aR at *
 split at h
 ·rename_i hc
  rw [if_pos hc]
  intro hn
  rw [hn] at hc
  simp at hc
 ·exact absurd rfl h
theorem Reaches.there {r:RH}{ws:List Int}{k:Int} (h:Reaches r ws k):al r.objs k≠none:=by
 cases h with
 | root _ h=>exact fy h
 | cls _ _ h=>exact fy h
 | slot _ _ _ _ h=>exact fy h
noncomputable instance (r:RH) (ws:List Int) (k:Int):Decidable (Reaches r ws k):=Classical.propDecidable _
noncomputable def RH.reach (r:RH) (ws:List Int):List Int:=r.all.filter fun k=>decide (Reaches r ws k)
theorem RH.mem_reach {r:RH} (hw:WFH r){ws:List Int}{k:Int}:k∈r.reach ws↔Reaches r ws k:=by
 unfold RH.reach
 rw [List.mem_filter,RH.mem_all hw]
 constructor
 ·exact fun h=>of_decide_eq_true h.2
 ·exact fun h=>⟨h.there,decide_eq_true h⟩
structure Closed3 (r:RH) (ws l:List Int):Prop where
 sound:∀ k∈l,Reaches r ws k
 roots:∀ w∈ws,aR r w≠0->aR r w∈l
 cls:∀ o∈r.objs,o.oop∈l->aR r o.cls≠0->aR r o.cls∈l
 slot:∀ o∈r.objs,o.oop∈l->o.fmt=0->∀ w∈o.slots,aR r w≠0->aR r w∈l
theorem Closed3.iff {r:RH}{ws l:List Int} (h:Closed3 r ws l){k:Int}:k∈l↔Reaches r ws k:=by
 refine ⟨h.sound k,fun hk=>?_⟩
 induction hk with
 | root h1 h2=>exact h.roots _ h1 h2
 | cls _ h2 h3 ih=>exact h.cls _ h2 ih h3
 | slot _ h2 h3 h4 h5 ih=>exact h.slot _ h2 ih h3 _ h4 h5
theorem Closed3.filter {r:RH}{ws l:List Int} (h:Closed3 r ws l):r.all.filter (fun k=>decide (k∈l))=r.reach ws:=by
 unfold RH.reach
 congr 1
 funext k
 rw [Bool.eq_iff_iff,decide_eq_true_iff,decide_eq_true_iff]
 exact h.iff
theorem oV {l m:List Int} (hn:l.Nodup) (hs:∀ x∈l,x∈m):l.length<=m.length:=by
 induction l generalizing m with
 | nil=>simp
 | cons x l ih =>
  have hc:=List.nodup_cons.1 hn
  have hx:x∈m:=hs x (by simp)
  have:=ih (m:=m.erase x) hc.2 fun y hy=>(List.mem_erase_of_ne (fun e:y=x=>hc.1 (e ▸ hy))).2 (hs y (by simp [hy]))
  rw [List.length_erase_of_mem hx] at this
  have:=List.length_pos_of_mem hx
  simp only [List.length_cons]
  omega
end Kw
namespace Go.Proofs.YtgcoppcogllpbaaGreatDoor
open Kw
theorem jy {l:Nat}{args:Array Value}{Q Q':Value->ae->Prop}{H:ae} (h:eV PP l args Q H) (hq:∀ v H',Q v H'->Q' v H'):eV PP l args Q' H:=fun w hw=>by
 obtain ⟨fn,tmps,assign,body,h1,h2⟩:=h w hw
 exact ⟨fn,tmps,assign,body,h1,h2.mono fun e w' ⟨v,he,hv,hs⟩=>⟨v,he,hq _ _ hv,hs⟩⟩
theorem Fr.setObj (H:ae) (l:Nat) (o:Obj):Fr [l] H (H.setIfInBounds l o):=⟨by simp,fun b _ hn=>Array.getElem?_setIfInBounds_ne (fun e=>hn (by simp [e]))⟩
theorem fR.fr {n:Nat}{H0 H H':ae} (h:fR n H H') (hf:Fr [] H0 H) (hn:n=H0.size):Fr [] H0 H' :=
 ⟨by rw [h.1];exact hf.1,fun b hb _=>by
  rcases h.2 b with h1 | ⟨h1,_⟩
  ·rw [h1];exact hf.2 b hb (by simp)
  ·omega⟩
theorem fR.own {n k:Nat}{H H':ae}{a:Option Addr}{l c:Nat}{xs:List Value}{F:az} (h:fR n H H') (ho:bN k H a l c xs F):bN k H' a l c xs F:=by
 refine ho.keep fun b hb=>?_
 rcases ho.2.2 with ⟨_,_,rfl⟩ | ⟨b',cs,_,rfl,⟨t,hB⟩,_⟩
 ·simp at hb
 ·simp only [List.mem_singleton] at hb
  subst hb
  rcases h.2 b with h1 | ⟨_,h1,_⟩
  ·exact h1
  ·rw [hB] at h1;cases h1
section
variable {H:ae}{hb:Nat}{F:az}{r:RH}{Q:QT}
theorem iy (hR:bQ H hb F r){k:Int} (h:Q (AV (r.clsAt k)) H):ac PP xZ #[.pointer (some ⟨hb,0,none⟩),.int .i64 k] Q H:=by
 obtain ⟨_,_,_,_,_,_,_,_,hR⟩:=hR;exact xp hR h
theorem qv (hR:bQ H hb F r){k i:Int} (h:Q (AV (r.at k i)) H):ac PP yb #[.pointer (some ⟨hb,0,none⟩),.int .i64 k,.int .i64 i] Q H:=by
 obtain ⟨_,_,_,_,_,_,_,_,hR⟩:=hR;exact Ec hR h
theorem mJ (hR:bQ H hb F r){k:Int} (h:Q (lZ (r.size k)) H):ac PP x0 #[.pointer (some ⟨hb,0,none⟩),.int .i64 k] Q H:=by
 obtain ⟨_,_,_,_,_,_,_,_,hR⟩:=hR;exact zY hR h
theorem rW (hR:bQ H hb F r) (h:Q (.int .i64 r.mark) H):ac PP xS #[.pointer (some ⟨hb,0,none⟩)] Q H:=by
 obtain ⟨_,_,_,_,_,_,_,_,hR⟩:=hR;exact uj hR h
theorem mR (hR:bQ H hb F r){w:Int} (h1:aR r w≠0->Q (.tuple #[.int .i64 (aR r w),.bool true]) H) (h2:aR r w=0->∀ x:Int,Q (.tuple #[.int .i64 x,.bool false]) H):ac PP AH #[.pointer (some ⟨hb,0,none⟩),.int .i64 w] Q H:=by
 apply uH
 unfold Bl iV pV cS
 refine gO hR.kinds ?_
 unfold jE
 unfold aR at h1 h2
 by_cases hk:bg w=3
 ·rw [if_pos hk]
  refine ⟨_,_,rfl,?_⟩
  rw [show ((0:Int) != 0)=false from rfl]
  simp only [cond_false]
  refine iy hR ?_
  have hw:=aW w
  cases ho:al r.objs (w / 4) with
  | none =>
   refine ⟨_,_,rfl,?_⟩
   simp only [RH.clsAt,ho]
   exact h2 (by rw [ho];simp) _
  | some o =>
   refine ⟨_,_,rfl,?_⟩
   simp only [RH.clsAt,ho]
   simp only [hk,ho,Option.isSome_some,and_self,if_true] at h1
   exact h1 (by omega)
 ·rw [if_neg hk]
  refine ⟨_,_,rfl,?_⟩
  rw [show ((10:Int) != 0)=true from rfl]
  simp only [cond_true]
  exact h2 (by rw [if_neg (fun h=>hk h.1)]) _
def bK (r:RH) (ws:List Int):List Int:=(ws.map (aR r)).filter fun x=>decide (x≠0)
def gY (r:RH) (o:RO):List Int:=bK r (o.cls :: if o.fmt=0 then o.slots else [])
theorem ck (r:RH) (l m:List Int):bK r (l++m)=bK r l++bK r m:=by simp [bK]
theorem dz (r:RH) (w:Int):bK r [w]=if aR r w=0 then [] else [aR r w]:=by
 by_cases h:aR r w=0 <;> simp [bK,h]
theorem hZ {r:RH}{ws:List Int}{k:Int}:k∈bK r ws↔∃ w∈ws,aR r w=k∧k≠0:=by
 simp only [bK,List.mem_filter,List.mem_map,decide_eq_true_eq]
 constructor
 ·rintro ⟨⟨w,h1,h2⟩,h3⟩;exact ⟨w,h1,h2,h3⟩
 ·rintro ⟨w,h1,h2,h3⟩;exact ⟨⟨w,h1,h2⟩,h3⟩
theorem uX {l:Nat}{q0 q1:Addr}{k:Int}{o:RO}{J:List Int->ae->Prop} (ho:al r.objs k=some o)
  (hJ:∀ pre H',J pre H'->bQ H' hb F r∧aa H' q0=some (.pointer (some ⟨hb,0,none⟩))∧aa H' q1=some (.int .i64 k))
  (hy:∀ pre x H',(∃ suf,gY r o=pre++x :: suf)->J pre H'->eV PP l #[.int .i64 x] (fun v H''=>v=.bool true∧J (pre++[x]) H'') H')
  (h0:J [] H) (h:∀ H',J (gY r o) H'->Q (.tuple #[]) H'):ac PP mV #[.func (.yield l) #[] #[],.pointer (some q0),.pointer (some q1)] Q H:=by
 apply uV
 unfold Dq iV wW pV cS
 obtain ⟨hR,c0,c1⟩:=hJ _ _ h0
 have hg:=hR.wf.objs.good o (au ho).1
 have hmany:=hg.many
 refine ⟨_,c0,_,c1,iy hR ⟨_,_,rfl,?_⟩⟩
 have hcls:r.clsAt k=(o.cls,0):=by simp [RH.clsAt,ho]
 have hsz:r.size k=((o.slots.length:Int),o.fmt,0):=by simp [RH.size,ho]
 rw [hcls]
 simp only [show ((0:Int) != 0)=false from rfl,cond_false]
 refine ⟨fun w H4=>w=[]∧J (bK r [o.cls]) H4,⟨_,c0,?_⟩,?_⟩
 ·refine mR hR (fun hne=>⟨_,_,rfl,?_⟩) fun he x=>⟨_,_,rfl,?_⟩
  ·simp only [cond_true]
   refine jy (hy [] _ H ?_ h0) ?_
   ·refine ⟨bK r (if o.fmt=0 then o.slots else []),?_⟩
    have e:gY r o=bK r [o.cls]++bK r (if o.fmt=0 then o.slots else []):=by rw [←ck];rfl
    rw [e,dz,if_neg hne];rfl
   ·rintro v H3 ⟨rfl,h3⟩
    refine ⟨_,rfl,?_⟩
    simp only [Bool.not_true,cond_false]
    refine ⟨trivial,?_⟩
    rw [dz,if_neg hne];exact h3
  ·simp only [cond_false]
   refine ⟨trivial,?_⟩
   rw [dz,if_pos he];exact h0
 ·rintro w H4 ⟨rfl,h4⟩ _
  obtain ⟨hR4,c04,c14⟩:=hJ _ _ h4
  refine ⟨rfl,_,c04,_,c14,mJ hR4 ⟨_,_,_,rfl,?_⟩⟩
  rw [hsz]
  simp only [show ((0:Int) != 0)=false from rfl,cond_false]
  have e:gY r o=bK r [o.cls]++bK r (if o.fmt=0 then o.slots else []):=by rw [←ck];rfl
  by_cases hf:o.fmt=0
  ·have hfb:(o.fmt != 0)=false:=by simp [hf]
   rw [hfb]
   simp only [cond_false]
   rw [if_pos hf] at e
   refine ⟨fun w H6=>∃ i:Nat,w=[.int .i64 i]∧i<=o.slots.length∧J (bK r [o.cls]++bK r (o.slots.take i)) H6,fun w _=>match w with
    | [.int _ i]=>(o.slots.length-i).toNat
    | _=>0,⟨0,rfl,Nat.zero_le _,by simpa [bK] using h4⟩,?_⟩
   rintro w H6 ⟨i,rfl,hi,h6⟩ _
   refine ⟨_,rfl,?_⟩
   rw [af]
   have e1:IntKind.wrap .i64 ((i:Int)+1)=((i+1:Nat):Int):=by rw [ah (by omega) (by omega)];omega
   refine aA (fun hlt=>?_) fun hlt=>?_
   ·have hlt':i<o.slots.length:=by omega
    obtain ⟨hR6,c06,c16⟩:=hJ _ _ h6
    have hat:r.at k (i:Int)=(o.slots[i],0):=by
     simp only [RH.at,ho]
     rw [if_neg (by omega)]
     simp [hlt']
    refine ⟨_,c06,_,c16,qv hR6 ⟨_,_,rfl,?_⟩⟩
    rw [hat]
    simp only [show ((0:Int) != 0)=false from rfl,cond_false]
    have htk:o.slots.take (i+1)=o.slots.take i++[o.slots[i]]:=by rw [List.take_add_one];simp [hlt']
    have hmu:(((o.slots.length:Int)-((i+1:Nat):Int)).toNat)<((o.slots.length:Int)-(i:Int)).toNat:=by omega
    refine ⟨_,c06,mR hR6 (fun hne=>⟨_,_,rfl,?_⟩) fun he x=>⟨_,_,rfl,?_⟩⟩
    ·simp only [cond_true]
     refine jy (hy _ _ H6 ?_ h6) ?_
     ·refine ⟨bK r (o.slots.drop (i+1)),?_⟩
      have hd:o.slots=o.slots.take i++o.slots[i] :: o.slots.drop (i+1):=by simp
      have:bK r o.slots=bK r (o.slots.take i)++aR r o.slots[i] :: bK r (o.slots.drop (i+1)):=by
       conv=>lhs;rw [hd]
       rw [ck]
       congr 1
       rw [show o.slots[i] :: o.slots.drop (i+1)=[o.slots[i]]++o.slots.drop (i+1) from rfl,ck,dz,if_neg hne];rfl
      rw [e,this];simp
     ·rintro v H9 ⟨rfl,h9⟩
      refine ⟨_,rfl,?_⟩
      simp only [Bool.not_true,cond_false]
      rw [e1]
      refine ⟨⟨i+1,rfl,hlt',?_⟩,hmu⟩
      rw [htk,ck,dz r o.slots[i],if_neg hne,←List.append_assoc];exact h9
    ·simp only [cond_false]
     rw [e1]
     refine ⟨⟨i+1,rfl,hlt',?_⟩,hmu⟩
     rw [htk,ck,dz r o.slots[i],if_pos he,List.append_nil];exact h6
   ·have:i=o.slots.length:=by omega
    rw [this,List.take_length] at h6
    exact h H6 (by rw [e];exact h6)
  ·have hfb:(o.fmt != 0)=true:=by simp [hf]
   rw [hfb]
   simp only [cond_true]
   rw [if_neg hf] at e
   exact h H4 (by rw [e];simpa [bK] using h4)
theorem yZ {k:Int} (h:Q (.func (.func mV) #[] #[.pointer (some ⟨H.size,0,none⟩),.pointer (some ⟨H.size+1,0,none⟩)]) ((H.push (.cells #[.pointer (some ⟨hb,0,none⟩)] 85)).push (.cells #[.int .i64 k] 3))):ac PP yN #[.pointer (some ⟨hb,0,none⟩),.int .i64 k] Q H:=by
 apply vQ
 unfold Cb A0 iV pV
 simp only [Array.size_push]
 exact h
end
def dl (S:List Int):List (Key × Value):=S.map fun k=>(Key.int k,Value.int .i64 1)
theorem lN (S:List Int) (n:Int):bS (dl S) (.int n)=if n∈S then some (.int .i64 1) else none:=by
 induction S with
 | nil=>rfl
 | cons x S ih =>
  unfold dl at *
  simp only [List.map_cons,bS]
  by_cases h:n=x
  ·subst h;simp
  ·rw [if_neg (by simpa using h),ih]
   simp [h]
theorem sn {S:List Int}{n:Int} (h:n∉S):i6 (dl S) (.int n) (.int .i64 1)=dl (S++[n]):=by
 have:dE (dl S) (.int n)=none:=by rw [cU,lN,if_neg h]
 rw [gA this];simp [dl]
theorem qH {S:List Int}:∀ p∈dl S,p.1.of (.int .i64):=by
 intro p hp
 simp only [dl,List.mem_map] at hp
 obtain ⟨k,_,rfl⟩:=hp
 trivial
structure Vis (H:ae) (mb tb m:Nat) (S T:List Int) (G:az):Prop where
 b1:aV H mb #[.map (some m)]
 b2:∃ a l c,aV H tb #[.slice a l c]∧bN 1 H a l c (aj T) G
 mp:bT H m (dl S)
 n1:mb≠tb
 n2:mb≠m
 n3:tb≠m
 n4:∀ x∈G,x≠mb∧x≠tb∧x≠m
theorem Vis.fr {H H':ae}{mb tb m:Nat}{S T:List Int}{G F:az} (h:Vis H mb tb m S T G) (hf:Fr F H H') (h1:mb∉F) (h2:tb∉F) (h3:m∉F) (h4:co G F):Vis H' mb tb m S T G:=by
 obtain ⟨a,l,c,hB,hO⟩:=h.b2
 exact { h with b1:=h.b1.fr hf h1,b2:=⟨a,l,c,hB.fr hf h2,hO.fr hf h4⟩,mp:=h.mp.fr hf h3 }
theorem Vis.lt {H:ae}{mb tb m:Nat}{S T:List Int}{G:az} (h:Vis H mb tb m S T G):∀ x∈mb :: tb :: m :: G,x<H.size:=by
 obtain ⟨a,l,c,hB,hO⟩:=h.b2
 intro x hx
 simp only [List.mem_cons] at hx
 rcases hx with rfl | rfl | rfl | hx
 ·exact h.b1.lt
 ·exact hB.lt
 ·exact h.mp.lt
 ·exact hO.lt x hx
def cN (p:List Int × List Int) (n:Int):List Int × List Int:=if n∈p.1 then p else (p.1++[n],p.2++[n])
section
variable {H:ae}{hb:Nat}{F:az}{r:RH}{Q:QT}
theorem vG {mb tb m:Nat}{S T:List Int}{G:az}{n:Int} (hV:Vis H mb tb m S T G) (hT:T.length<1000000000)
  (h:∀ H' G',Vis H' mb tb m (cN (S,T) n).1 (cN (S,T) n).2 G'->Up (mb :: tb :: m :: G) H (mb :: tb :: m :: G') H'->Q (.tuple #[]) H') :
  ac PP kF #[.int .i64 n,.pointer (some ⟨mb,0,none⟩),.pointer (some ⟨tb,0,none⟩)] Q H:=by
 have hmi:cp PP 234=some (.int .i64,some (.int .i64 0)):=by kernel_rfl
 have hs1:aH PP 47=some (1,8,some (.int .i64 0)):=by kernel_rfl
 obtain ⟨a,l,c,hB,hO⟩:=hV.b2
 have c1:aa H ⟨mb,0,none⟩=some (.map (some m)):=hV.b1.cell 0
 apply uC
 unfold C8 A0 iV lV
 refine ⟨_,c1,ij (k:=.int n) hmi trivial qH hV.mp ?_⟩
 rw [lN]
 unfold cN at h
 by_cases hn:n∈S
 ·simp only [hn,if_true,Option.getD_some] at h ⊢
  refine ⟨_,rfl,?_⟩
  rw [show ((1:Int) == 0)=false from rfl]
  simp only [cond_false]
  exact h H G hV (Up.refl _ _)
 ·simp only [hn,if_false,Option.getD_none] at h ⊢
  refine ⟨_,rfl,?_⟩
  rw [show ((0:Int) == 0)=true from rfl]
  simp only [cond_true]
  refine ⟨_,c1,eO (k:=.int n) hmi trivial qH hV.mp fun H2 hM2 hf2=>?_⟩
  rw [sn hn] at hM2
  have hB2:aV H2 tb #[.slice a l c]:=hB.fr hf2 (by simpa using hV.n3)
  have hb2:aV H2 mb #[.map (some m)]:=hV.b1.fr hf2 (by simpa using hV.n2)
  have hO2:bN 1 H2 a l c (aj T) G:=hO.fr hf2 (fun x hx hm=>(hV.n4 x hx).2.2 (by simpa using hm))
  have hl:l=T.length:=by have:=hO.len;simpa [aj] using this.symm
  refine ⟨_,_,_,hB2.cell 0,?_⟩
  refine bI hs1 rfl (by kernel_rfl) hO2 rfl (by simp [dB]) (by omega) (by decide) (by decide) fun a' c' G2 H3 g1 g2 g3=>⟨_,_,_,rfl,?_⟩
  have hnG:∀ x∈G,x≠mb∧x≠tb∧x≠m:=hV.n4
  have hlt2:mb<H2.size∧tb<H2.size∧m<H2.size:=⟨hb2.lt,hB2.lt,hM2.lt⟩
  have hG2:∀ x∈G2,x≠mb∧x≠tb∧x≠m:=fun x hx=>by
   rcases g2.2 x hx with h4 | h4
   ·exact hnG x h4
   ·omega
  have hmbG:mb∉G:=fun hx=>(hnG _ hx).1 rfl
  have htbG:tb∉G:=fun hx=>(hnG _ hx).2.1 rfl
  have hmG:m∉G:=fun hx=>(hnG _ hx).2.2 rfl
  have hB3:aV H3 tb #[.slice a l c]:=hB2.fr g2.1 htbG
  have hb3:aV H3 mb #[.map (some m)]:=hb2.fr g2.1 hmbG
  have hM3:=hM2.fr g2.1 hmG
  have hft:Fr [tb] H3 (aB H3 ⟨tb,0,none⟩ (.slice a' (l+1) c')):=Fr.set (by simp)
  refine ⟨hB3.wr (by simp),h _ G2 { b1:=hb3.fr hft (by simpa using hV.n1),b2:=⟨a',l+1,c',hB3.set 0 (.slice a' (l+1) c'),?_⟩,mp:=hM3.fr hft (by simpa using (Ne.symm hV.n3)),n1:=hV.n1,n2:=hV.n2,n3:=hV.n3,n4:=hG2 } ⟨?_,?_⟩⟩
  ·rw [bO]
   exact g1.fr hft (fun x hx hm=>(hG2 x hx).2.1 (by simpa using hm))
  ·exact ((hf2.mono (F':=mb :: tb :: m :: G) fun x hx=>by simp only [List.mem_singleton] at hx;simp [hx]).trans (g2.1.mono fun x hx=>by simp [hx])).trans (hft.mono fun x hx=>by simp only [List.mem_singleton] at hx;simp [hx])
  ·intro x hx
   simp only [List.mem_cons] at hx ⊢
   rcases hx with rfl | rfl | rfl | hx
   ·exact .inl (.inl rfl)
   ·exact .inl (.inr (.inl rfl))
   ·exact .inl (.inr (.inr (.inl rfl)))
   ·rcases g2.2 x hx with h4 | h4
    ·exact .inl (.inr (.inr (.inr h4)))
    ·exact .inr (Nat.le_trans hf2.1 h4)
structure Walk (r:RH) (ws:List Int) (S T:List Int):Prop where
 nd:S.Nodup
 ndT:T.Nodup
 sub:∀ k∈T,k∈S
 sound:∀ k∈S,Reaches r ws k
theorem lT (p:List Int × List Int) (n:Int):∃ nw,(cN p n).1=p.1++nw∧(cN p n).2=p.2++nw∧(n∈(cN p n).1)∧(∀ x∈nw,x=n)∧(p.1.Nodup->(cN p n).1.Nodup):=by
 unfold cN
 by_cases h:n∈p.1
 ·exact ⟨[],by simp [h],by simp [h],by simp [h],by simp,fun hn=>by simp [h,hn]⟩
 ·refine ⟨[n],by simp [h],by simp [h],by simp [h],by simp,fun hn=>?_⟩
  simp only [h,if_false]
  rw [List.nodup_append]
  exact ⟨hn,by simp,fun a ha b hb e=>h (by simp only [List.mem_singleton] at hb;rw [←hb,←e];exact ha)⟩
theorem lO (p:List Int × List Int) (xs:List Int):∃ nw,(xs.foldl cN p).1=p.1++nw∧(xs.foldl cN p).2=p.2++nw∧(∀ x∈xs,x∈(xs.foldl cN p).1)∧(∀ x∈nw,x∈xs)∧(p.1.Nodup->(xs.foldl cN p).1.Nodup):=by
 induction xs generalizing p with
 | nil=>exact ⟨[],by simp,by simp,by simp,by simp,fun h=>h⟩
 | cons x xs ih =>
  obtain ⟨n1,a1,a2,a3,a4,a5⟩:=lT p x
  obtain ⟨n2,b1,b2,b3,b4,b5⟩:=ih (cN p x)
  refine ⟨n1++n2,?_,?_,?_,?_,fun h=>b5 (a5 h)⟩
  ·rw [List.foldl_cons,b1,a1,List.append_assoc]
  ·rw [List.foldl_cons,b2,a2,List.append_assoc]
  ·intro y hy
   rw [List.foldl_cons]
   rcases List.mem_cons.1 hy with rfl | hy
   ·rw [b1];exact List.mem_append_left _ a3
   ·exact b3 y hy
  ·intro y hy
   rcases List.mem_append.1 hy with hy | hy
   ·rw [a4 y hy];simp
   ·exact List.mem_cons_of_mem _ (b4 y hy)
theorem Walk.fold {ws S T:List Int} (h:Walk r ws S T){xs:List Int} (hx:∀ x∈xs,Reaches r ws x):Walk r ws (xs.foldl cN (S,T)).1 (xs.foldl cN (S,T)).2:=by
 obtain ⟨nw,b1,b2,b3,b4,b5⟩:=lO (S,T) xs
 have hnd:=b5 h.nd
 simp only at b1 b2
 refine { nd:=hnd,ndT:=?_,sub:=fun k hk=>?_,sound:=fun k hk=>?_ }
 ·rw [b2,List.nodup_append]
  rw [b1,List.nodup_append] at hnd
  exact ⟨h.ndT,hnd.2.1,fun a ha b hb=>hnd.2.2 a (h.sub a ha) b hb⟩
 ·rw [b2] at hk
  rw [b1]
  rcases List.mem_append.1 hk with hk | hk
  ·exact List.mem_append_left _ (h.sub k hk)
  ·exact List.mem_append_right _ hk
 ·rw [b1] at hk
  rcases List.mem_append.1 hk with hk | hk
  ·exact h.sound k hk
  ·exact hx k (b4 k hk)
theorem Walk.le {ws S T:List Int} (h:Walk r ws S T) (hw:WFH r):S.length<=r.all.length∧T.length<=r.all.length:=by
 have h1:S.length<=r.all.length:=oV h.nd fun k hk=>(RH.mem_all hw).2 (h.sound k hk).there
 exact ⟨h1,Nat.le_trans (oV h.ndT h.sub) h1⟩
theorem jB {ws:List Int}{o:RO}{k:Int} (ho:al r.objs k=some o) (hk:Reaches r ws k):∀ x∈gY r o,Reaches r ws x:=by
 intro x hx
 obtain ⟨h1,h2⟩:=au ho
 obtain ⟨w,hw,rfl,hne⟩:=hZ.1 hx
 rw [←h2] at hk
 rcases List.mem_cons.1 hw with rfl | hw
 ·exact .cls hk h1 hne
 ·by_cases hf:o.fmt=0
  ·rw [if_pos hf] at hw
   exact .slot hk h1 hf hw hne
  ·rw [if_neg hf] at hw;cases hw
def Bo (r:RH) (S T:List Int):Prop:=∀ k∈S,k∉T->∀ o,al r.objs k=some o->∀ x∈gY r o,x∈S
theorem Walk.closed {ws S:List Int} (h:Walk r ws S []) (hw:WFH r) (hd:Bo r S []) (hr:∀ w∈ws,aR r w≠0->aR r w∈S):Closed3 r ws S:=by
 refine { sound:=h.sound,roots:=hr,cls:=fun o ho hk hne=>?_,slot:=fun o ho hk hf w hwm hne=>?_ }
 ·exact hd o.oop hk (by simp) o (bW hw.objs ho) _ (hZ.2 ⟨o.cls,by simp,rfl,hne⟩)
 ·exact hd o.oop hk (by simp) o (bW hw.objs ho) _ (hZ.2 ⟨w,by simp [hf,hwm],rfl,hne⟩)
end
abbrev dg (m:Nat):Value:=.func (.func kF) #[] #[.pointer (some ⟨m+1,0,none⟩),.pointer (some ⟨m+2,0,none⟩)]
def St (H H2:ae) (S T:List Int):Prop:=∃ G,Vis H2 (H.size+1) (H.size+2) H.size S T G∧Fr [] H H2∧(∀ x∈G,H.size+4<=x)∧aV H2 (H.size+3) #[dg H.size]
def pX (H:ae) (m:Nat):Nat:=match H[m]? with
 | some (.map es _)=>es.size
 | _=>0
def jX (H:ae) (b:Nat):Nat:=match aa H ⟨b,0,none⟩ with
 | some (.slice _ l _)=>l
 | _=>0
section
variable {H:ae}{hb:Nat}{F:az}{r:RH}{Q:QT}
theorem St.lens {H2:ae}{S T:List Int} (h:St H H2 S T):pX H2 H.size=S.length∧jX H2 (H.size+2)=T.length:=by
 obtain ⟨G,hV,_⟩:=h
 obtain ⟨ents,clock,hm,he,_⟩:=hV.mp
 obtain ⟨a,l,c,hB,hO⟩:=hV.b2
 constructor
 ·unfold pX;rw [hm]
  have:=congrArg List.length he
  simpa [dl] using this
 ·unfold jX
  rw [show aa H2 ⟨H.size+2,0,none⟩=some (.slice a l c) from hB.cell 0]
  have:=hO.len
  simpa [aj] using this.symm
theorem St.other {H2 H3:ae}{S T:List Int}{F:az} (h:St H H2 S T) (hf:Fr F H2 H3) (hF:∀ b∈F,H.size+4<=b∧∀ c e f,H2[b]?≠some (Obj.cells c e f)):St H H3 S T:=by
 obtain ⟨G,hV,hf0,hG,hB⟩:=h
 have hn:∀ b,b<H.size+4->b∉F:=fun b hb hm=>by have:=(hF b hm).1;omega
 refine ⟨G,hV.fr hf (hn _ (by omega)) (hn _ (by omega)) (hn _ (by omega)) (fun x hx hm=>?_),?_,hG,hB.fr hf (hn _ (by omega))⟩
 ·obtain ⟨a,l,c,_,hO⟩:=hV.b2
  rcases hO.2.2 with ⟨_,_,rfl⟩ | ⟨b',cs,_,rfl,⟨t,hB'⟩,_⟩
  ·cases hx
  ·simp only [List.mem_singleton] at hx
   subst hx
   exact (hF x hm).2 _ _ _ hB'
 ·refine ⟨Nat.le_trans hf0.1 hf.1,fun b hb _=>?_⟩
  rw [hf.2 b (Nat.lt_of_lt_of_le hb hf0.1) (hn b (by omega)),hf0.2 b hb (by simp)]
theorem St.visitG {H2:ae}{S T:List Int}{G:az} (hV:Vis H2 (H.size+1) (H.size+2) H.size S T G) (hf0:Fr [] H H2) (hG:∀ x∈G,H.size+4<=x) (hB:aV H2 (H.size+3) #[dg H.size]){n:Int} (hT:T.length<1000000000)
  (hq:∀ H' G',Vis H' (H.size+1) (H.size+2) H.size (cN (S,T) n).1 (cN (S,T) n).2 G'->Fr [] H H'->(∀ x∈G',H.size+4<=x)->aV H' (H.size+3) #[dg H.size]->(∀ x∈G',x∈G∨H2.size<=x) ->
   Fr ((H.size+1) :: (H.size+2) :: H.size :: G) H2 H'->Q (.tuple #[]) H') :
  ac PP kF #[.int .i64 n,.pointer (some ⟨H.size+1,0,none⟩),.pointer (some ⟨H.size+2,0,none⟩)] Q H2:=by
 refine vG hV hT fun H' G' hV' hu=>hq H' G' hV' ?_ (fun x hx=>?_) ?_ (fun x hx=>?_) hu.1
 ·refine ⟨Nat.le_trans hf0.1 hu.1.1,fun b hb _=>?_⟩
  rw [hu.1.2 b (Nat.lt_of_lt_of_le hb hf0.1) (fun hm=>?_),hf0.2 b hb (by simp)]
  simp only [List.mem_cons] at hm
  rcases hm with rfl | rfl | rfl | hm
  ·omega
  ·omega
  ·omega
  ·have:=hG b hm;omega
 ·rcases hu.2 x (by simp [hx]) with h1 | h1
  ·simp only [List.mem_cons] at h1
   have:=hV'.n4 x hx
   rcases h1 with rfl | rfl | rfl | h1
   ·omega
   ·omega
   ·omega
   ·exact hG x h1
  ·have:=hB.lt;omega
 ·refine hB.fr hu.1 (fun hm=>?_)
  simp only [List.mem_cons] at hm
  rcases hm with h1 | h1 | h1 | h1
  ·omega
  ·omega
  ·omega
  ·have:=hG _ h1;omega
 ·rcases hu.2 x (by simp [hx]) with h1 | h1
  ·simp only [List.mem_cons] at h1
   have:=hV'.n4 x hx
   rcases h1 with rfl | rfl | rfl | h1
   ·omega
   ·omega
   ·omega
   ·exact .inl h1
  ·exact .inr h1
theorem St.visit {H2:ae}{S T:List Int} (h:St H H2 S T){n:Int} (hT:T.length<1000000000) (hq:∀ H',St H H' (cN (S,T) n).1 (cN (S,T) n).2->Q (.tuple #[]) H') :
  ac PP kF #[.int .i64 n,.pointer (some ⟨H.size+1,0,none⟩),.pointer (some ⟨H.size+2,0,none⟩)] Q H2:=by
 obtain ⟨G,hV,hf0,hG,hB⟩:=h
 exact St.visitG hV hf0 hG hB hT fun H' G' h1 h2 h3 h4 _ _=>hq H' ⟨G',h1,h2,h3,h4⟩
theorem St.fr {H2:ae}{S T:List Int} (h:St H H2 S T):Fr [] H H2:=by obtain ⟨_,_,h,_⟩:=h;exact h
theorem St.cell {H2:ae}{S T:List Int} (h:St H H2 S T):aa H2 ⟨H.size+3,0,none⟩=some (dg H.size):=by obtain ⟨_,_,_,_,h⟩:=h;exact h.cell 0
def dw (l:List (Key × Value)):List Int:=l.map fun p=>match p.1 with
 | .int k=>k
 | .str _=>0
theorem nH (S:List Int):dw (dl S)=S:=by
 unfold dw dl;rw [List.map_map];exact List.map_id' S
theorem RH.all_sorted (r:RH):r.all.Pairwise (· < ·):=by
 unfold RH.all RH.upto
 refine List.Pairwise.filter _ ?_
 rw [List.pairwise_map]
 exact List.pairwise_lt_range.imp fun h=>by omega
theorem mE {ws S:List Int} (hw:WFH r) (hnd:S.Nodup) (hiff:∀ k,k∈S↔Reaches r ws k){out:List Int} (hp:out.Perm S):(out.mergeSort fun x y=>decide (x<=y))=r.reach ws:=by
 have hs:=List.pairwise_mergeSort (le:=fun x y:Int=>decide (x<=y)) (fun a b c h1 h2=>by simp at *;omega) (fun a b=>by simp;omega) out
 have h1:(r.reach ws).Pairwise (· < ·):=(RH.all_sorted r).filter _
 have h2:(r.reach ws).Nodup:=h1.imp fun h e=>by omega
 have hperm:(out.mergeSort fun x y=>decide (x<=y)).Perm (r.reach ws):=by
  refine ((List.mergeSort_perm out _).trans hp).trans ?_
  rw [List.perm_ext_iff_of_nodup hnd h2]
  intro k
  rw [hiff,RH.mem_reach hw]
 exact List.Perm.eq_of_pairwise (fun a b _ _ h3 h4=>by simp at h3 h4;omega) hs (h1.imp fun h=>by simp;omega) hperm
end
section
variable {H:ae}{hb:Nat}{F:az}{r:RH}{Q:QT}
theorem Fh {H6:ae}{S T:List Int}{k:Int}{o:RO}{X:Loop}{Kn Kr:ae->Prop}{Ke:List (Nat × (ae->Prop))} (hR:bQ H hb F r) (hst:St H H6 S T){ws:List Int} (hwk:Walk r ws S T) (hoo:al r.objs k=some o) (hkR:Reaches r ws k) (hall:r.all.length<=65537)
  (hX:∀ {n1:Int}{Q':Value->ae->Prop}{H':ae},H'[H6.size+3]?=some (.loop X)->cF (H6.size+3) ⟨H.size+3,0,none⟩ n1 Q' H'->eV PP (H6.size+3) #[.int .i64 n1] Q' H') (hXs:X.state=.ready) (hXp:X.pending=none)
  (hK:∀ H8,St H H8 ((gY r o).foldl cN (S,T)).1 ((gY r o).foldl cN (S,T)).2->Kn H8) :
  ac PP mV ((#[]++#[.func (.yield (H6.size+3)) #[] #[]])++#[.pointer (some ⟨H6.size,0,none⟩),.pointer (some ⟨H6.size+1,0,none⟩)]) (fun _ H7=>kX (H6.size+3) Kn Kr Ke H7)
   ((((H6.push (.cells #[.pointer (some ⟨hb,0,none⟩)] 85)).push (.cells #[.int .i64 k] 3)).push (.deferred (some []))).push (.loop X)):=by
 have hw:=hR.wf
 have h4:H.size+4<=H6.size:=by obtain ⟨_,_,_,_,h⟩:=hst;have:=h.lt;omega
 show ac PP mV #[.func (.yield (H6.size+3)) #[] #[],.pointer (some ⟨H6.size,0,none⟩),.pointer (some ⟨H6.size+1,0,none⟩)] _ _
 have b0:aV ((((H6.push (.cells #[.pointer (some ⟨hb,0,none⟩)] 85)).push (.cells #[.int .i64 k] 3)).push (.deferred (some []))).push (.loop X)) H6.size #[.pointer (some ⟨hb,0,none⟩)]:=(((aV.new H6 _ _).push _).push _).push _
 have b1:aV ((((H6.push (.cells #[.pointer (some ⟨hb,0,none⟩)] 85)).push (.cells #[.int .i64 k] 3)).push (.deferred (some []))).push (.loop X)) (H6.size+1) #[.int .i64 k]:=by
  have:=((aV.new (H6.push (.cells #[.pointer (some ⟨hb,0,none⟩)] 85)) #[.int .i64 k] 3).push (.deferred (some []))).push (.loop X)
  simpa using this
 have hl:((((H6.push (.cells #[.pointer (some ⟨hb,0,none⟩)] 85)).push (.cells #[.int .i64 k] 3)).push (.deferred (some []))).push (.loop X))[H6.size+3]?=some (.loop X):=by
  have:H6.size+3=(((H6.push (.cells #[.pointer (some ⟨hb,0,none⟩)] 85)).push (.cells #[.int .i64 k] 3)).push (.deferred (some []))).size:=by simp
  rw [this];exact Array.getElem?_push_size
 obtain ⟨G0,gV0,gf0,gG,gB0⟩:=hst
 have hfp:Fr [] H6 ((((H6.push (.cells #[.pointer (some ⟨hb,0,none⟩)] 85)).push (.cells #[.int .i64 k] 3)).push (.deferred (some []))).push (.loop X)):=(((Fr.push [] H6 _).more).more).more
 have gV:=gV0.fr hfp (by simp) (by simp) (by simp) (co.nil_right _)
 have gf:=gf0.trans hfp
 have gB:=gB0.fr hfp (by simp)
 have hG0:∀ x∈G0,x<H6.size∨H6.size+4<=x:=fun x hx=>.inl (gV0.lt x (by simp [hx]))
 refine uX (hb:=hb) (F:=F) (r:=r) (k:=k) hoo (J:=fun pre H'=>(∃ G,Vis H' (H.size+1) (H.size+2) H.size (pre.foldl cN (S,T)).1 (pre.foldl cN (S,T)).2 G∧Fr [] H H'∧(∀ x∈G,H.size+4<=x)∧aV H' (H.size+3) #[dg H.size]∧∀ x∈G,x<H6.size∨H6.size+4<=x)∧aV H' H6.size #[.pointer (some ⟨hb,0,none⟩)]∧aV H' (H6.size+1) #[.int .i64 k]∧H'[H6.size+3]?=some (.loop X))
  (fun pre H' hJ=>⟨hR.fr hJ.1.choose_spec.2.1 (co.nil_right F) (by simp),hJ.2.1.cell 0,hJ.2.2.1.cell 0⟩) ?_ ⟨⟨G0,gV,gf,gG,gB,hG0⟩,b0,b1,hl⟩ ?_
 ·rintro pre x H' ⟨suf,he⟩ ⟨⟨G,pV,pf,pG,pB,pb⟩,k0,k1,hl'⟩
  refine hX hl' ?_
  unfold cF iV
  have hwk':Walk r ws (pre.foldl cN (S,T)).1 (pre.foldl cN (S,T)).2:=hwk.fold fun y hy=>jB hoo hkR y (by rw [he];simp [hy])
  have hfb:∀ (Y:ae) (o:Obj),Fr [H6.size+3] Y (Y.setIfInBounds (H6.size+3) o):=fun Y o=>Fr.setObj _ _ _
  have keepV:∀ {Y:ae}{o:Obj}{S' T':List Int}{G':az},Vis Y (H.size+1) (H.size+2) H.size S' T' G'->Fr [] H Y->aV Y (H.size+3) #[dg H.size]->(∀ x∈G',x<H6.size∨H6.size+4<=x) ->
    Vis (Y.setIfInBounds (H6.size+3) o) (H.size+1) (H.size+2) H.size S' T' G'∧Fr [] H (Y.setIfInBounds (H6.size+3) o)∧aV (Y.setIfInBounds (H6.size+3) o) (H.size+3) #[dg H.size]:=by
   intro Y o S' T' G' hv hf hB hbn
   refine ⟨hv.fr (hfb Y o) (by simp;omega) (by simp;omega) (by simp;omega) (fun x hx hm=>?_),⟨by simpa using hf.1,fun b hb' _=>?_⟩,hB.fr (hfb Y o) (by simp;omega)⟩
   ·have h1:=List.mem_singleton.1 hm
    rcases hbn x hx with h2 | h2 <;> omega
   ·rw [(hfb Y o).2 b (Nat.lt_of_lt_of_le hb' hf.1) (fun hm=>by have:=List.mem_singleton.1 hm;omega),hf.2 b hb' (by simp)]
  have hllt:=(Array.getElem?_eq_some_iff.1 hl').1
  have hl2:(H'.setIfInBounds (H6.size+3) (Obj.loop { X with state:=.busy }))[H6.size+3]?=some (.loop { X with state:=.busy }):=by simp [hllt]
  have k02:=k0.fr (hfb H' (Obj.loop { X with state:=.busy })) (by simp)
  have DL:=k1.fr (hfb H' (Obj.loop { X with state:=.busy })) (by simp)
  obtain ⟨qV,qf,qB⟩:=keepV (o:=Obj.loop { X with state:=.busy }) pV pf pB pb
  refine ⟨X,hl',hXs,_,_,_,qB.cell 0,?_⟩
  show ac PP kF #[.int .i64 x,.pointer (some ⟨H.size+1,0,none⟩),.pointer (some ⟨H.size+2,0,none⟩)] _ _
  have hle:=hwk'.le hw
  refine St.visitG qV qf pG qB (by omega) fun H3 G' v1 v2 v3 v4 v5 v6=>⟨rfl,?_⟩
  have hGn:∀ b,(b=H6.size∨b=H6.size+1∨b=H6.size+3)->b∉(H.size+1) :: (H.size+2) :: H.size :: G:=by
   intro b hb' hm
   simp only [List.mem_cons] at hm
   rcases hm with h1 | h1 | h1 | h1
   ·omega
   ·omega
   ·omega
   ·rcases pb b h1 with h2 | h2 <;> omega
  have l3:H3[H6.size+3]?=some (.loop { X with state:=.busy }):=(v6.2 _ (by simpa using hllt) (hGn _ (.inr (.inr rfl)))).trans hl2
  have hb3:∀ x∈G',x<H6.size∨H6.size+4<=x:=fun x hx=>by
   rcases v5 x hx with h1 | h1
   ·exact pb x h1
   ·have:H6.size+3<(H'.setIfInBounds (H6.size+3) (Obj.loop { X with state:=.busy })).size:=by simpa using hllt
    omega
  have hX2:({ ({ X with state:=.busy }:Loop) with state:=.ready,pending:=none }:Loop)=X:=by
   cases X;simp only at hXs hXp;subst hXs;subst hXp;rfl
  refine ⟨_,l3,rfl,?_⟩
  rw [hX2]
  obtain ⟨u1,u2,u3⟩:=keepV (o:=Obj.loop X) v1 v2 v4 hb3
  have hl3lt:=(Array.getElem?_eq_some_iff.1 l3).1
  refine ⟨⟨G',?_,u2,v3,u3,hb3⟩,(k02.fr v6 (hGn _ (.inl rfl))).fr (hfb H3 _) (by simp),(DL.fr v6 (hGn _ (.inr (.inl rfl)))).fr (hfb H3 _) (by simp),by simp [hl3lt]⟩
  rw [List.foldl_append];exact u1
 ·rintro H' ⟨⟨G,pV,pf,pG,pB,pb⟩,k0,k1,hl'⟩
  refine ⟨X,hl',by rw [hXs];simp,?_⟩
  rw [hXp]
  exact hK _ (St.other ⟨G,pV,pf,pG,pB⟩ (Fr.setObj _ _ _) (by
   intro b hb'
   have hb':=List.mem_singleton.1 hb'
   subst hb'
   exact ⟨by omega,fun c e f hc=>by rw [hl'] at hc;cases hc⟩))
theorem wu (hR:bQ H hb F r){a2:Option Addr}{l2 c2:Nat}{ws:List Int} (hk:Rd 1 H a2 l2 (aj ws)) (hlk:l2<=1000000)
  (h:∀ a l c G H',bN 1 H' a l c (aj (r.reach ws)) G->Fr [] H H'->(∀ x∈G,H.size<=x)->Q (.tuple #[.slice a l c,.int .i64 0]) H'):ac PP yU #[.pointer (some ⟨hb,0,none⟩),.slice a2 l2 c2] Q H:=by
 have hw:=hR.wf
 have hmi:cp PP 234=some (.int .i64,some (.int .i64 0)):=by kernel_rfl
 have hs1:aH PP 47=some (1,8,some (.int .i64 0)):=by kernel_rfl
 have hl2:l2=ws.length:=by have:=hk.1;simpa [aj] using this.symm
 have hall:r.all.length<=65537:=by
  have:=r.upto_len (r.oops+1).toNat
  have h1:=hw.o1
  exact Nat.le_trans this (by omega)
 apply xg
 unfold Ch A0 iV wW pV lV cS;dsimp only [shH]
 simp only [ao,bz,Array.size_push,Option.isNone_some,cond_false,av,List.setIfInBounds_toArray,List.set_cons_zero,List.set_cons_succ,List.size_toArray,List.length_cons,List.length_nil,List.getElem?_toArray,List.getElem?_cons_succ,List.getElem?_cons_zero,Nat.add_assoc,Nat.reduceAdd]
 have e1:H.size+1=(H.push (.map #[] 0)).size:=by simp
 have e3:H.size+3=(((H.push (.map #[] 0)).push (.cells #[.map (some H.size)] 234)).push (.cells #[.slice none 0 0] 47)).size:=by simp
 have w1:Wr ((H.push (.map #[] 0)).push (.cells #[.map none] 234)) ⟨H.size+1,0,none⟩:=by rw [e1];exact av.2 (by simp)
 have x1:aB ((H.push (.map #[] 0)).push (.cells #[.map none] 234)) ⟨H.size+1,0,none⟩ (.map (some H.size))=(H.push (.map #[] 0)).push (.cells #[.map (some H.size)] 234):=by rw [e1,ao];rfl
 rw [x1]
 refine ⟨w1,?_⟩
 have w2:Wr ((((H.push (.map #[] 0)).push (.cells #[.map (some H.size)] 234)).push (.cells #[.slice none 0 0] 47)).push (.cells #[.nilFunc] 235)) ⟨H.size+3,0,none⟩:=by rw [e3];exact av.2 (by simp)
 have x2:aB ((((H.push (.map #[] 0)).push (.cells #[.map (some H.size)] 234)).push (.cells #[.slice none 0 0] 47)).push (.cells #[.nilFunc] 235)) ⟨H.size+3,0,none⟩ (dg H.size)=(((H.push (.map #[] 0)).push (.cells #[.map (some H.size)] 234)).push (.cells #[.slice none 0 0] 47)).push (.cells #[dg H.size] 235):=by rw [e3,ao];rfl
 refine ⟨w2,?_⟩
 rw [x2]
 have hst0:St H ((((H.push (.map #[] 0)).push (.cells #[.map (some H.size)] 234)).push (.cells #[.slice none 0 0] 47)).push (.cells #[dg H.size] 235)) [] []:=by
  have f0:Fr [] H (H.push (.map #[] 0)):=Fr.push _ _ _
  refine ⟨[],{ b1:=?_,b2:=⟨none,0,0,?_,bN.nil 1 _⟩,mp:=?_,n1:=by omega,n2:=by omega,n3:=by omega,n4:=by simp },f0.more.more.more,by simp,?_⟩
  ·have:=((aV.new (H.push (.map #[] 0)) #[.map (some H.size)] 234).push (.cells #[.slice none 0 0] 47)).push (.cells #[dg H.size] 235)
   simpa using this
  ·have:=(aV.new ((H.push (.map #[] 0)).push (.cells #[.map (some H.size)] 234)) #[.slice none 0 0] 47).push (.cells #[dg H.size] 235)
   simpa using this
  ·exact (bT.new H).fr (G:=[]) ((Fr.push [] _ _).more.more) (by simp)
  ·have:=aV.new (((H.push (.map #[] 0)).push (.cells #[.map (some H.size)] 234)).push (.cells #[.slice none 0 0] 47)) #[dg H.size] 235
   simpa using this
 generalize ((((H.push (.map #[] 0)).push (.cells #[.map (some H.size)] 234)).push (.cells #[.slice none 0 0] 47)).push (.cells #[dg H.size] 235))=H0 at hst0 ⊢
 have hdn:co F []:=co.nil_right F
 have hRof:∀ {H2:ae}{S T:List Int},St H H2 S T->bQ H2 hb F r:=fun hs=>hR.fr hs.fr hdn (by simp)
 refine ⟨fun w H2=>∃(i:Nat) (S:List Int),w=[.int .i64 i]∧i<=l2∧St H H2 S S∧Walk r ws S S∧∀ w∈ws.take i,aR r w≠0->aR r w∈S,fun w _=>match w with
  | [.int _ i]=>(l2-i).toNat
  | _=>0,⟨0,[],rfl,Nat.zero_le _,hst0,⟨by simp,by simp,by simp,by simp⟩,by simp⟩,?_⟩
 rintro w4 H2 ⟨i,S,rfl,hi,hst,hwk,hrt⟩ g5
 refine ⟨_,rfl,?_⟩
 rw [af]
 refine aA (fun hlt=>?_) fun hlt=>?_
 ·
  have hlt':i<ws.length:=by omega
  obtain ⟨p,rfl,hcell,hlt2⟩:=(hk.fr' hst.fr (by simp)).int (i:=(i:Int)) (by omega) hlt
  rw [Int.toNat_natCast] at hcell hlt2
  have hx:ws.getD i 0=ws[i]:=by simp [hlt2]
  rw [hx] at hcell
  have htk:ws.take (i+1)=ws.take i++[ws[i]]:=by rw [List.take_add_one];simp [hlt2]
  have e:IntKind.wrap .i64 ((i:Int)+1)=((i+1:Nat):Int):=by rw [ah (by omega) (by omega)];omega
  have hmu:((l2:Int)-((i+1:Nat):Int)).toNat<((l2:Int)-(i:Int)).toNat:=by omega
  refine ⟨⟨by omega,hlt⟩,_,rfl,_,by rw [Int.toNat_natCast,Nat.mul_one];exact hcell,?_⟩
  rw [e]
  refine mR (hRof hst) (fun hne=>⟨_,_,rfl,?_⟩) fun he x=>⟨_,_,rfl,?_⟩
  ·simp only [cond_true]
   refine ⟨_,_,_,hst.cell,?_⟩
   have hle:=hwk.le hw
   refine hst.visit (by omega) fun H' hst'=>⟨rfl,⟨i+1,(cN (S,S) (aR r ws[i])).1,rfl,by omega,?_,?_,?_⟩,hmu⟩
   ·have:(cN (S,S) (aR r ws[i])).2=(cN (S,S) (aR r ws[i])).1:=by unfold cN;split <;> rfl
    rw [this] at hst';exact hst'
   ·have:=hwk.fold (xs:=[aR r ws[i]]) (by intro x hx;simp only [List.mem_singleton] at hx;subst hx;exact .root (by simp) hne)
    simp only [List.foldl_cons,List.foldl_nil] at this
    have e2:(cN (S,S) (aR r ws[i])).2=(cN (S,S) (aR r ws[i])).1:=by unfold cN;split <;> rfl
    rw [e2] at this;exact this
   ·intro w hw' hne'
    obtain ⟨nw,a1,_,a3,_⟩:=lT (S,S) (aR r ws[i])
    rw [htk] at hw'
    rcases List.mem_append.1 hw' with hw' | hw'
    ·rw [a1];exact List.mem_append_left _ (hrt w hw' hne')
    ·simp only [List.mem_singleton] at hw';subst hw';exact a3
  ·simp only [cond_false]
   refine ⟨⟨i+1,S,rfl,by omega,hst,hwk,fun w hw' hne'=>?_⟩,hmu⟩
   rw [htk] at hw'
   rcases List.mem_append.1 hw' with hw' | hw'
   ·exact hrt w hw' hne'
   ·simp only [List.mem_singleton] at hw';subst hw';exact absurd he hne'
 ·
  have hil:i=ws.length:=by omega
  rw [hil,List.take_length] at hrt
  refine ⟨fun w H5=>w=[]∧∃ S T,St H H5 S T∧Walk r ws S T∧Bo r S T∧∀ w∈ws,aR r w≠0->aR r w∈S,fun _ H5=>(r.all.length-pX H5 H.size)+jX H5 (H.size+2),⟨rfl,S,S,hst,hwk,fun k h1 h2=>absurd h1 h2,hrt⟩,?_⟩
  clear hst hwk hrt
  rintro w15 H5 ⟨rfl,S,T,hst,hwk,hdo,hrt⟩ g16
  obtain ⟨hml,hsl⟩:=hst.lens
  have hlens:=hwk.le hw
  have hst1:=hst
  obtain ⟨G,hV,hf0,hG,hvb⟩:=hst1
  obtain ⟨a,l,c,hBt,hO⟩:=hV.b2
  have hl:l=T.length:=by have:=hO.len;simpa [aj] using this.symm
  have ct:aa H5 ⟨H.size+2,0,none⟩=some (.slice a l c):=hBt.cell 0
  refine ⟨rfl,_,_,_,ct,?_⟩
  rw [af]
  refine aA (fun hpos=>?_) fun hpos=>?_
  ·
   have hlp:0<T.length:=by omega
   obtain ⟨T0,k,rfl⟩:∃ T0 k,T=T0++[k]:=by
    rcases List.eq_nil_or_concat T with h1 | ⟨m,x,h1⟩
    ·rw [h1] at hlp;simp at hlp
    ·exact ⟨m,x,by simpa using h1⟩
   have hlT:l=T0.length+1:=by simpa using hl
   have e2:IntKind.wrap .i64 ((l:Int)-1)=(T0.length:Int):=by rw [ah (by omega) (by omega)];omega
   have hTb:T0.length+1<=r.all.length:=by have:=hlens.2;simpa using this
   have hlec:=hO.2.1
   refine ⟨_,_,_,ct,_,_,_,ct,?_⟩
   rw [e2]
   obtain ⟨p,rfl,hcell,hlt2⟩:=hO.rd.int (i:=(T0.length:Int)) (by omega) (by omega)
   rw [Int.toNat_natCast] at hcell
   have hx:(T0++[k]).getD T0.length 0=k:=by simp
   rw [hx] at hcell
   refine ⟨⟨by omega,by omega⟩,_,rfl,k,by rw [Int.toNat_natCast,Nat.mul_one];exact hcell,_,_,_,ct,_,_,_,ct,?_⟩
   rw [e2]
   rw [Int.toNat_natCast]
   refine ⟨⟨by omega,by omega⟩,hBt.wr (by simp),?_⟩
   have hst6:St H (aB H5 ⟨H.size+2,0,none⟩ (.slice (some p) T0.length c)) S T0:=by
    have hft:Fr [H.size+2] H5 (aB H5 ⟨H.size+2,0,none⟩ (.slice (some p) T0.length c)):=Fr.set (by simp)
    have hn4:=hV.n4
    refine ⟨G,{ b1:=hV.b1.fr hft (by simp),b2:=⟨some p,T0.length,c,hBt.set 0 _,?_⟩,mp:=hV.mp.fr hft (by simp),n1:=hV.n1,n2:=hV.n2,n3:=hV.n3,n4:=hV.n4 },?_,hG,hvb.fr hft (by simp)⟩
    ·have h1:=hO.fr hft (fun x hx hm=>(hn4 x hx).2.1 (by simpa using hm))
     refine ⟨by simp [aj],by omega,?_⟩
     rcases h1.2.2 with ⟨h2,_,_⟩ | ⟨b',cs,h2,h3,h4,h5,h6⟩
     ·cases h2
     ·refine .inr ⟨b',cs,h2,h3,h4,h5,?_⟩
      have h7:(cs.toList.take (l*1)).take T0.length=(aj (T0++[k])).take T0.length:=by rw [h6]
      have h8:(aj T0).take T0.length=aj T0:=List.take_of_length_le (by simp [aj])
      have h9:min T0.length (l*1)=T0.length:=by omega
      rw [List.take_take,bO,List.take_append_of_le_length (by simp [aj]),h8,h9] at h7
      rw [←h7,Nat.mul_one]
    ·refine ⟨Nat.le_trans hf0.1 hft.1,fun b hb _=>?_⟩
     rw [hft.2 b (Nat.lt_of_lt_of_le hb hf0.1) (by simp;omega),hf0.2 b hb (by simp)]
   have hdd:∀ H6,H6=aB H5 ⟨H.size+2,0,none⟩ (.slice (some p) T0.length c)->H6=aB H5 ⟨H.size+2,0,none⟩ (.slice (some p) T0.length c):=fun _ h=>h
   generalize hH6:aB H5 ⟨H.size+2,0,none⟩ (.slice (some p) T0.length c)=H6 at hst6 ⊢
   clear hdd
   have hkS:k∈S:=hwk.sub k (by simp)
   have hkR:Reaches r ws k:=hwk.sound k hkS
   obtain ⟨o,hoo⟩:∃ o,al r.objs k=some o:=by
    cases ho:al r.objs k with
    | none=>exact absurd ho hkR.there
    | some o=>exact ⟨o,rfl⟩
   refine yZ (H:=H6) (hb:=hb) ⟨_,_,_,rfl,fun fn26=>?_⟩
   have hwk6:Walk r ws S T0:={ hwk with ndT:=hwk.ndT.sublist (by simp),sub:=fun x hx=>hwk.sub x (by simp [hx]) }
   simp only [Array.size_push,Nat.add_assoc,Nat.reduceAdd]
   refine Fh (H:=H) (ws:=ws) hR hst6 hwk6 hoo hkR hall (fun hl hq=>ft hl hq) rfl rfl fun H8 hst8=>?_
   have hnx:∀ x∈gY r o,Reaches r ws x:=jB hoo hkR
   obtain ⟨nw,b1,b2,b3,b4,b5⟩:=lO (S,T0) (gY r o)
   simp only at b1 b2
   have hwk8:=hwk6.fold hnx
   obtain ⟨hm8,hs8⟩:=hst8.lens
   have hle8:=hwk8.le hw
   refine ⟨⟨trivial,_,_,hst8,hwk8,fun j hj1 hj2 o' ho' x hx=>?_,fun w hw' hne=>?_⟩,?_⟩
   ·by_cases hjk:j=k
    ·subst hjk
     rw [hoo] at ho';cases ho'
     exact b3 x hx
    ·rw [b2] at hj2
     rw [b1] at hj1 ⊢
     have hjS:j∈S:=by
      rcases List.mem_append.1 hj1 with h1 | h1
      ·exact h1
      ·exact absurd (List.mem_append_right T0 h1) hj2
     refine List.mem_append_left _ (hdo j hjS (fun hm=>?_) o' ho' x hx)
     rcases List.mem_append.1 hm with h1 | h1
     ·exact hj2 (List.mem_append_left _ h1)
     ·simp only [List.mem_singleton] at h1;exact hjk h1
   ·rw [b1];exact List.mem_append_left _ (hrt w hw' hne)
   ·rw [hm8,hs8,hml,hsl]
    have l1:=congrArg List.length b1
    have l2:=congrArg List.length b2
    simp only [List.length_append,List.length_cons,List.length_nil] at l1 l2 ⊢
    omega
  ·
   have hT0:T=[]:=List.eq_nil_of_length_eq_zero (by omega)
   subst hT0
   have hcl:=hwk.closed hw hdo hrt
   have cm:aa H5 ⟨H.size+1,0,none⟩=some (.map (some H.size)):=hV.b1.cell 0
   refine ⟨_,cm,o8 hmi hV.mp ⟨_,rfl,?_⟩⟩
   have hSl:(dl S).length=S.length:=by simp [dl]
   have hSle:=hlens.1
   refine cn hs1 rfl (Int.le_refl _) (by omega) (by omega) (by decide) fun e=>⟨_,_,_,rfl,?_⟩
   have hfp:Fr [] H5 (H5.push (.cells (Array.replicate ((dl S).length:Int).toNat (.int .i64 0)) e)):=Fr.push _ _ _
   refine ⟨_,(show _=some (Value.map (some H.size)) from (hV.b1.fr hfp (by simp)).cell 0),?_⟩
   refine ni hmi (hV.mp.fr hfp (by simp)) fun H11 hit hf11=>?_
   have hlt5:H.size+3<H5.size:=hvb.lt
   refine ⟨fun w HH=>∃(a:Option Addr) (l c:Nat) (G':az) (done:List (Key × Value)),w=[.slice a l c]∧dJ HH (H5.size+1) H.size (dl S) done∧bN 1 HH a l c (aj (dw done)) G'∧Fr [] H HH∧(∀ x∈G',H5.size<=x∧x≠H5.size+1)∧G'≠[]∧H5.size+2<=HH.size,fun w _=>match w with
    | [.slice _ l _]=>S.length-l
    | _=>0,⟨_,_,_,[H5.size],[],rfl,?_,?_,?_,?_,by simp,?_⟩,?_⟩
   ·simpa using hit
   ·exact (bN.newMem H5 ((dl S).length:Int).toNat e).fr hf11 (by simp)
   ·exact (hf0.trans hfp).trans hf11
   ·simp
   ·have:=hf11.1;simp only [Array.size_push] at this
    have h2:=hit
    obtain ⟨_,_,_,_,_,_,_,_,h3,_⟩:=h2
    have:=(Array.getElem?_eq_some_iff.1 h3).1
    simp only [Array.size_push] at this
    omega
   ·rintro w HH ⟨a1,l1,c1,G1,done,rfl,hit1,ho1,hf1,hG1,hne1,hsz1⟩ g
    refine ⟨_,_,_,rfl,?_⟩
    have hl1:l1=done.length:=by have:=ho1.len;simpa [aj,dw] using this.symm
    have hle1:=hit1.len
    rw [hSl] at hle1
    simp only [Array.size_push]
    refine nN hit1 (fun hperm=>.inl ⟨rfl,?_⟩) fun p H12 hp hit2 hf2=>.inr ⟨_,_,rfl,?_⟩
    ·
     have hpk:(dw done).Perm S:=by
      have:=List.Perm.map (fun p:Key × Value=>(dw [p]).headD 0) hperm
      have e:∀ l:List (Key × Value),l.map (fun p=>(dw [p]).headD 0)=dw l:=fun l=>by unfold dw;apply List.map_congr_left;intro p _;simp
      rw [e,e,nH] at this;exact this
     rcases ho1.2.2 with ⟨_,_,h0⟩ | ⟨b,cs,h1,h2,_⟩
     ·exact absurd h0 hne1
     ·subst h1;subst h2
      refine kA Tryz.sortI ⟨_,Tryz.func232,rfl⟩ ho1 (by omega) fun H13 ho13 hf13=>⟨rfl,fun H14 hsh=>?_⟩
      rw [mE hw hwk.nd (fun k=>hcl.iff) hpk] at ho13
      have hb:=hG1 b (by simp)
      have hf14:Fr [] H H13:=⟨Nat.le_trans hf1.1 hf13.1,fun x hx _=>by
       rw [hf13.2 x (Nat.lt_of_lt_of_le hx hf1.1) (fun hm=>by have:=List.mem_singleton.1 hm;have:=hf0.1;omega),hf1.2 x hx (by simp)]⟩
      exact h _ _ _ [b] H14 (fR.own hsh ho13) (fR.fr hsh hf14 rfl) (fun x hx=>by have:=List.mem_singleton.1 hx;have:=hf0.1;omega)
    ·obtain ⟨n,hn⟩:∃ n,p.1=.int n:=by
      simp only [dl,List.mem_map] at hp
      obtain ⟨k,_,rfl⟩:=hp
      exact ⟨k,rfl⟩
     refine mi hit2 ⟨n,p.2,by rw [hn];rfl,?_⟩
     have hbG:(H5.size+1)∉G1:=fun hm=>(hG1 _ hm).2 rfl
     have ho2:bN 1 H12 a1 l1 c1 (aj (dw done)) G1:=ho1.fr hf2 (fun x hx hm=>(hG1 x hx).2 (by simpa using hm))
     have hf12:Fr [] H H12:=⟨Nat.le_trans hf1.1 hf2.1,fun x hx _=>by
      rw [hf2.2 x (Nat.lt_of_lt_of_le hx hf1.1) (fun hm=>by have:=List.mem_singleton.1 hm;have:=hf0.1;omega),hf1.2 x hx (by simp)]⟩
     have hle2:=hit2.len
     rw [hSl,List.length_append] at hle2
     simp only [List.length_cons,List.length_nil] at hle2
     refine bI hs1 rfl (by kernel_rfl) ho2 rfl (by simp [dB]) (by omega) (by decide) (by decide) fun a' c' G2 H3 g1 g2 g3=>⟨_,_,_,rfl,⟨a',l1+1,c',G2,done++[p],rfl,?_,?_,?_,?_,?_,?_⟩,?_⟩
     ·exact hit2.fr g2.1 hbG (fun hm=>by have:=(hG1 _ hm).1;have:=hf0.1;omega)
     ·have:dw (done++[p])=dw done++[n]:=by simp [dw,hn]
      rw [this,bO];exact g1
     ·refine ⟨Nat.le_trans hf12.1 g2.1.1,fun x hx _=>?_⟩
      rw [g2.1.2 x (Nat.lt_of_lt_of_le hx hf12.1) (fun hm=>by have:=(hG1 _ hm).1;have:=hf0.1;omega),hf12.2 x hx (by simp)]
     ·intro x hx
      rcases g2.2 x hx with h4 | h4
      ·exact hG1 x h4
      ·have:=hf2.1;omega
     ·intro h0
      subst h0
      rcases g1.2.2 with ⟨_,h1,_⟩ | ⟨_,_,_,h1,_⟩
      ·have:=g1.2.1;omega
      ·cases h1
     ·have:=hf2.1;have:=g2.1.1;omega
     ·omega
end
end Go.Proofs.YtgcoppcogllpbaaGreatDoor
namespace Kw
open Go
structure SP where
 h:RH
 king:Int
 stack:List Int
 op:Bool
 born:Int
 turn:Int
 mark:Int
structure WFS (s:SP):Prop where
 h:WFH s.h
 king0:0<=s.king
 king1:s.king<=65536
 many:s.stack.length<=65536
 words:∀ w∈s.stack,cW w
def SP.roots (s:SP):List Int:=(4*s.king) :: s.stack
noncomputable def SP.reach (s:SP):List Int:=s.h.reach s.roots
noncomputable def SP.collect (s:SP):(Int × Int × Int) × SP:=if s.op then ((0,0,25),s) else ((s.h.keep s.reach).1,{ s with h:=(s.h.keep s.reach).2 })
noncomputable def SP.alloc (s:SP) (cls n fmt:Int):(Int × Int) × SP :=
 if (s.h.alloc cls n fmt).1.2≠23∨s.op=true then ((4*(s.h.alloc cls n fmt).1.1,(s.h.alloc cls n fmt).1.2),{ s with h:=(s.h.alloc cls n fmt).2 })
 else ((4*((s.h.keep s.reach).2.alloc cls n fmt).1.1,((s.h.keep s.reach).2.alloc cls n fmt).1.2),{ s with h:=((s.h.keep s.reach).2.alloc cls n fmt).2 })
def SP.keepW (s:SP) (ws:List Int):Int × SP:=if ∃ w∈ws,¬ cW w then (10,s) else if 65536<s.stack.length+ws.length then (22,s) else (0,{ s with stack:=s.stack++ws })
def SP.drop (s:SP) (n:Int):Int × SP:=if n<0∨(s.stack.length:Int)<n then (28,s) else (0,{ s with stack:=s.stack.take (s.stack.length-n.toNat) })
def SP.crown (s:SP) (k:Int):Int × SP:=if (s.h.clsAt k).2≠0 then ((s.h.clsAt k).2,s) else (0,{ s with king:=k })
def SP.setRoot (s:SP) (i w:Int):Int × SP:=((s.h.put s.king i w).1,{ s with h:=(s.h.put s.king i w).2 })
theorem qb {h:RH}{cls n fmt:Int} (he:(h.alloc cls n fmt).1.2=23):(h.alloc cls n fmt).2=h:=by
 unfold RH.alloc at *
 split
 ·rfl
 split
 ·rfl
 split
 ·rfl
 rename_i h1 h2 h3
 rw [if_neg h1,if_neg h2,if_neg h3] at he
 split
 ·rename_i h4;rw [if_pos h4] at he;simp at he
 ·rename_i h4;rw [if_neg h4] at he;simp at he
end Kw
namespace Go.Proofs.YtgcoppcogllpbaaGreatDoor
open Kw
section
variable {H:ae}{Q:QT}
theorem oc {a:Option Addr}{l c:Nat}{ws:List Int}{f:Nat}{p:Int->Bool} (hk:Rd 1 H a l (aj ws)) (hlk:l<=1000000000)
  (hf:∀ x Q',Q' (.bool (p x)) H->ac PP f ((#[]++#[.int .i64 x])++#[]) Q' H) (h1:(∃ w∈ws,p w=true)->∀ n:Int,0<=n->Q (.int .i64 n) H) (h2:(∀ w∈ws,p w=false)->Q (.int .i64 (-1)) H):ac PP zg #[.slice a l c,.func (.func f) #[] #[]] Q H:=by
 have hl:l=ws.length:=by have:=hk.1;simpa [aj] using this.symm
 apply wv
 unfold CC iV wW
 refine ⟨fun w H'=>H'=H∧∃ i:Nat,w=[.int .i64 i]∧i<=l∧∀ w∈ws.take i,p w=false,fun w _=>match w with
  | [.int _ i]=>(l-i).toNat
  | _=>0,⟨rfl,0,rfl,Nat.zero_le _,by simp⟩,?_⟩
 rintro w H1 ⟨rfl,i,rfl,hi,hall⟩ _
 refine ⟨_,rfl,?_⟩
 rw [af]
 refine aA (fun hlt=>?_) fun hlt=>?_
 ·obtain ⟨q,rfl,hcell,hlt2⟩:=hk.int (i:=(i:Int)) (by omega) hlt
  rw [Int.toNat_natCast] at hcell hlt2
  have hx:ws.getD i 0=ws[i]:=by simp [hlt2]
  rw [hx] at hcell
  have htk:ws.take (i+1)=ws.take i++[ws[i]]:=by rw [List.take_add_one];simp [hlt2]
  have e:IntKind.wrap .i64 ((i:Int)+1)=((i+1:Nat):Int):=by rw [ah (by omega) (by omega)];omega
  refine ⟨⟨by omega,hlt⟩,_,rfl,_,by rw [Int.toNat_natCast,Nat.mul_one];exact hcell,hf _ _ ⟨_,rfl,?_⟩⟩
  cases hp:p ws[i] with
  | true=>exact h1 ⟨_,List.getElem_mem hlt2,hp⟩ _ (by omega)
  | false =>
   simp only [cond_false]
   rw [e]
   refine ⟨⟨trivial,i+1,rfl,by omega,fun w hw=>?_⟩,by simp;omega⟩
   rw [htk] at hw
   rcases List.mem_append.1 hw with hw | hw
   ·exact hall w hw
   ·simp only [List.mem_singleton] at hw;rw [hw];exact hp
 ·have:i=ws.length:=by omega
  rw [this,List.take_length] at hall
  exact h2 hall
theorem vz {w:Int} (hk:bY H) (h:Q (.bool (!decide (cW w))) H):ac PP pd #[.int .i64 w] Q H:=by
 apply vy
 unfold BS iV
 refine ie hk ⟨_,rfl,?_⟩
 have:(bg w == 0)=!decide (cW w):=by rw [aU];unfold cW;by_cases h:bg w=0 <;> simp [h]
 rw [this];exact h
theorem lh {a:Option Addr}{l c:Nat}{ws:List Int} (hK:bY H) (hk:Rd 1 H a l (aj ws)) (hlk:l<=1000000000) (h:Q (.bool (decide (∃ w∈ws,¬ cW w))) H):ac PP Av #[.slice a l c,.func (.func pd) #[] #[]] Q H:=by
 apply vC
 unfold A8 iV lV
 refine oc (p:=fun w=>!decide (cW w)) hk hlk (fun x Q' hq=>?_) (fun he n hn=>⟨_,rfl,?_⟩) fun hall=>⟨_,rfl,?_⟩
 ·show ac PP pd #[.int .i64 x] Q' H
  exact vz hK hq
 ·have:(∃ w∈ws,¬ cW w):=by obtain ⟨w,h1,h2⟩:=he;exact ⟨w,h1,by simpa using h2⟩
  rw [decide_eq_true this] at h
  rw [decide_eq_true (show n ≥ 0 from hn)];exact h
 ·have:¬ (∃ w∈ws,¬ cW w):=fun ⟨w,h1,h2⟩=>by have:=hall w h1;simp at this;exact h2 this
  rw [decide_eq_false this] at h
  exact h
theorem tC {a:Option Addr}{l c:Nat}{ws:List Int} (hk:Rd 1 H a l (aj ws)) (hlk:l<=1000000000) (h:∀ a' c' F H',bN 1 H' a' l c' (aj ws) F->Fr [] H H'->(∀ x∈F,H.size<=x)->Q (.slice a' l c') H'):ac PP zn #[.slice a l c] Q H:=by
 have hs1:aH PP 30=some (1,8,some (.int .i64 0)):=by kernel_rfl
 apply wD
 unfold CN A0 lV
 cases a with
 | none =>
  have h0:=hk.2.1 rfl
  subst h0
  have:ws=[]:=List.eq_nil_of_length_eq_zero (by have:=hk.1;simpa [aj] using this)
  subst this
  exact h none 0 [] H (bN.nil 1 H) (Fr.refl _ _) (by simp)
 | some p =>
  simp only [Option.isNone_some,cond_false]
  have hown:bN 1 (H.push (.cells #[] 24)) (some ⟨H.size,0,none⟩) 0 0 (aj []) [H.size]:=⟨by simp [aj],Nat.le_refl _,.inr ⟨H.size,_,rfl,rfl,aV.new _ _ _,by simp,by simp [aj]⟩⟩
  refine cR hs1 rfl (by kernel_rfl) hown (hk.fr' (Fr.push [] _ _) (by simp)) fe (by omega) (by decide) (by decide) fun a' c' F' H' g1 g2 g3=>⟨_,_,_,rfl,?_⟩
  have hfr:=Up.fresh (H:=H) (Fr.push [] H _) g2 (by simp)
  have:=h a' c' F' H' (by simpa [aj] using g1) hfr.1 hfr.2
  simpa using this
end
def eA (H:ae) (b:Nat) (F:az) (s:SP):Prop:=∃ hb a l c F1 F2 po b5 b6 b7,F=b :: (F1++F2)∧b∉F1∧b∉F2∧co F1 F2∧b≠ap∧ap∉F2 ∧
 aV H b #[.pointer (some ⟨hb,0,none⟩),.int .i64 s.king,.slice a l c,.bool s.op,.pointer po,.int .i64 b5,.int .i64 b6,.int .i64 b7]∧bQ H hb F1 s.h∧bN 1 H a l c (aj s.stack) F2∧WFS s ∧
 (s.op=true->po=some ⟨hb,0,none⟩∧b5=s.born∧b6=s.turn∧b7=s.mark)
theorem eA.wf {H:ae}{b:Nat}{F:az}{s:SP} (h:eA H b F s):WFS s:=by
 obtain ⟨_,_,_,_,_,_,_,_,_,_,_,_,_,_,_,_,_,_,_,h,_⟩:=h;exact h
theorem eA.lt {H:ae}{b:Nat}{F:az}{s:SP} (h:eA H b F s):∀ x∈F,x<H.size:=by
 obtain ⟨hb,a,l,c,F1,F2,po,b5,b6,b7,rfl,h1,h2,h3,k1,k2,hB,hR,hO,_⟩:=h
 intro x hx
 rcases List.mem_cons.1 hx with rfl | hx
 ·exact hB.lt
 ·rcases List.mem_append.1 hx with hx | hx
  ·exact hR.lt x hx
  ·exact hO.lt x hx
theorem eA.kinds {H:ae}{b:Nat}{F:az}{s:SP} (h:eA H b F s):bY H:=by
 obtain ⟨_,_,_,_,_,_,_,_,_,_,_,_,_,_,_,_,_,hR,_⟩:=h;exact hR.kinds
theorem eA.gk {H:ae}{b:Nat}{F:az}{s:SP} (h:eA H b F s):ap∉F:=by
 obtain ⟨hb,a,l,c,F1,F2,po,b5,b6,b7,rfl,h1,h2,h3,k1,k2,hB,hR,hO,_⟩:=h
 simp only [List.mem_cons,List.mem_append,not_or]
 exact ⟨fun e=>k1 e.symm,hR.gk,k2⟩
theorem eA.bmem {H:ae}{b:Nat}{F:az}{s:SP} (h:eA H b F s):b∈F:=by obtain ⟨_,_,_,_,_,_,_,_,_,_,rfl,_⟩:=h;simp
theorem eA.fr {H H':ae}{b:Nat}{F G:az}{s:SP} (h:eA H b F s) (hf:Fr G H H') (hd:co F G) (hg:ap∉G):eA H' b F s:=by
 obtain ⟨hb,a,l,c,F1,F2,po,b5,b6,b7,rfl,h1,h2,h3,k1,k2,hB,hR,hO,hw,ho⟩:=h
 exact ⟨hb,a,l,c,F1,F2,po,b5,b6,b7,rfl,h1,h2,h3,k1,k2,hB.fr hf (hd b (by simp)),hR.fr hf (hd.mono (fun x hx=>by simp [hx]) fun _ h=>h) hg,hO.fr hf (hd.mono (fun x hx=>by simp [hx]) fun _ h=>h),hw,ho⟩
theorem bY.lt {H:ae} (h:bY H):ap<H.size:=by
 have h0:=h.1
 unfold aa at h0
 rcases Nat.lt_or_ge ap H.size with h1 | h1
 ·exact h1
 ·simp only [Array.getElem?_eq_none h1] at h0;cases h0
section
variable {H:ae}{b:Nat}{F F':az}{s:SP}{Q:QT}
theorem dU (hS:eA H b F s) (h:Q (.bool false) H):ac PP A5 #[.pointer (some ⟨b,0,none⟩)] Q H:=by
 obtain ⟨hb,a,l,c,F1,F2,po,b5,b6,b7,rfl,h1,h2,h3,k1,k2,hB,hR,hO,hw,ho⟩:=hS
 have hc0:aa H ⟨b,0,none⟩=some (.pointer (some ⟨hb,0,none⟩)):=hB.cell 0
 apply yD
 unfold EY pV
 simp only [Option.isNone_some,cond_false]
 exact ⟨_,rfl,_,hc0,h⟩
theorem wQ {words oops:Int} (hk:bY H) (hbad:¬ (0<=words∧words<=1048576∧0<=oops∧oops<=65536)->Q (.tuple #[.pointer none,.int .i64 1]) H)
  (h:(0<=words∧words<=1048576∧0<=oops∧oops<=65536)->∀ b F H',eA H' b F ⟨⟨words,oops,0,0,0,[]⟩,0,[],false,0,0,0⟩->Fr [] H H'->(∀ x∈F,H.size<=x)->Q (.tuple #[.pointer (some ⟨b,0,none⟩),.int .i64 0]) H'):ac PP Cl #[.int .i64 words,.int .i64 oops] Q H:=by
 have hgl:=hk.lt
 apply zW
 unfold ES A0 iV pV lV
 refine rk hk (fun hb=>⟨_,_,rfl,hbad hb⟩) fun hg hb F H1 hR hf hF=>⟨_,_,rfl,?_⟩
 simp only [show ((0:Int) != 0)=false from rfl,cond_false]
 have hlt:=hR.lt
 have hle:=hf.1
 refine h hg H1.size (H1.size :: (F++[])) _ ⟨hb,none,0,0,F,[],none,0,0,0,rfl,fun hx=>?_,by simp,co.nil_right _,by omega,by simp,aV.new _ _ _,hR.fr (Fr.push [] _ _) (co.nil_right _) (by simp),bN.nil 1 _,?_,by simp⟩ hf.more ?_
 ·have:=hlt _ hx;omega
 ·exact ⟨hR.wf,by simp,by simp,by simp,by simp⟩
 ·intro x hx
  simp only [List.append_nil,List.mem_cons] at hx
  rcases hx with rfl | hx
  ·exact hle
  ·exact hF x hx
theorem eA.upd (hS:eA H b F s):∃ hb F1,bQ H hb F1 s.h∧aa H ⟨b,0,none⟩=some (.pointer (some ⟨hb,0,none⟩))∧aa H ⟨b,3,none⟩=some (.bool s.op)∧aa H ⟨b,1,none⟩=some (.int .i64 s.king)∧(∀ x∈F1,x∈F)∧b∉F1 ∧
  ∀ H' r',bQ H' hb F1 r'->Fr F1 H H'->eA H' b F { s with h:=r' }:=by
 obtain ⟨hb,a,l,c,F1,F2,po,b5,b6,b7,rfl,h1,h2,h3,k1,k2,hB,hR,hO,hw,ho⟩:=hS
 refine ⟨hb,F1,hR,hB.cell 0,hB.cell 3,hB.cell 1,fun x hx=>by simp [hx],h1,fun H' r' hR' hf=>?_⟩
 exact ⟨hb,a,l,c,F1,F2,po,b5,b6,b7,rfl,h1,h2,h3,k1,k2,hB.fr hf h1,hR',hO.fr hf h3.symm,{ hw with h:=hR'.wf },ho⟩
theorem cB (hS:eA H b F s) (h:∀ hb F1,bQ H hb F1 s.h->(∀ x∈F1,x∈F)->(∀ H' r',bQ H' hb F1 r'->Fr F1 H H'->eA H' b F { s with h:=r' })->Q (.pointer (some ⟨hb,0,none⟩)) H):ac PP qL #[.pointer (some ⟨b,0,none⟩)] Q H:=by
 obtain ⟨hb,F1,hR,c0,c3,c1,hsub,hnb,hup⟩:=hS.upd
 apply ur
 unfold DQ pV
 refine dU hS ⟨_,rfl,?_⟩
 simp only [cond_false]
 exact ⟨_,rfl,_,c0,h hb F1 hR hsub hup⟩
theorem rt (hS:eA H b F s){k:Int} (h:∀ H',eA H' b F (s.crown k).2->Fr F H H'->Q (.int .i64 (s.crown k).1) H'):ac PP BE #[.pointer (some ⟨b,0,none⟩),.int .i64 k] Q H:=by
 have hS0:=hS
 apply zh
 unfold Ev iV pV cS
 refine dU hS ⟨_,rfl,?_⟩
 simp only [cond_false]
 obtain ⟨hb,a,l,c,F1,F2,po,b5,b6,b7,rfl,h1,h2,h3,k1,k2,hB,hR,hO,hw,ho⟩:=hS
 have hc0:aa H ⟨b,0,none⟩=some (.pointer (some ⟨hb,0,none⟩)):=hB.cell 0
 refine ⟨_,rfl,_,hc0,iy hR ⟨_,_,rfl,?_⟩⟩
 unfold SP.crown at h
 rw [aX,af]
 refine aA (fun he=>?_) fun he=>?_
 ·rw [if_pos he] at h
  exact h H hS0 (Fr.refl _ _)
 ·rw [if_neg he] at h
  refine ⟨_,rfl,hB.wr (by simp),h _ ⟨hb,a,l,c,F1,F2,po,b5,b6,b7,rfl,h1,h2,h3,k1,k2,hB.set 1 (.int .i64 k),hR.fr (Fr.set (F:=[b]) (by simp)) (fun x hx hn=>h1 (by simp only [List.mem_singleton] at hn;rw [←hn];exact hx)) (by simpa using Ne.symm k1),hO.fr (Fr.set (F:=[b]) (by simp)) (fun x hx hn=>h2 (by simp only [List.mem_singleton] at hn;rw [←hn];exact hx)),?_,ho⟩ (Fr.set (by simp))⟩
  have:∃ o,al s.h.objs k=some o:=by
   unfold RH.clsAt at he
   cases ho:al s.h.objs k with
   | none=>rw [ho] at he;simp at he
   | some o=>exact ⟨o,rfl⟩
  obtain ⟨o,hoo⟩:=this
  have hg:=hw.h.objs.good o (au hoo).1
  have g1:=hg.oop1
  have g2:=hg.oop2
  have g3:=hw.h.o1
  rw [(au hoo).2] at g1 g2
  exact { hw with king0:=by simp;omega,king1:=by simp;omega }
theorem nP (hS:eA H b F s){i w:Int} (hf:∀ o,al s.h.objs s.king=some o->o.fmt=0) (h:∀ H',eA H' b F (s.setRoot i w).2->Fr F H H'->Q (.int .i64 (s.setRoot i w).1) H'):ac PP zv #[.pointer (some ⟨b,0,none⟩),.int .i64 i,.int .i64 w] Q H:=by
 obtain ⟨hb,F1,hR,c0,c3,c1,hsub,hnb,hup⟩:=hS.upd
 apply wL
 unfold BV iV pV cS
 refine dU hS ⟨_,rfl,?_⟩
 simp only [cond_false]
 refine ⟨_,rfl,_,c0,_,rfl,_,by rw [ak];exact c1,?_⟩
 refine kl hR hf fun H' hR' hf'=>⟨_,rfl,trivial,?_⟩
 exact h H' (hup H' _ hR' hf') (hf'.mono hsub)
theorem rH (hS:eA H b F s) (h:∀ a l c H' ws,Rd 1 H' a l (aj ws)->l<=65537->s.h.reach ws=s.reach->Fr [] H H'->Q (.slice a l c) H'):ac PP B0 #[.pointer (some ⟨b,0,none⟩)] Q H:=by
 obtain ⟨hb,a,l,c,F1,F2,po,b5,b6,b7,rfl,h1,h2,h3,k1,k2,hB,hR,hO,hw,ho⟩:=hS
 have hc1:aa H ⟨b,1,none⟩=some (.int .i64 s.king):=hB.cell 1
 have hc2:aa H ⟨b,2,none⟩=some (.slice a l c):=hB.cell 2
 have hk0:=hw.king0
 have hk1:=hw.king1
 have hm:=hw.many
 have hl:l=s.stack.length:=by have:=hO.len;simpa [aj] using this.symm
 have hs1:aH PP 30=some (1,8,some (.int .i64 0)):=by kernel_rfl
 apply zF
 unfold EQ A0 iV lV cS
 refine ⟨_,rfl,_,by rw [ak];exact hc1,?_⟩
 by_cases hz:s.king=0
 ·refine Az (by omega) ⟨_,_,rfl,?_⟩
  simp only [show ((1:Int) != 0)=true from rfl,cond_true]
  refine ⟨_,rfl,_,_,_,by rw [ak];exact hc2,h _ _ _ H _ hO.rd (by omega) ?_ (Fr.refl _ _)⟩
  unfold SP.reach SP.roots RH.reach
  rw [hz]
  congr 1
  funext k
  have hn0:aR s.h (4*0)=0:=by
   unfold aR
   rw [if_neg]
   rintro ⟨h1,_⟩
   exact absurd h1 (by decide)
  have:Reaches s.h s.stack k↔Reaches s.h (4*0 :: s.stack) k:=by
   constructor
   ·intro hr
    induction hr with
    | root hw' hne=>exact .root (by simp [hw']) hne
    | cls _ h2 h3 ih=>exact .cls ih h2 h3
    | slot _ h2 h3 h4 h5 ih=>exact .slot ih h2 h3 h4 h5
   ·intro hr
    induction hr with
    | @root w hw' hne =>
     rcases List.mem_cons.1 hw' with rfl | hw'
     ·exact absurd hn0 hne
     ·exact .root hw' hne
    | cls _ h2 h3 ih=>exact .cls ih h2 h3
    | slot _ h2 h3 h4 h5 ih=>exact .slot ih h2 h3 h4 h5
  rw [Bool.eq_iff_iff,decide_eq_true_iff,decide_eq_true_iff]
  exact this
 ·refine lP (by omega) ⟨_,_,rfl,?_⟩
  simp only [show ((0:Int) != 0)=false from rfl,cond_false]
  refine ⟨_,rfl,_,_,_,by rw [ak];exact (eQ hB.lt).trans hc2,?_⟩
  have hown:bN 1 (H.push (.cells #[.int .i64 (4*s.king)] 24)) (some ⟨H.size,0,none⟩) 1 1 (aj [4*s.king]) [H.size]:=⟨by simp [aj],Nat.le_refl _,.inr ⟨H.size,_,rfl,rfl,aV.new _ _ _,by simp,by simp [aj]⟩⟩
  refine cR hs1 rfl (by kernel_rfl) hown (hO.fr (Fr.push [] _ _) (by simp)).rd fe (by omega) (by decide) (by decide) fun a' c' F' H' g1 g2 g3=>⟨_,_,_,rfl,?_⟩
  have hfr:=Up.fresh (H:=H) (Fr.push [] H _) g2 (by simp)
  refine h _ _ _ H' s.roots ?_ (by omega) rfl hfr.1
  have e2:aj s.roots=aj [4*s.king]++aj s.stack:=by simp [aj,SP.roots]
  rw [e2]
  exact g1.rd
end
section
variable {H:ae}{b:Nat}{F F':az}{s:SP}{Q:QT}
theorem Dx {hb:Nat}{F1:az}{r:RH} (hR:bQ H hb F1 r){a2:Option Addr}{l2 c2:Nat}{ws:List Int} (hk:Rd 1 H a2 l2 (aj ws)) (hlk:l2<=1000000)
  (h:∀ H',bQ H' hb F1 (r.keep (r.reach ws)).2->Fr F1 H H'->Q (lZ (r.keep (r.reach ws)).1) H'):ac PP BU #[.pointer (some ⟨hb,0,none⟩),.slice a2 l2 c2] Q H:=by
 apply zz
 unfold Ey iV pV lV cS
 refine wu hR hk hlk fun a l c G H1 ho hf hG=>⟨_,_,_,_,rfl,?_⟩
 simp only [show ((0:Int) != 0)=false from rfl,cond_false]
 have hR1:=hR.fr hf (co.nil_right _) (by simp)
 have hlt:=hR.lt
 have hll:l<=1099511627776:=by
  have h1:=ho.len
  have h2:(r.reach ws).length<=r.all.length:=List.length_filter_le _ _
  have h3:=r.upto_len (r.oops+1).toNat
  have h4:=hR.wf.o1
  have h5:r.all.length<=(r.oops+1).toNat:=h3
  simp only [aj,List.length_map] at h1
  omega
 refine tE (sy hb r) hR1 ho.rd (fun p hp hin=>?_) hll fun H2 hR2 hf2=>⟨_,_,_,rfl,h H2 hR2 ((hf.of_nil).trans hf2)⟩
 have hpG:p.block∈G:=by
  rcases ho.2.2 with ⟨h1,_⟩ | ⟨b',_,h1,rfl,_⟩
  ·rw [h1] at hp;cases hp
  ·rw [h1] at hp;cases hp;simp
 have h1:=hG _ hpG
 have h2:=hlt _ hin
 omega
theorem eA.nilfr {H':ae} (hS:eA H b F s) (hf:Fr [] H H'):eA H' b F s:=hS.fr hf (co.nil_right _) (by simp)
theorem nE (hS:eA H b F s) (h:∀ H',eA H' b F s.collect.2->Fr F H H'->aa H' ⟨b,0,none⟩=aa H ⟨b,0,none⟩->Q (lZ s.collect.1) H'):ac PP CQ #[.pointer (some ⟨b,0,none⟩)] Q H:=by
 obtain ⟨hb,F1,hR,c0,c3,c1,hsub,hnb,hup⟩:=hS.upd
 apply Aq
 unfold EX iV pV lV cS
 unfold SP.collect at h
 refine dU hS ⟨_,rfl,?_⟩
 simp only [cond_false]
 refine ⟨_,rfl,_,by rw [ak];exact c3,?_⟩
 cases hop:s.op with
 | true =>
  rw [hop] at h
  simp only [cond_true]
  exact h H hS (Fr.refl _ _) rfl
 | false =>
  rw [if_neg (by rw [hop];simp)] at h
  simp only [cond_false]
  refine ⟨_,rfl,_,c0,rH hS fun a l c H1 ws hk hl he hf=>?_⟩
  have hS1:=hS.nilfr hf
  obtain ⟨hb',F1',hR1,c01,c31,c11,hsub1,hnb1,hup1⟩:=hS1.upd
  have hlt:=hS.lt
  have hbl:b<H.size:=hlt b hS.bmem
  have hsame:aa H1 ⟨b,0,none⟩=aa H ⟨b,0,none⟩:=by unfold aa;rw [hf.2 b hbl (by simp)]
  have hbe:hb'=hb:=by rw [hsame,c0] at c01;simpa using c01.symm
  subst hbe
  refine ⟨_,_,_,rfl,⟨⟨by rw [hsame];exact c0,trivial⟩,trivial⟩,?_⟩
  refine Dx hR1 hk (by omega) fun H2 hR2 hf2=>⟨_,_,_,rfl,trivial,?_⟩
  rw [he] at hR2 ⊢
  refine h H2 (hup1 H2 _ hR2 hf2) ((hf.of_nil).trans (hf2.mono hsub1)) ?_
  rw [←hsame];unfold aa;rw [hf2.2 b (Nat.lt_of_lt_of_le hbl hf.1) hnb1]
theorem i7 (hS:eA H b F s){cls n f:Int} (h:∀ H',eA H' b F (s.alloc cls n f).2->Fr F H H'->Q (.tuple #[.int .i64 (if (s.alloc cls n f).1.2=0 then (s.alloc cls n f).1.1 else 0),.int .i64 (s.alloc cls n f).1.2]) H') :
  ac PP zO #[.pointer (some ⟨b,0,none⟩),.int .i64 cls,.int .i64 n,.int .i64 f] Q H:=by
 have hS0:eA (H.push (.cells #[.pointer (some ⟨b,0,none⟩)] 53)) b F s:=hS.nilfr (Fr.push [] _ _)
 have hB0:aV (H.push (.cells #[.pointer (some ⟨b,0,none⟩)] 53)) H.size #[.pointer (some ⟨b,0,none⟩)]:=aV.new _ _ _
 have hlt:=hS.lt
 have hbx:H.size∉F:=fun hx=>by have:=hlt _ hx;omega
 apply xd
 unfold Ce A0 iV pV cS
 refine ⟨_,hB0.cell 0,dU hS0 ⟨_,rfl,?_⟩⟩
 simp only [cond_false]
 have hf0:Fr F H (H.push (.cells #[.pointer (some ⟨b,0,none⟩)] 53)):=Fr.push _ _ _
 generalize (H.push (.cells #[.pointer (some ⟨b,0,none⟩)] 53))=H0 at hS0 hB0 hf0 ⊢
 obtain ⟨hb,F1,hR,c0,c3,c1,hsub,hnb,hup⟩:=hS0.upd
 refine ⟨_,hB0.cell 0,_,rfl,_,c0,?_⟩
 have fin:∀ (p:Int × Int) (s':SP) (H2:ae),eA H2 b F s'->Fr F H H2->s.alloc cls n f=((4*p.1,p.2),s')->(p.2=0->1<=p.1∧p.1<=65536) ->
   ∃ n12 n13:Int,AV p=.tuple #[.int .i64 n12,.int .i64 n13]∧cond (n13 != 0) (Q (.tuple #[.int .i64 0,.int .i64 n13]) H2) (ac PP pF #[.int .i64 n12] (fun v14 H3=>∃ n15:Int,∃ n16:Int,v14=.tuple #[.int .i64 n15,.int .i64 n16]∧Q (.tuple #[.int .i64 n15,.int .i64 n16]) H3) H2):=by
  intro p s' H2 hS2 hf2 he hb
  rw [he] at h
  refine ⟨_,_,rfl,?_⟩
  rw [aX,af]
  refine aA (fun hne=>?_) fun hne=>?_
  ·have:=h H2 hS2 hf2
   simp only [hne,if_false] at this
   exact this
  ·have hz:p.2=0:=Classical.byContradiction hne
   have hbb:=hb hz
   refine lP hbb ⟨_,_,rfl,?_⟩
   have:=h H2 hS2 hf2
   simp only [hz,if_true] at this
   exact this
 have bnd:∀ (r:RH),WFH r->(r.alloc cls n f).1.2=0->1<=(r.alloc cls n f).1.1∧(r.alloc cls n f).1.1<=65536:=by
  intro r hw hz
  have ho1:=hw.o1
  unfold RH.alloc at hz ⊢
  split at hz
  ·simp at hz
  rename_i g1
  split at hz
  ·simp at hz
  rename_i g2
  split at hz
  ·simp at hz
  rename_i g3
  split at hz
  ·simp at hz
  rename_i g4
  rw [if_neg g1,if_neg g2,if_neg g3,if_neg g4]
  have:=dh hw.objs hw.o1 (by omega)
  exact ⟨this.1,by have:=this.2.1;simp only;omega⟩
 apply u9
 unfold Bz iV
 show ac PP tu #[.pointer (some ⟨hb,0,none⟩),.int .i64 cls,.int .i64 n,.int .i64 f] _ H0
 refine nr hR fun H1 hR1 hf1=>⟨_,_,rfl,?_⟩
 have hS1:=hup H1 _ hR1 hf1
 have hfr1:Fr F H H1:=hf0.trans (hf1.mono hsub)
 have hB1:=hB0.fr (hf1.mono hsub) hbx
 have hwf:=hS.wf.h
 rw [aU,af]
 refine aA (fun he=>?_) fun he=>?_
 ·have hfull:=qb he
  have hS1':eA H1 b F s:=by
   have e:({ s with h:=(s.h.alloc cls n f).2 }:SP)=s:=by rw [hfull]
   rw [e] at hS1;exact hS1
  show ac PP y8 #[.pointer (some ⟨H.size,0,none⟩)] _ H1
  apply wj
  unfold BF iV pV cS
  refine ⟨_,hB1.cell 0,nE hS1' fun H2 hS2 hf2 hsm=>⟨_,_,_,rfl,_,rfl,?_⟩⟩
  have hB2:=hB1.fr hf2 hbx
  cases hop:s.op with
  | true =>
   have ec:s.collect=((0,0,25),s):=by unfold SP.collect;rw [hop];rfl
   rw [ec] at hS2 ⊢
   simp only [show ((25:Int) == 0)=false from rfl,cond_false]
   have ea:s.alloc cls n f=((4*(s.h.alloc cls n f).1.1,(s.h.alloc cls n f).1.2),s):=by
    unfold SP.alloc
    rw [if_pos (.inr hop),hfull]
   exact fin (s.h.alloc cls n f).1 s H2 hS2 (hfr1.trans hf2) ea (bnd _ hwf)
  | false =>
   have ec:s.collect=((s.h.keep s.reach).1,{ s with h:=(s.h.keep s.reach).2 }):=by unfold SP.collect;rw [hop];rfl
   have ek:(s.h.keep s.reach).1.2.2=0:=by
    unfold RH.keep
    rw [if_neg]
    rintro ⟨k,hk,hn⟩
    exact ((RH.mem_reach hwf).1 hk).there hn
   rw [ec] at hS2 ⊢
   simp only [ek,show ((0:Int) == 0)=true from rfl,cond_true]
   obtain ⟨hb',F1',hR3,c03,_,_,hsub3,_,hup3⟩:=hS2.upd
   have hbe:hb'=hb:=by
    have h1:aa H2 ⟨b,0,none⟩=some (.pointer (some ⟨hb,0,none⟩)):=by
     rw [hsm,←c0];unfold aa;rw [hf1.2 b (by have:=hS0.lt b hS0.bmem;exact this) hnb]
    rw [c03] at h1;simpa using h1
   subst hbe
   show ac PP tu #[.pointer (some ⟨hb',0,none⟩),.int .i64 cls,.int .i64 n,.int .i64 f] _ H2
   refine nr hR3 fun H4 hR4 hf4=>⟨_,_,rfl,?_⟩
   have hS4:=hup3 H4 _ hR4 hf4
   have ea:s.alloc cls n f=((4*((s.h.keep s.reach).2.alloc cls n f).1.1,((s.h.keep s.reach).2.alloc cls n f).1.2),{ s with h:=((s.h.keep s.reach).2.alloc cls n f).2 }):=by
    unfold SP.alloc
    rw [if_neg (by simp [he,hop])]
   exact fin ((s.h.keep s.reach).2.alloc cls n f).1 _ H4 hS4 ((hfr1.trans hf2).trans (hf4.mono hsub3)) ea (bnd _ (gI hwf _))
 ·have ea:s.alloc cls n f=((4*(s.h.alloc cls n f).1.1,(s.h.alloc cls n f).1.2),{ s with h:=(s.h.alloc cls n f).2 }):=by
   unfold SP.alloc
   rw [if_pos (.inl he)]
  exact fin (s.h.alloc cls n f).1 _ H1 hS1 hfr1 ea (bnd _ hwf)
theorem kh (hS:eA H b F s){a2:Option Addr}{l2 c2:Nat}{ws:List Int} (hk:Rd 1 H a2 l2 (aj ws)) (hlk:l2<=1000000000) (h:∀ H' F',eA H' b F' (s.keepW ws).2->Up F H F' H'->Q (.int .i64 (s.keepW ws).1) H'):ac PP Dt #[.pointer (some ⟨b,0,none⟩),.slice a2 l2 c2] Q H:=by
 have hS0:=hS
 have hlt0:=hS.lt
 have hkd:=hS.kinds
 have hgl:=hkd.lt
 apply yl
 unfold ET iV wW pV lV cS
 unfold SP.keepW at h
 refine dU hS ⟨_,rfl,?_⟩
 simp only [cond_false]
 refine lh hkd hk hlk ⟨_,rfl,?_⟩
 rw [af]
 refine aA (fun hbad=>?_) fun hbad=>?_
 ·rw [if_pos hbad] at h;exact h H F hS0 (Up.refl _ _)
 rw [if_neg hbad] at h
 obtain ⟨hb,a,l,c,F1,F2,po,b5,b6,b7,rfl,h1,h2,h3,k1,k2,hB,hR,hO,hw,ho⟩:=hS
 have hc2:aa H ⟨b,2,none⟩=some (.slice a l c):=hB.cell 2
 have hl:l=s.stack.length:=by have:=hO.len;simpa [aj] using this.symm
 have hl2:l2=ws.length:=by have:=hk.1;simpa [aj] using this.symm
 have hm:=hw.many
 have hs1:aH PP 30=some (1,8,some (.int .i64 0)):=by kernel_rfl
 refine ⟨_,rfl,_,_,_,by rw [ak];exact hc2,?_⟩
 rw [ah (by omega) (by omega),af]
 refine aA (fun hbig=>?_) fun hbig=>?_
 ·rw [if_pos (by omega)] at h;exact h H _ hS0 (Up.refl _ _)
 rw [if_neg (by omega)] at h
 refine ⟨_,rfl,_,_,_,by rw [ak];exact hc2,?_⟩
 refine cR hs1 rfl (by kernel_rfl) hO hk fe (by omega) (by decide) (by decide) fun a' c' F3 H1 g1 g2 g3=>⟨_,_,_,rfl,_,rfl,?_⟩
 have hbF3:b∉F3:=fun hx=>by
  rcases g2.2 b hx with h4 | h4
  ·exact h2 h4
  ·have:=hlt0 b (by simp);omega
 have hgF3:ap∉F3:=fun hx=>by
  rcases g2.2 _ hx with h4 | h4
  ·exact k2 h4
  ·omega
 have hB1:=hB.fr g2.1 h2
 have hfb:Fr [b] H1 (aB H1 ⟨b,2,none⟩ (.slice a' (l+l2) c')):=Fr.set (by simp)
 rw [ak]
 refine ⟨hB1.wr (by simp),h _ (b :: (F1++F3)) ⟨hb,a',l+l2,c',F1,F3,po,b5,b6,b7,rfl,h1,hbF3,fun x hx hx3=>?_,k1,hgF3,hB1.set 2 (.slice a' (l+l2) c'),?_,?_,?_,ho⟩ ⟨?_,fun x hx=>?_⟩⟩
 ·rcases g2.2 x hx3 with h4 | h4
  ·exact h3 x hx h4
  ·have:=hlt0 x (by simp [hx]);omega
 ·exact (hR.fr g2.1 h3 k2).fr hfb (fun x hx hn=>h1 (by simp only [List.mem_singleton] at hn;rw [←hn];exact hx)) (by simpa using Ne.symm k1)
 ·simp only
  rw [bO]
  exact g1.fr hfb (fun x hx hn=>hbF3 (by simp only [List.mem_singleton] at hn;rw [←hn];exact hx))
 ·refine { hw with many:=?_,words:=fun w hw'=>?_ }
  ·simp only [List.length_append];omega
  ·rcases List.mem_append.1 hw' with h4 | h4
   ·exact hw.words w h4
   ·exact Classical.byContradiction fun hn=>hbad ⟨w,h4,hn⟩
 ·exact (g2.1.mono (F':=b :: (F1++F2)) fun x hx=>by simp [hx]).trans (hfb.mono fun x hx=>by simp only [List.mem_singleton] at hx;simp [hx])
 ·rcases List.mem_cons.1 hx with rfl | hx
  ·exact .inl (by simp)
  ·rcases List.mem_append.1 hx with hx | hx
   ·exact .inl (by simp [hx])
   ·exact (g2.2 x hx).imp (fun h4=>by simp [h4]) id
theorem og (hS:eA H b F s) (h:∀ a c H',Rd 1 H' a s.stack.length (aj s.stack)->Fr [] H H'->Q (.slice a s.stack.length c) H'):ac PP Br #[.pointer (some ⟨b,0,none⟩)] Q H:=by
 apply zR
 unfold EE pV lV cS
 refine dU hS ⟨_,rfl,?_⟩
 simp only [cond_false]
 obtain ⟨hb,a,l,c,F1,F2,po,b5,b6,b7,rfl,h1,h2,h3,k1,k2,hB,hR,hO,hw,ho⟩:=hS
 have hc2:aa H ⟨b,2,none⟩=some (.slice a l c):=hB.cell 2
 have hl:l=s.stack.length:=by have:=hO.len;simpa [aj] using this.symm
 have hm:=hw.many
 refine ⟨_,rfl,_,_,_,by rw [ak];exact hc2,?_⟩
 refine tC hO.rd (by omega) fun a' c' G H1 ho1 hf1 hG=>⟨_,_,_,rfl,?_⟩
 apply vo
 unfold BL lV
 have hlc:=ho1.2.1
 refine ⟨⟨⟨by omega,by omega⟩,by omega,by omega⟩,_,_,_,rfl,?_⟩
 rw [Int.toNat_natCast,hl]
 rw [hl] at ho1
 exact h _ _ H1 ho1.rd hf1
theorem oq (hS:eA H b F s){n:Int} (hn:Cg n) (h:∀ H',eA H' b F (s.drop n).2->Fr F H H'->Q (.int .i64 (s.drop n).1) H'):ac PP BN #[.pointer (some ⟨b,0,none⟩),.int .i64 n] Q H:=by
 have hS0:=hS
 apply zo
 unfold EL iV wW pV lV
 unfold SP.drop at h
 refine dU hS ⟨_,rfl,?_⟩
 simp only [cond_false,af]
 refine aA (fun hneg=>?_) fun hneg=>?_
 ·rw [if_pos (.inl hneg)] at h;exact h H hS0 (Fr.refl _ _)
 obtain ⟨hb,a,l,c,F1,F2,po,b5,b6,b7,rfl,h1,h2,h3,k1,k2,hB,hR,hO,hw,ho⟩:=hS
 have hc2:aa H ⟨b,2,none⟩=some (.slice a l c):=hB.cell 2
 have hl:l=s.stack.length:=by have:=hO.len;simpa [aj] using this.symm
 have hm:=hw.many
 refine ⟨_,rfl,_,_,_,by rw [ak];exact hc2,aA (fun hbig=>?_) fun hbig=>?_⟩
 ·rw [if_pos (.inr (by omega))] at h;exact h H hS0 (Fr.refl _ _)
 rw [if_neg (by omega)] at h
 have e:IntKind.wrap .i64 ((l:Int)-n)=(l:Int)-n:=ah (by omega) (by omega)
 have hlc:=hO.2.1
 refine ⟨_,rfl,_,_,_,by rw [ak];exact hc2,_,rfl,_,_,_,by rw [ak];exact hc2,?_⟩
 rw [e]
 have hfb:Fr [b] H (aB H ⟨b,2,none⟩ (.slice a ((l:Int)-n).toNat c)):=Fr.set (by simp)
 refine ⟨⟨by omega,by omega⟩,_,rfl,by rw [ak];exact hB.wr (by simp),trivial,?_⟩
 rw [ak]
 refine h _ ⟨hb,a,((l:Int)-n).toNat,c,F1,F2,po,b5,b6,b7,rfl,h1,h2,h3,k1,k2,hB.set 2 _,?_,?_,?_,ho⟩ (hfb.mono fun x hx=>by simp only [List.mem_singleton] at hx;simp [hx])
 ·exact hR.fr hfb (fun x hx hn=>h1 (by simp only [List.mem_singleton] at hn;rw [←hn];exact hx)) (by simpa using Ne.symm k1)
 ·have h4:=hO.fr hfb (fun x hx hn=>h2 (by simp only [List.mem_singleton] at hn;rw [←hn];exact hx))
  have h5:s.stack.length-n.toNat=((l:Int)-n).toNat:=by omega
  simp only
  rw [h5]
  refine ⟨by simp [aj];omega,by omega,?_⟩
  rcases h4.2.2 with ⟨h6,h7,h8⟩ | ⟨b',cs,h6,h7,h8,h9,h10⟩
  ·exact .inl ⟨h6,h7,h8⟩
  ·refine .inr ⟨b',cs,h6,h7,h8,h9,?_⟩
   have h11:(cs.toList.take (l*1)).take (((l:Int)-n).toNat*1)=(aj s.stack).take (((l:Int)-n).toNat*1):=by rw [h10]
   rw [List.take_take] at h11
   have h12:min (((l:Int)-n).toNat*1) (l*1)=((l:Int)-n).toNat*1:=by omega
   rw [h12] at h11
   rw [h11]
   simp [aj,List.map_take]
 ·refine { hw with many:=?_,words:=fun w hw'=>hw.words w (List.mem_of_mem_take hw') }
  simp only [List.length_take];omega
end
end Go.Proofs.YtgcoppcogllpbaaGreatDoor
namespace Kw
open Go
def aZ (l:List ByteArray):List Value:=l.map .string
theorem ri {l:List ByteArray}:∀ v∈aZ l,dB v=true:=by
 intro v hv
 simp only [aZ,List.mem_map] at hv
 obtain ⟨i,_,rfl⟩:=hv
 rfl
theorem dT (l m:List ByteArray):aZ (l++m)=aZ l++aZ m:=by simp [aZ]
theorem Rd.str {H:ae}{a:Option Addr}{l:Nat}{ys:List ByteArray} (h:Rd 1 H a l (aZ ys)){i:Int} (h0:0<=i) (h1:i<l):∃ p,∃ hlt:i.toNat<ys.length,a=some p∧aa H (p.add i.toNat)=some (.string ys[i.toNat]):=by
 have hl:=h.1
 simp only [aZ,List.length_map] at hl
 cases a with
 | none=>have:=h.2.1 rfl;omega
 | some p =>
  have hi:i.toNat<ys.length:=by omega
  refine ⟨p,hi,rfl,?_⟩
  rw [h.2.2 p rfl i.toNat (by omega)]
  simp [aZ,hi]
structure TB where
 most:Int
 texts:List ByteArray
def bi (s:ByteArray):Prop:=1<=s.size∧s.size<=96
instance (s:ByteArray):Decidable (bi s):=inferInstanceAs (Decidable (_∧_))
structure WFT (t:TB):Prop where
 m0:0<=t.most
 m1:t.most<=4096
 len:(t.texts.length:Int)<=t.most
 nodup:t.texts.Nodup
 good:∀ s∈t.texts,bi s
def bB:List ByteArray->ByteArray->Option Nat
 | [],_=>none
 | x :: l,s=>if x=s then some 0 else (bB l s).map (·+1)
theorem qc {l:List ByteArray}{s:ByteArray}{n:Nat} (hn:n<l.length) (h1:l[n]=s) (h2:∀ j (hj:j<l.length),j<n->l[j]≠s):bB l s=some n:=by
 induction l generalizing n with
 | nil=>simp at hn
 | cons x l ih =>
  unfold bB
  cases n with
  | zero=>simp only [List.getElem_cons_zero] at h1;rw [if_pos h1]
  | succ n =>
   have h3:=h2 0 (by simp) (by omega)
   simp only [List.getElem_cons_zero] at h3
   rw [if_neg h3,ih (n:=n) (by simpa using hn) (by simpa using h1) fun j hj hjn=>h2 (j+1) (by simpa using hj) (by omega)]
   rfl
theorem ik {l:List ByteArray}{s:ByteArray}:bB l s=none↔s∉l:=by
 induction l with
 | nil=>simp [bB]
 | cons x l ih =>
  unfold bB
  by_cases h:x=s
  ·simp [h]
  ·rw [if_neg h]
   simp only [Option.map_eq_none_iff,ih,List.mem_cons,not_or]
   exact ⟨fun h1=>⟨fun e=>h e.symm,h1⟩,fun h1=>h1.2⟩
theorem ml {l:List ByteArray}{s x:ByteArray}:bB (l++[s]) x=match bB l x with
  | some n=>some n
  | none=>if s=x then some l.length else none:=by
 induction l with
 | nil=>simp [bB]
 | cons y l ih =>
  simp only [List.cons_append,bB]
  by_cases h:y=x
  ·simp [h]
  ·rw [if_neg h,if_neg h,ih]
   cases bB l x with
   | some n=>rfl
   | none =>
    simp only [Option.map_none]
    by_cases h2:s=x <;> simp [h2]
def TB.add (t:TB) (s:ByteArray):(Int × Int) × TB :=
 if ¬ bi s then ((0,61),t) else match bB t.texts s with
 | some n=>(((n:Int),0),t)
 | none=>if t.most<=(t.texts.length:Int) then ((0,60),t) else (((t.texts.length:Int),0),{ t with texts:=t.texts++[s] })
theorem fB {t:TB} (h:WFT t) (s:ByteArray):WFT (t.add s).2:=by
 unfold TB.add
 split
 ·exact h
 ·rename_i hg
  have hg:bi s:=Classical.byContradiction hg
  cases hn:bB t.texts s with
  | some n=>exact h
  | none =>
   simp only
   split
   ·exact h
   ·refine { h with len:=by simp;omega,nodup:=?_,good:=fun x hx=>?_ }
    ·rw [List.nodup_append]
     exact ⟨h.nodup,by simp,fun a ha b hb e=>ik.1 hn (by simp only [List.mem_singleton] at hb;rw [←hb,←e];exact ha)⟩
    ·rcases List.mem_append.1 hx with hx | hx
     ·exact h.good x hx
     ·simp only [List.mem_singleton] at hx;rw [hx];exact hg
end Kw
namespace Kw
open Go
def dN (r:RH) (o:Int) (ws:List Int):Prop:=∃ x,al r.objs o=some x∧x.fmt=0∧x.slots=ws
theorem dN.uniq {r:RH}{o:Int}{ws ws':List Int} (h:dN r o ws) (h':dN r o ws'):ws=ws':=by
 obtain ⟨x,h1,_,h3⟩:=h
 obtain ⟨y,h4,_,h6⟩:=h'
 rw [h1] at h4;cases h4
 rw [←h3,←h6]
theorem dN.size {r:RH}{o:Int}{ws:List Int} (h:dN r o ws):r.size o=((ws.length:Int),0,0):=by
 obtain ⟨x,h1,h2,h3⟩:=h
 simp [RH.size,h1,h2,h3]
theorem dN.at {r:RH}{o:Int}{ws:List Int} (h:dN r o ws){i:Int} (h0:0<=i) (h1:i<ws.length):r.at o i=(ws[i.toNat]'(by omega),0):=by
 obtain ⟨x,h2,_,h3⟩:=h
 subst h3
 simp only [RH.at,h2]
 rw [if_neg (by omega)]
 have:i.toNat<x.slots.length:=by omega
 simp [this]
theorem dN.bnd {r:RH} (hw:WFH r){o:Int}{ws:List Int} (h:dN r o ws):1<=o∧o<=65536∧ws.length<=8192∧∀ w∈ws,cW w:=by
 obtain ⟨x,h1,h2,h3⟩:=h
 have hg:=hw.objs.good x (au h1).1
 have ho:=(au h1).2
 have h4:=hg.oop1
 have h5:=hg.oop2
 have h6:=hw.o1
 subst h3
 refine ⟨by omega,by omega,hg.many,fun w hw'=>?_⟩
 have:=hg.may w hw'
 unfold eS at this
 rw [if_neg (by omega)] at this
 exact this
theorem dN.there {r:RH}{o:Int}{ws:List Int} (h:dN r o ws):al r.objs o≠none:=by
 obtain ⟨x,h1,_⟩:=h;rw [h1];simp
theorem me {r:RH}{o:Int} (h0:1<=o) (h1:o<=65536) (h:al r.objs o≠none):aR r (4*o)=o:=by
 unfold aR
 have hk:bg (4*o)=3:=by
  have:=aW (4*o)
  omega
 have e:4*o / 4=o:=by omega
 have hs:(al r.objs o).isSome:=by cases ho:al r.objs o with
  | none=>exact absurd ho h
  | some _=>rfl
 rw [e,if_pos ⟨hk,hs⟩]
def bd (r r':RH) (P:Int->Prop):Prop:=∀ k,P k->∀ x,al r.objs k=some x->∃ y,al r'.objs k=some y∧y.cls=x.cls∧y.fmt=x.fmt∧y.slots=x.slots
theorem bd.refl (r:RH) (P:Int->Prop):bd r r P:=fun k _ x hx=>⟨x,hx,rfl,rfl,rfl⟩
theorem bd.trans {r r' r'':RH}{P:Int->Prop} (h:bd r r' P) (h':bd r' r'' P):bd r r'' P:=fun k hk x hx=>by
 obtain ⟨y,h1,h2,h3,h4⟩:=h k hk x hx
 obtain ⟨z,g1,g2,g3,g4⟩:=h' k hk y h1
 exact ⟨z,g1,g2.trans h2,g3.trans h3,g4.trans h4⟩
theorem bd.mono {r r':RH}{P P':Int->Prop} (h:bd r r' P) (hp:∀ k,P' k->P k):bd r r' P':=fun k hk=>h k (hp k hk)
theorem dN.keep {r r':RH}{P:Int->Prop}{o:Int}{ws:List Int} (h:dN r o ws) (hk:bd r r' P) (hp:P o):dN r' o ws:=by
 obtain ⟨x,h1,h2,h3⟩:=h
 obtain ⟨y,g1,_,g3,g4⟩:=hk o hp x h1
 exact ⟨y,g1,g3.trans h2,g4.trans h3⟩
theorem gu {r:RH} (hw:WFH r) (cls n f:Int):bd r (r.alloc cls n f).2 fun _=>True:=by
 intro k _ x hx
 unfold RH.alloc
 split
 ·exact ⟨x,hx,rfl,rfl,rfl⟩
 split
 ·exact ⟨x,hx,rfl,rfl,rfl⟩
 split
 ·exact ⟨x,hx,rfl,rfl,rfl⟩
 split
 ·exact ⟨x,hx,rfl,rfl,rfl⟩
 ·refine ⟨x,?_,rfl,rfl,rfl⟩
  rw [bP,hx]
theorem fo {r:RH} (hw:WFH r){cls n f:Int} (h:(r.alloc cls n f).1.2=0):al r.objs (r.alloc cls n f).1.1=none∧1<=(r.alloc cls n f).1.1∧(r.alloc cls n f).1.1<=65536∧0<=n∧n<=8192 ∧
  (f=0->dN (r.alloc cls n f).2 (r.alloc cls n f).1.1 (List.replicate n.toNat 4)):=by
 have ho1:=hw.o1
 unfold RH.alloc at h ⊢
 split at h
 ·simp at h
 rename_i g1
 split at h
 ·simp at h
 rename_i g2
 split at h
 ·simp at h
 rename_i g3
 split at h
 ·simp at h
 rename_i g4
 have hl:=dh hw.objs hw.o1 (by omega)
 rw [if_neg g1,if_neg g2,if_neg g3,if_neg g4]
 refine ⟨hl.2.2.1,hl.1,by have:=hl.2.1;simp only;omega,by omega,by omega,fun hf=>?_⟩
 subst hf
 refine ⟨bF r cls n 0,?_,rfl,by simp [bF]⟩
 simp only
 rw [bP,hl.2.2.1]
 simp [bF]
theorem lw {r:RH} (k i w:Int):bd r (r.put k i w).2 fun j=>j≠k:=by
 intro j hj x hx
 unfold RH.put
 split
 ·exact ⟨x,hx,rfl,rfl,rfl⟩
 split
 ·exact ⟨x,hx,rfl,rfl,rfl⟩
 split
 ·exact ⟨x,hx,rfl,rfl,rfl⟩
 ·refine ⟨x,?_,rfl,rfl,rfl⟩
  show al (eR r.objs k (cC i w)) j=some x
  rw [ce (f:=cC i w) (fun o=>rfl),hx]
  have:=(au hx).2
  simp only [Option.map_some]
  rw [if_neg (by omega)]
theorem qX {r:RH}{k:Int}{ws:List Int} (h:dN r k ws){i w:Int} (h0:0<=i) (h1:i<ws.length) (hw:cW w):dN (r.put k i w).2 k (ws.set i.toNat w)∧(r.put k i w).1=0:=by
 obtain ⟨x,h2,h3,h4⟩:=h
 subst h4
 have hm:eS x.fmt w:=by unfold eS;rw [if_neg (by omega)];exact hw
 simp only [RH.put,h2]
 rw [if_neg (by omega),if_neg (by simpa using hm)]
 refine ⟨⟨cC i w x,?_,h3,rfl⟩,rfl⟩
 show al (eR r.objs k (cC i w)) k=some (cC i w x)
 rw [ce (f:=cC i w) (fun o=>rfl),h2]
 have:=(au h2).2
 simp [this]
theorem o5 {at_:Int}{l:List RO}{k:Int}:∀ x,al l k=some x->∃ y,al (bl at_ l) k=some y∧y.cls=x.cls∧y.fmt=x.fmt∧y.slots=x.slots:=by
 induction l generalizing at_ with
 | nil=>intro x hx;cases hx
 | cons o l ih =>
  intro x hx
  unfold al at *
  simp only [bl,List.find?_cons] at hx ⊢
  by_cases h:o.oop=k
  ·simp only [h,decide_true] at hx ⊢
   cases hx
   exact ⟨_,rfl,rfl,rfl,rfl⟩
  ·simp only [h,decide_false] at hx ⊢
   exact ih x hx
theorem ib {r:RH} (l:List Int):bd r (r.keep l).2 fun k=>k∈l:=by
 intro k hk x hx
 unfold RH.keep
 split
 ·exact ⟨x,hx,rfl,rfl,rfl⟩
 ·simp only [RH.keepO]
  refine o5 x ?_
  unfold al at hx ⊢
  rw [List.find?_filter]
  have ho:=(au (l:=r.objs) (k:=k) (o:=x) hx).2
  rw [←hx]
  congr 1
  funext a
  by_cases h:a.oop=k
  ·simp [h,hk]
  ·simp [h]
theorem ge {r:RH} (k:Int):bd r (r.marks k).2 fun _=>True:=by
 intro j _ x hx
 unfold RH.marks
 split <;> exact ⟨x,hx,rfl,rfl,rfl⟩
theorem Reaches.mono {r r':RH}{ws ws':List Int} (hw:WFH r) (h:bd r r' (Reaches r ws)) (hs:∀ w∈ws,w∈ws'){k:Int} (hk:Reaches r ws k):Reaches r' ws' k:=by
 have hn:∀ {w:Int},aR r w≠0->Reaches r ws (aR r w)->aR r' w=aR r w:=by
  intro w hne hr
  have ht:=hr.there
  cases ho:al r.objs (aR r w) with
  | none=>exact absurd ho ht
  | some x =>
   obtain ⟨y,g1,_⟩:=h _ hr x ho
   unfold aR at *
   split at hne
   ·rename_i hc
    rw [if_pos hc] at g1
    rw [if_pos hc,if_pos ⟨hc.1,by rw [g1];rfl⟩]
   ·exact absurd rfl hne
 induction hk with
 | @root w h1 h2 =>
  have hr:Reaches r ws (aR r w):=.root h1 h2
  have e:=hn h2 hr
  rw [←e];exact .root (hs w h1) (by rw [e];exact h2)
 | @cls o h1 h2 h3 ih =>
  have hr:Reaches r ws (aR r o.cls):=.cls h1 h2 h3
  have e:=hn h3 hr
  obtain ⟨y,g1,g2,g3,g4⟩:=h _ h1 o (bW hw.objs h2)
  have gy:=au g1
  rw [←e,←g2]
  rw [←gy.2] at ih
  exact .cls ih gy.1 (by rw [g2,e];exact h3)
 | @slot o w h1 h2 h3 h4 h5 ih =>
  have hr:Reaches r ws (aR r w):=.slot h1 h2 h3 h4 h5
  have e:=hn h5 hr
  obtain ⟨y,g1,g2,g3,g4⟩:=h _ h1 o (bW hw.objs h2)
  have gy:=au g1
  rw [←e]
  rw [←gy.2] at ih
  exact .slot ih gy.1 (g3.trans h3) (by rw [g4];exact h4) (by rw [e];exact h5)
theorem Reaches.arr {r:RH}{ws l:List Int}{o k:Int} (h:Reaches r ws o) (ha:dN r o l) (h0:1<=k) (h1:k<=65536) (hk:al r.objs k≠none) (hm:4*k∈l):Reaches r ws k:=by
 obtain ⟨x,g1,g2,g3⟩:=ha
 have gx:=au g1
 have e:=me h0 h1 hk
 rw [←gx.2] at h
 have:=Reaches.slot (w:=4*k) h gx.1 g2 (by rw [g3];exact hm) (by rw [e];omega)
 rw [e] at this;exact this
theorem Reaches.of_root {r:RH}{ws:List Int}{k:Int} (h0:1<=k) (h1:k<=65536) (hk:al r.objs k≠none) (hm:4*k∈ws):Reaches r ws k:=by
 have e:=me h0 h1 hk
 have:=Reaches.root (r:=r) (ws:=ws) (w:=4*k) hm (by rw [e];omega)
 rw [e] at this;exact this
theorem ln {s:SP} (hw:WFH s.h):bd s.h s.collect.2.h (Reaches s.h s.roots):=by
 unfold SP.collect
 split
 ·exact bd.refl _ _
 ·exact (ib _).mono fun k hk=>(RH.mem_reach hw).2 hk
theorem qa {s:SP} (hw:WFS s):WFS s.collect.2:=by
 unfold SP.collect
 split
 ·exact hw
 ·exact { hw with h:=gI hw.h _ }
theorem mz (s:SP):s.collect.2.king=s.king∧s.collect.2.stack=s.stack∧s.collect.2.op=s.op:=by
 unfold SP.collect;split <;> exact ⟨rfl,rfl,rfl⟩
theorem nF (s:SP) (cls n f:Int):(s.alloc cls n f).2.king=s.king∧(s.alloc cls n f).2.stack=s.stack∧(s.alloc cls n f).2.op=s.op:=by
 unfold SP.alloc;split <;> exact ⟨rfl,rfl,rfl⟩
theorem rB {s:SP} (hw:WFS s) (cls n f:Int):WFS (s.alloc cls n f).2:=by
 unfold SP.alloc
 split
 ·exact { hw with h:=eZ hw.h _ _ _ }
 ·exact { hw with h:=eZ (gI hw.h _) _ _ _ }
theorem mC {s:SP} (hw:WFS s) (cls n f:Int):bd s.h (s.alloc cls n f).2.h (Reaches s.h s.roots):=by
 unfold SP.alloc
 split
 ·exact (gu hw.h _ _ _).mono fun _ _=>trivial
 ·exact ((ib _).mono fun k hk=>(RH.mem_reach hw.h).2 hk).trans ((gu (gI hw.h _) _ _ _).mono fun _ _=>trivial)
theorem lL {s:SP} (hw:WFS s){cls n:Int} (h:(s.alloc cls n 0).1.2=0):∃ o,(s.alloc cls n 0).1.1=4*o∧1<=o∧o<=65536∧0<=n∧n<=8192∧dN (s.alloc cls n 0).2.h o (List.replicate n.toNat 4)∧¬ Reaches s.h s.roots o:=by
 unfold SP.alloc at h ⊢
 split at h
 ·rename_i hc
  rw [if_pos hc]
  obtain ⟨h1,h2,h3,h4,h5,h6⟩:=fo hw.h h
  exact ⟨_,rfl,h2,h3,h4,h5,h6 rfl,fun hr=>hr.there h1⟩
 ·rename_i hc
  rw [if_neg hc]
  obtain ⟨h1,h2,h3,h4,h5,h6⟩:=fo (gI hw.h _) h
  refine ⟨_,rfl,h2,h3,h4,h5,h6 rfl,fun hr=>?_⟩
  have ht:=hr.there
  cases ho:al s.h.objs ((s.h.keep s.reach).2.alloc cls n 0).1.1 with
  | none=>exact ht ho
  | some x =>
   obtain ⟨y,g1,_⟩:=ib s.reach _ ((RH.mem_reach hw.h).2 hr) x ho
   rw [h1] at g1;cases g1
end Kw
namespace Kw
open Go
structure CV where
 oop:Int
 name:Nat
 up:Int
 own:List Nat
 ownA:Int
 selA:Int
 metA:Int
 sels:List Int
 mets:List Int
 lay:Int
structure KV where
 cls:List CV
 clsA:Int
 glob:List (Nat × Int)
 globA:Int
 rest:List Int
def dI (n:Nat):Int:=4*(n:Int)+2
def CV.slots (c:CV) (i:Nat):List Int:=[dI c.name,4*c.up,4*c.ownA,4*c.selA,4*c.metA,2*c.lay+1,2*((i:Int)+1)+1]
def dO:List (Nat × Int)->List Int
 | []=>[]
 | (n,v) :: l=>dI n :: v :: dO l
theorem lu (l:List (Nat × Int)):(dO l).length=2*l.length:=by
 induction l with
 | nil=>rfl
 | cons p l ih=>obtain ⟨n,v⟩:=p;simp only [dO,List.length_cons,ih];omega
theorem rO {l:List (Nat × Int)}{i:Nat} (h:i<l.length):(dO l)[2*i]?=some (dI l[i].1)∧(dO l)[2*i+1]?=some l[i].2:=by
 induction l generalizing i with
 | nil=>simp at h
 | cons p l ih =>
  obtain ⟨n,v⟩:=p
  cases i with
  | zero=>simp [dO]
  | succ i =>
   have:=ih (i:=i) (by simpa using h)
   have e:2*(i+1)=2*i+2:=by omega
   rw [e]
   simpa [dO] using this
abbrev ll:=Int × List Int
def crole (c:CV) (i:Nat):List ll:=[(c.oop,c.slots i),(c.ownA,c.own.map dI),(c.selA,c.sels),(c.metA,c.mets)]
def cK:List CV->Nat->List ll
 | [],_=>[]
 | c :: l,i=>crole c i++cK l (i+1)
theorem gU (l m:List CV) (i:Nat):cK (l++m) i=cK l i++cK m (i+l.length):=by
 induction l generalizing i with
 | nil=>simp [cK]
 | cons c l ih =>
  simp only [List.cons_append,cK,ih,List.append_assoc,List.length_cons]
  have:i+1+l.length=i+(l.length+1):=by omega
  rw [this]
theorem pY {l:List CV}{i j:Nat} (h:j<l.length){p:ll} (hp:p∈crole l[j] (i+j)):p∈cK l i:=by
 induction l generalizing i j with
 | nil=>simp at h
 | cons c l ih =>
  simp only [cK,List.mem_append]
  cases j with
  | zero=>exact .inl (by simpa using hp)
  | succ j =>
   refine .inr (ih (j:=j) (by simpa using h) ?_)
   have e:i+1+j=i+(j+1):=by omega
   rw [e];simpa using hp
theorem rj {l:List CV}{i:Nat}{p:ll} (h:p∈cK l i):∃ j,∃ hj:j<l.length,p∈crole l[j] (i+j):=by
 induction l generalizing i with
 | nil=>cases h
 | cons c l ih =>
  simp only [cK,List.mem_append] at h
  rcases h with h | h
  ·exact ⟨0,by simp,by simpa using h⟩
  ·obtain ⟨j,hj,h1⟩:=ih h
   refine ⟨j+1,by simpa using hj,?_⟩
   have e:i+1+j=i+(j+1):=by omega
   rw [e] at h1;simpa using h1
def KV.rootW (v:KV):List Int:=4*v.clsA :: 4*v.globA :: v.rest
def KV.clsW (v:KV):List Int:=v.cls.map fun c=>4*c.oop
def KV.roles (v:KV):List ll:=(19,v.rootW) :: (v.clsA,v.clsW) :: (v.globA,dO v.glob) :: (1,[]) :: (18,[]) :: cK v.cls 0
def cz (r:RH) (v:KV):Prop:=∀ p∈v.roles,dN r p.1 p.2
def Cs (v:KV):Prop:=v.roles.Pairwise fun p q=>p.1=q.1->p.2=[]
structure KShape (v:KV):Prop where
 rest:v.rest.length=6
 many0:14<=v.cls.length
 many1:v.cls.length<=256
 globs:v.glob.length<=256
 up0:∀ h:0<v.cls.length,(v.cls[0]).up=1∧(v.cls[0]).ownA=18
 ups:∀ i (h:i<v.cls.length),0<i->∃ j,∃ hj:j<v.cls.length,j<i∧(v.cls[j]).oop=(v.cls[i]).up
 kern:∀ i (h:i<v.cls.length),i<14->(v.cls[i]).oop=4+i
 lay:∀ c∈v.cls,0<=c.lay∧c.lay<=1073741823
structure KNames (v:KV) (t:TB):Prop where
 wf:WFT t
 name:∀ c∈v.cls,c.name<t.texts.length
 own:∀ c∈v.cls,∀ n∈c.own,n<t.texts.length
 glob:∀ p∈v.glob,p.1<t.texts.length
 nodup:(v.cls.map (·.name)).Nodup
section
variable {r:RH}{v:KV}
theorem cz.root (h:cz r v):dN r 19 v.rootW:=h (19,v.rootW) (by simp [KV.roles])
theorem cz.all (h:cz r v):dN r v.clsA v.clsW:=h (v.clsA,v.clsW) (by simp [KV.roles])
theorem cz.globs (h:cz r v):dN r v.globA (dO v.glob):=h (v.globA,dO v.glob) (by simp [KV.roles])
theorem cz.nil (h:cz r v):dN r 1 []:=h (1,[]) (by simp [KV.roles])
theorem cz.empty (h:cz r v):dN r 18 []:=h (18,[]) (by simp [KV.roles])
theorem cz.crole (h:cz r v){i:Nat} (hi:i<v.cls.length){p:ll} (hp:p∈crole v.cls[i] i):dN r p.1 p.2:=h p (by
 simp only [KV.roles,List.mem_cons]
 exact .inr (.inr (.inr (.inr (.inr (pY hi (by simpa using hp)))))))
theorem cz.cls (h:cz r v){i:Nat} (hi:i<v.cls.length):dN r (v.cls[i]).oop ((v.cls[i]).slots i):=h.crole hi (p:=((v.cls[i]).oop,(v.cls[i]).slots i)) (by simp [Kw.crole])
theorem cz.own (h:cz r v){i:Nat} (hi:i<v.cls.length):dN r (v.cls[i]).ownA ((v.cls[i]).own.map dI):=h.crole hi (p:=(_,_)) (by simp [Kw.crole])
theorem cz.of (h1:dN r 19 v.rootW) (h2:dN r v.clsA v.clsW) (h3:dN r v.globA (dO v.glob)) (h4:dN r 1 []) (h5:dN r 18 []) (h6:∀ p∈cK v.cls 0,dN r p.1 p.2):cz r v:=by
 intro p hp
 simp only [KV.roles,List.mem_cons] at hp
 rcases hp with rfl | rfl | rfl | rfl | rfl | hp
 ·exact h1
 ·exact h2
 ·exact h3
 ·exact h4
 ·exact h5
 ·exact h6 p hp
theorem cz.keep {r':RH}{P:Int->Prop} (h:cz r v) (hk:bd r r' P) (hp:∀ p∈v.roles,P p.1):cz r' v:=fun p hm=>(h p hm).keep hk (hp p hm)
theorem cz.inj (h:cz r v){i j:Nat} (hi:i<v.cls.length) (hj:j<v.cls.length) (he:(v.cls[i]).oop=(v.cls[j]).oop):i=j:=by
 have h1:=h.cls hi
 have h2:=h.cls hj
 rw [he] at h1
 have:=h1.uniq h2
 simp only [CV.slots,List.cons.injEq] at this
 omega
theorem cz.ne1 (h:cz r v){i:Nat} (hi:i<v.cls.length):(v.cls[i]).oop≠1:=fun e=>by
 have h1:=h.cls hi
 rw [e] at h1
 have:=h1.uniq h.nil
 simp [CV.slots] at this
theorem cz.idx (h:cz r v){c:CV} (hc:c∈v.cls):∃ i,∃ hi:i<v.cls.length,v.cls[i]=c:=List.getElem_of_mem hc
theorem cz.reach (hw:WFH r) (h:cz r v) (hs:KShape v){ws:List Int} (hk:(76:Int)∈ws):∀ p∈v.roles,Reaches r ws p.1:=by
 have to:∀ {o k:Int}{l m:List Int},Reaches r ws o->dN r o l->dN r k m->4*k∈l->Reaches r ws k:=fun h1 h2 h3 h4=>by
  have hb:=h3.bnd hw
  exact h1.arr h2 hb.1 hb.2.1 h3.there h4
 have h19:Reaches r ws 19:=Reaches.of_root (by decide) (by decide) h.root.there hk
 have hA:Reaches r ws v.clsA:=to h19 h.root h.all (by simp [KV.rootW])
 have hG:Reaches r ws v.globA:=to h19 h.root h.globs (by simp [KV.rootW])
 have hC:∀ {i:Nat} (hi:i<v.cls.length),Reaches r ws (v.cls[i]).oop:=fun {i} hi=>to hA h.all (h.cls hi) (List.mem_map.2 ⟨_,List.getElem_mem hi,rfl⟩)
 have h0:0<v.cls.length:=by have:=hs.many0;omega
 have hu:=hs.up0 h0
 intro p hp
 simp only [KV.roles,List.mem_cons] at hp
 rcases hp with rfl | rfl | rfl | rfl | rfl | hp
 ·exact h19
 ·exact hA
 ·exact hG
 ·exact to (hC h0) (h.cls h0) h.nil (by simp [CV.slots,hu.1])
 ·exact to (hC h0) (h.cls h0) h.empty (by simp [CV.slots,hu.2])
 ·obtain ⟨j,hj,hm⟩:=rj hp
  have ha:=h.crole hj (p:=p) (by simpa using hm)
  simp only [Kw.crole,List.mem_cons,List.not_mem_nil,or_false] at hm
  rcases hm with rfl | rfl | rfl | rfl
  ·exact hC hj
  ·exact to (hC hj) (h.cls hj) ha (by simp [CV.slots])
  ·exact to (hC hj) (h.cls hj) ha (by simp [CV.slots])
  ·exact to (hC hj) (h.cls hj) ha (by simp [CV.slots])
end
def dQ (r:RH):Prop:=∀ o∈r.objs,bg o.cls=3
theorem kE {r:RH} (h:dQ r){cls:Int} (hc:bg cls=3) (n f:Int):dQ (r.alloc cls n f).2:=by
 unfold RH.alloc
 split
 ·exact h
 split
 ·exact h
 split
 ·exact h
 split
 ·exact h
 ·intro o ho
  simp only [List.mem_append,List.mem_singleton] at ho
  rcases ho with ho | rfl
  ·exact h o ho
  ·exact hc
theorem pP {r:RH} (h:dQ r) (k i w:Int):dQ (r.put k i w).2:=by
 unfold RH.put
 split
 ·exact h
 split
 ·exact h
 split
 ·exact h
 ·intro o ho
  simp only [eR,List.mem_map] at ho
  obtain ⟨x,hx,rfl⟩:=ho
  split
  ·exact h x hx
  ·exact h x hx
theorem ut {r:RH} (h:dQ r) (k:Int):dQ (r.marks k).2:=by
 unfold RH.marks;split <;> exact h
theorem qQ {r:RH} (h:dQ r) (l:List Int):dQ (r.keep l).2:=by
 unfold RH.keep
 split
 ·exact h
 ·intro o ho
  obtain ⟨x,hx,e,_⟩:=jd ho
  have:=h x (List.mem_filter.1 hx).1
  rw [e];exact this
theorem rg {s:SP} (h:dQ s.h){cls:Int} (hc:bg cls=3) (n f:Int):dQ (s.alloc cls n f).2.h:=by
 unfold SP.alloc
 split
 ·exact kE h hc _ _
 ·exact kE (qQ h _) hc _ _
theorem qd {s:SP} (h:dQ s.h):dQ s.collect.2.h:=by
 unfold SP.collect;split
 ·exact h
 ·exact qQ h _
structure KS (s:SP) (v:KV):Prop where
 wf:WFS s
 gc:dQ s.h
 op:s.op=false
 king:s.king=19
 view:cz s.h v
 sep:Cs v
 shape:KShape v
theorem KS.roots {s:SP}{v:KV} (h:KS s v):s.roots=76 :: s.stack:=by unfold SP.roots;rw [h.king];rfl
theorem KS.reach {s:SP}{v:KV} (h:KS s v):∀ p∈v.roles,Reaches s.h s.roots p.1:=h.view.reach h.wf.h h.shape (by rw [h.roots];simp)
def RH.lay (r:RH) (o i:Int):List Int->RH
 | []=>r
 | w :: l=>RH.lay (r.put o i w).2 o (i+1) l
noncomputable def SP.make (s:SP) (cls:Int) (ws:List Int):(Int × Int) × SP :=
 if (s.alloc (4*cls) ws.length 0).1.2≠0 then ((0,(s.alloc (4*cls) ws.length 0).1.2),(s.alloc (4*cls) ws.length 0).2)
 else (((s.alloc (4*cls) ws.length 0).1.1,(SP.keepW { (s.alloc (4*cls) ws.length 0).2 with h:=(s.alloc (4*cls) ws.length 0).2.h.lay ((s.alloc (4*cls) ws.length 0).1.1 / 4) 0 ws } [(s.alloc (4*cls) ws.length 0).1.1]).1),
  (SP.keepW { (s.alloc (4*cls) ws.length 0).2 with h:=(s.alloc (4*cls) ws.length 0).2.h.lay ((s.alloc (4*cls) ws.length 0).1.1 / 4) 0 ws } [(s.alloc (4*cls) ws.length 0).1.1]).2)
noncomputable def SP.array (s:SP) (ws:List Int):(Int × Int) × SP:=if ws=[] then ((72,0),s) else s.make 11 ws
theorem pU {r:RH} (h:WFH r) (o i:Int) (l:List Int):WFH (r.lay o i l):=by
 induction l generalizing r i with
 | nil=>exact h
 | cons w l ih=>exact ih (iS h _ _ _) _
theorem Aa {r:RH} (h:dQ r) (o i:Int) (l:List Int):dQ (r.lay o i l):=by
 induction l generalizing r i with
 | nil=>exact h
 | cons w l ih=>exact ih (pP h _ _ _) _
theorem sA (r:RH) (o i:Int) (l:List Int):bd r (r.lay o i l) fun j=>j≠o:=by
 induction l generalizing r i with
 | nil=>exact bd.refl _ _
 | cons w l ih=>exact (lw o i w).trans (ih _ _)
theorem vg {r:RH}{o:Int}{pre l:List Int}{n:Nat} (h:dN r o (pre++List.replicate n 4)) (hl:l.length=n) (hw:∀ w∈l,cW w):dN (r.lay o pre.length l) o (pre++l):=by
 induction l generalizing r pre n with
 | nil=>subst hl;simpa [RH.lay] using h
 | cons w l ih =>
  subst hl
  simp only [RH.lay]
  have h1:=(qX h (i:=(pre.length:Int)) (w:=w) (by omega) (by simp;omega) (hw w (by simp))).1
  have e:(pre++List.replicate (w :: l).length 4).set (pre.length:Int).toNat w=(pre++[w])++List.replicate l.length 4:=by
   rw [Int.toNat_natCast,List.set_append_right _ _ (Nat.le_refl _)]
   simp [List.replicate_succ]
  rw [e] at h1
  have:=ih h1 rfl fun x hx=>hw x (by simp [hx])
  simpa using this
theorem lB {s:SP}{w:Int} (hw:cW w) (hs:s.stack.length<65536):s.keepW [w]=(0,{ s with stack:=s.stack++[w] }):=by
 unfold SP.keepW
 rw [if_neg (by simpa using hw),if_neg (by simp;omega)]
theorem cq {o:Int} (h0:1<=o) (h1:o<=65536):cW (4*o):=by
 unfold cW;have:=aW (4*o);omega
theorem jG {s:SP}{v:KV} (hk:KS s v) (hst:s.stack.length<65536){cls:Int} (hcls:1<=cls∧cls<=65536){ws:List Int} (hws:∀ w∈ws,cW w) :
  KS (s.make cls ws).2 v∧bd s.h (s.make cls ws).2.h (Reaches s.h s.roots) ∧
  ((s.make cls ws).1.2≠0->(s.make cls ws).2.stack=s.stack∧(s.make cls ws).1.1=0) ∧
  ((s.make cls ws).1.2=0->∃ o,(s.make cls ws).1.1=4*o∧(s.make cls ws).2.stack=s.stack++[4*o]∧1<=o∧o<=65536∧dN (s.make cls ws).2.h o ws∧¬ Reaches s.h s.roots o):=by
 have hal:=nF s (4*cls) ws.length 0
 have hawf:=rB hk.wf (4*cls) ws.length 0
 have hake:=mC hk.wf (4*cls) ws.length 0
 have hagc:=rg hk.gc (cls:=4*cls) (by have:=aW (4*cls);omega) ws.length 0
 unfold SP.make
 by_cases he:(s.alloc (4*cls) ws.length 0).1.2=0
 ·obtain ⟨o,e1,o1,o2,n0,n1,harr,hnr⟩:=lL hk.wf he
  rw [if_neg (by simpa using he)]
  rw [e1]
  have e2:4*o / 4=o:=by omega
  rw [e2]
  generalize (s.alloc (4*cls) ws.length 0).2=s1 at *
  have hko:bd s.h (s1.h.lay o 0 ws) (Reaches s.h s.roots):=hake.trans ((sA _ _ _ _).mono fun k hk he=>hnr (he ▸ hk))
  have hl:dN (s1.h.lay o 0 ws) o ws:=by
   have:=vg (pre:=[]) (n:=ws.length) (l:=ws) (by simpa using harr) rfl hws
   simpa using this
  rw [lB (cq o1 o2) (by simp only [hal.2.1];exact hst)]
  refine ⟨⟨?_,Aa hagc _ _ _,hal.2.2.trans hk.op,hal.1.trans hk.king,hk.view.keep hko hk.reach,hk.sep,hk.shape⟩,hko,fun h=>absurd rfl h,fun _=>⟨o,rfl,by simp [hal.2.1],o1,o2,hl,hnr⟩⟩
  refine { hawf with h:=pU hawf.h _ _ _,many:=?_,words:=fun w hw=>?_ }
  ·simp only [List.length_append,List.length_cons,List.length_nil,hal.2.1];omega
  ·rcases List.mem_append.1 hw with hw | hw
   ·exact hawf.words w hw
   ·simp only [List.mem_singleton] at hw;rw [hw];exact cq o1 o2
 ·rw [if_pos (by simpa using he)]
  exact ⟨⟨hawf,hagc,hal.2.2.trans hk.op,hal.1.trans hk.king,hk.view.keep hake hk.reach,hk.sep,hk.shape⟩,hake,fun _=>⟨hal.2.1,rfl⟩,fun h=>absurd h he⟩
end Kw
namespace Kw
open Go
theorem kn {t:TB} (s:ByteArray) (h:(t.add s).1.2=0):∃ n:Nat,(t.add s).1.1=n∧(t.add s).2.texts[n]?=some s∧∃ l,(t.add s).2.texts=t.texts++l:=by
 unfold TB.add at h ⊢
 split at h
 ·cases h
 rename_i hg
 rw [if_neg hg]
 cases hn:bB t.texts s with
 | some n =>
  simp only
  refine ⟨n,rfl,?_,[],by simp⟩
  have:∀ (l:List ByteArray) n,bB l s=some n->l[n]?=some s:=by
   intro l
   induction l with
   | nil=>intro n h;cases h
   | cons x l ih =>
    intro n h
    unfold bB at h
    by_cases hx:x=s
    ·rw [if_pos hx] at h;cases h;simp [hx]
    ·rw [if_neg hx] at h
     cases hm:bB l s with
     | none=>rw [hm] at h;cases h
     | some m=>rw [hm] at h;cases h;simpa using ih m hm
  exact this _ _ hn
 | none =>
  rw [hn] at h
  simp only at h ⊢
  split at h
  ·cases h
  rename_i hm
  rw [if_neg hm]
  exact ⟨t.texts.length,rfl,by simp,[s],rfl⟩
theorem mP (t:TB) (s:ByteArray):(t.add s).2.most=t.most∧∃ l,(t.add s).2.texts=t.texts++l:=by
 unfold TB.add
 split
 ·exact ⟨rfl,[],by simp⟩
 cases hn:bB t.texts s with
 | some n=>exact ⟨rfl,[],by simp⟩
 | none =>
  simp only
  split
  ·exact ⟨rfl,[],by simp⟩
  ·exact ⟨rfl,[s],rfl⟩
def TB.addAll (t:TB) (acc:List Int):List ByteArray->(List Int × Int) × TB
 | []=>((acc,0),t)
 | s :: l=>if (t.add s).1.2≠0 then (([],(t.add s).1.2),(t.add s).2) else TB.addAll (t.add s).2 (acc++[4*(t.add s).1.1+2]) l
theorem pK {t:TB} (h:WFT t) (acc:List Int) (l:List ByteArray):WFT (t.addAll acc l).2:=by
 induction l generalizing t acc with
 | nil=>exact h
 | cons s l ih =>
  unfold TB.addAll
  split
  ·exact fB h s
  ·exact ih (fB h s) _
theorem fF (t:TB) (acc:List Int) (l:List ByteArray):(t.addAll acc l).2.most=t.most∧∃ m,(t.addAll acc l).2.texts=t.texts++m:=by
 induction l generalizing t acc with
 | nil=>exact ⟨rfl,[],by simp [TB.addAll]⟩
 | cons s l ih =>
  have h1:=mP t s
  unfold TB.addAll
  split
  ·exact h1
  ·have h2:=ih (t.add s).2 (acc++[4*(t.add s).1.1+2])
   obtain ⟨m,e⟩:=h1.2
   obtain ⟨m',e'⟩:=h2.2
   exact ⟨h2.1.trans h1.1,m++m',by rw [e',e];simp⟩
theorem jg {t:TB} (acc:List Int) (l:List ByteArray) (h:(t.addAll acc l).1.2=0):∃ ns:List Nat,(t.addAll acc l).1.1=acc++ns.map dI∧ns.map (fun n=>(t.addAll acc l).2.texts[n]?)=l.map some:=by
 induction l generalizing t acc with
 | nil=>exact ⟨[],by simp [TB.addAll],rfl⟩
 | cons s l ih =>
  unfold TB.addAll at h ⊢
  split at h
  ·rename_i hn;exact absurd h hn
  ·rename_i hn
   rw [if_neg hn]
   have hz:(t.add s).1.2=0:=Classical.byContradiction hn
   obtain ⟨n,e1,e2,_⟩:=kn s hz
   obtain ⟨ns,e3,e4⟩:=ih _ h
   obtain ⟨_,m,e5⟩:=fF (t.add s).2 (acc++[4*(t.add s).1.1+2]) l
   refine ⟨n :: ns,?_,?_⟩
   ·rw [e3,e1];simp [dI]
   ·simp only [List.map_cons,e4]
    congr 1
    rw [e5]
    have hlt:n<(t.add s).2.texts.length:=by
     rcases Nat.lt_or_ge n (t.add s).2.texts.length with h | h
     ·exact h
     ·rw [List.getElem?_eq_none h] at e2;cases e2
    rw [List.getElem?_append_left hlt,e2]
def TB.back (t:TB) (n:Int):Int × TB:=if n<0∨(t.texts.length:Int)<n then (1,t) else (0,{ t with texts:=t.texts.take n.toNat })
theorem um {t t':TB} (h1:t'.most=t.most) (h2:∃ l,t'.texts=t.texts++l):(t'.back t.texts.length).2=t:=by
 obtain ⟨l,e⟩:=h2
 unfold TB.back
 rw [if_neg (by rw [e];simp;omega)]
 cases t with
 | mk most texts =>
  cases t' with
  | mk m ts =>
   simp only at e h1
   subst h1 e
   simp
def tx (t:TB) (n:Nat):ByteArray:=t.texts.getD n ⟨#[]⟩
theorem yf {t t':TB} (h:∃ l,t'.texts=t.texts++l){n:Nat} (hn:n<t.texts.length):tx t' n=tx t n:=by
 obtain ⟨l,e⟩:=h
 unfold tx
 rw [e,List.getD_eq_getElem?_getD,List.getD_eq_getElem?_getD,List.getElem?_append_left hn]
theorem dS {t:TB}{n:Nat}{s:ByteArray} (h:t.texts[n]?=some s):tx t n=s∧n<t.texts.length:=by
 refine ⟨by unfold tx;rw [List.getD_eq_getElem?_getD,h];rfl,?_⟩
 rcases Nat.lt_or_ge n t.texts.length with h1 | h1
 ·exact h1
 ·rw [List.getElem?_eq_none h1] at h;cases h
theorem jH {t:TB} (hw:WFT t){n:Nat} (hn:n<t.texts.length):cW (dI n):=by
 have h1:=hw.m1
 have h2:=hw.len
 unfold cW dI
 have:=aW (4*(n:Int)+2)
 omega
theorem KNames.grow {v:KV}{t t':TB} (h:KNames v t) (hw:WFT t') (hp:∃ l,t'.texts=t.texts++l):KNames v t':=by
 have:t.texts.length<=t'.texts.length:=by obtain ⟨l,e⟩:=hp;rw [e];simp
 exact ⟨hw,fun c hc=>Nat.lt_of_lt_of_le (h.name c hc) this,fun c hc n hn=>Nat.lt_of_lt_of_le (h.own c hc n hn) this,fun p hp=>Nat.lt_of_lt_of_le (h.glob p hp) this,h.nodup⟩
theorem gi {s:SP}{v:KV} (hk:KS s v) (hst:s.stack.length<65536){ws:List Int} (hws:∀ w∈ws,cW w) :
  KS (s.array ws).2 v∧bd s.h (s.array ws).2.h (Reaches s.h s.roots)∧(∃ l,(s.array ws).2.stack=s.stack++l∧l.length<=1) ∧
  ((s.array ws).1.2=0->∃ o,(s.array ws).1.1=4*o∧1<=o∧o<=65536∧dN (s.array ws).2.h o ws∧Reaches (s.array ws).2.h (s.array ws).2.roots o∧(ws=[]∨¬ Reaches s.h s.roots o)):=by
 unfold SP.array
 by_cases he:ws=[]
 ·rw [if_pos he]
  subst he
  refine ⟨hk,bd.refl _ _,⟨[],by simp,by simp⟩,fun _=>⟨18,rfl,by decide,by decide,hk.view.empty,?_,.inl rfl⟩⟩
  exact hk.reach (18,[]) (by simp [KV.roles])
 ·rw [if_neg he]
  obtain ⟨h1,h2,h3,h4⟩:=jG hk hst (cls:=11) (by decide) hws
  refine ⟨h1,h2,?_,fun hz=>?_⟩
  ·by_cases hz:(s.make 11 ws).1.2=0
   ·obtain ⟨o,_,e,_⟩:=h4 hz
    exact ⟨[4*o],e,by simp⟩
   ·exact ⟨[],by rw [(h3 hz).1];simp,by simp⟩
  ·obtain ⟨o,e1,e2,o1,o2,ha,hn⟩:=h4 hz
   refine ⟨o,e1,o1,o2,ha,?_,.inr hn⟩
   exact Reaches.of_root o1 o2 ha.there (by rw [h1.roots,e2];simp)
noncomputable def cL (s:SP) (t:TB) (cw:List Int) (c:Int):(Int × Int) × SP × TB :=
 if (s.array (cw++[c])).1.2≠0 then ((0,(s.array (cw++[c])).1.2),(s.array (cw++[c])).2,t)
 else ((c / 4,0),((s.array (cw++[c])).2.setRoot 0 (s.array (cw++[c])).1.1).2,t)
def bC (n:Int) (up l:Int) (k:Nat):List Int:=[n,4*up,l,72,72,1,2*((k:Int)+1)+1]
noncomputable def fu (s:SP) (t:TB) (cw:List Int) (n up l:Int):(Int × Int) × SP × TB :=
 if (s.make 12 (bC n up l cw.length)).1.2≠0 then ((0,(s.make 12 (bC n up l cw.length)).1.2),(s.make 12 (bC n up l cw.length)).2,t)
 else cL (s.make 12 (bC n up l cw.length)).2 t cw (s.make 12 (bC n up l cw.length)).1.1
noncomputable def iv (s:SP) (t:TB) (cw:List Int) (n up:Int) (names:List Int):(Int × Int) × SP × TB :=
 if (s.array names).1.2≠0 then ((0,(s.array names).1.2),(s.array names).2,t)
 else fu (s.array names).2 t cw n up (s.array names).1.1
noncomputable def eY (s:SP) (t:TB) (cw:List Int) (name:ByteArray) (up:Int) (own:List ByteArray):(Int × Int) × SP × TB :=
 if (t.add name).1.2≠0 then ((0,(t.add name).1.2),s,(t.add name).2)
 else if ((t.add name).2.addAll [] own).1.2≠0 then ((0,((t.add name).2.addAll [] own).1.2),s,((t.add name).2.addAll [] own).2)
 else iv s ((t.add name).2.addAll [] own).2 cw (4*(t.add name).1.1+2) up ((t.add name).2.addAll [] own).1.1
def mO (s:SP) (t:TB) (mark cnt kept e:Int):SP × TB :=
 if e=0 then ((s.drop ((s.stack.length:Int)-kept)).2,t)
 else ({ (s.drop ((s.stack.length:Int)-kept)).2 with h:=if e=24 then s.h else (s.h.marks mark).2 },(t.back cnt).2)
noncomputable def bn (s:SP) (t:TB) (cw:List Int) (name:ByteArray) (up:Int) (own:List ByteArray):(Int × Int) × SP × TB :=
 ((if (eY s t cw name up own).1.2=0 then (eY s t cw name up own).1.1 else 0,(eY s t cw name up own).1.2),mO (eY s t cw name up own).2.1 (eY s t cw name up own).2.2 s.h.mark t.texts.length s.stack.length (eY s t cw name up own).1.2)
theorem t8 {v:KV}{r:RH} (hv:cz r v) (hs:Cs v):∀ p∈(v.clsA,v.clsW) :: (v.globA,dO v.glob) :: (1,[]) :: (18,[]) :: cK v.cls 0,p.1≠19:=by
 intro p hp he
 have h:=(List.pairwise_cons.1 hs).1 p hp he.symm
 simp [KV.rootW] at h
theorem lr {s:SP}{v:KV} (hk:KS s v){i w:Int} (h0:0<=i) (h1:i<8) (hw:cW w) :
  dN (s.setRoot i w).2.h 19 (v.rootW.set i.toNat w)∧bd s.h (s.setRoot i w).2.h (fun k=>k≠19)∧WFS (s.setRoot i w).2∧(s.setRoot i w).2.king=19∧(s.setRoot i w).2.op=false∧(s.setRoot i w).2.stack=s.stack∧dQ (s.setRoot i w).2.h:=by
 unfold SP.setRoot
 have hl:v.rootW.length=8:=by simp [KV.rootW,hk.shape.rest]
 refine ⟨?_,by have:=lw (r:=s.h) s.king i w;rw [hk.king] at this ⊢;exact this,{ hk.wf with h:=iS hk.wf.h _ _ _ },hk.king,hk.op,rfl,pP hk.gc _ _ _⟩
 have:=(qX hk.view.root h0 (by rw [hl];exact h1) hw).1
 simp only [hk.king];exact this
end Kw
namespace Go.Proofs.YtgcoppcogllpbaaGreatDoor
open Kw
theorem cP {p:Prop} [Decidable p] {X Y:Prop} (h1:p->X) (h2:¬ p->Y):if p then X else Y:=by
 split
 ·exact h1 ‹_›
 ·exact h2 ‹_›
section
variable {H:ae}{b:Nat}{F F':az}{t:TB}{Q:QT}
def qI (t:TB) (n:Int):Value:=if h:0<=n∧n<t.texts.length then .tuple #[.string (t.texts[n.toNat]'(by omega)),.int .i64 0] else .tuple #[.string (⟨#[]⟩:ByteArray),.int .i64 61]
end
noncomputable instance memDec (s:ByteArray) (l:List ByteArray):Decidable (s∈l):=Classical.propDecidable _
theorem gM {es:List (Key × Value)}{k:Key}:bS es k=none↔k∉es.map (·.1):=by
 induction es with
 | nil=>simp [bS]
 | cons p l ih =>
  unfold bS
  by_cases h:k=p.1
  ·simp [h]
  ·rw [if_neg h,ih]
   simp [h]
theorem rv {es:List (Key × Value)} (hnd:(es.map (·.1)).Nodup) (k k':Key):bS (kd es k) k'=if k'=k then none else bS es k':=by
 induction es with
 | nil=>simp [kd,bS]
 | cons p l ih =>
  rw [List.map_cons,List.nodup_cons] at hnd
  unfold kd
  by_cases h:k=p.1
  ·rw [if_pos h]
   by_cases h2:k'=k
   ·rw [if_pos h2]
    rw [gM,h2,h];exact hnd.1
   ·rw [if_neg h2]
    have:k'≠p.1:=fun e=>h2 (e.trans h.symm)
    conv=>rhs;unfold bS
    rw [if_neg this]
  ·rw [if_neg h]
   unfold bS
   by_cases h3:k'=p.1
   ·rw [if_pos h3,if_pos h3,if_neg (fun e=>h (e.symm.trans h3))]
   ·rw [if_neg h3,if_neg h3];exact ih hnd.2
theorem sR (es:List (Key × Value)) (k:Key):(kd es k).Sublist es:=by
 induction es with
 | nil=>exact List.Sublist.refl _
 | cons p l ih =>
  unfold kd
  split
  ·exact List.sublist_cons_self _ _
  ·exact ih.cons_cons _
def kx (H:ae) (b:Nat) (F:az) (t:TB):Prop:=∃ a l c F' m es,F=b :: m :: F'∧b∉F'∧b≠m∧m∉F'∧aV H b #[.int .i64 t.most,.slice a l c,.map (some m)]∧bN 1 H a l c (aZ t.texts) F'∧bT H m es ∧
 (∀ p∈es,p.1.of .string)∧(∀ s,bS es (.str s)=(bB t.texts s).map fun n:Nat=>.int .i64 n)∧WFT t∧(es.map (·.1)).Nodup
section
variable {H:ae}{b:Nat}{F F':az}{t:TB}{Q:QT}
theorem kx.wf (h:kx H b F t):WFT t:=by obtain ⟨_,_,_,_,_,_,_,_,_,_,_,_,_,_,_,h,_⟩:=h;exact h
theorem kx.lt (h:kx H b F t):∀ x∈F,x<H.size:=by
 obtain ⟨a,l,c,F',m,es,rfl,h1,h2,h3,hB,hO,hM,_⟩:=h
 intro x hx
 rcases List.mem_cons.1 hx with rfl | hx
 ·exact hB.lt
 ·rcases List.mem_cons.1 hx with rfl | hx
  ·exact hM.lt
  ·exact hO.lt x hx
theorem kx.fr {H':ae}{G:az} (h:kx H b F t) (hf:Fr G H H') (hd:co F G):kx H' b F t:=by
 obtain ⟨a,l,c,F',m,es,rfl,h1,h2,h3,hB,hO,hM,h4⟩:=h
 exact ⟨a,l,c,F',m,es,rfl,h1,h2,h3,hB.fr hf (hd b (by simp)),hO.fr hf fun x hx=>hd x (by simp [hx]),hM.fr hf (hd m (by simp)),h4⟩
theorem jR (hT:kx H b F t) (h:Q (.bool false) H):ac PP AC #[.pointer (some ⟨b,0,none⟩)] Q H:=by
 obtain ⟨a,l,c,F',m,es,rfl,h1,h2,h3,hB,_⟩:=hT
 have hc2:aa H ⟨b,2,none⟩=some (.map (some m)):=hB.cell 2
 apply vI
 unfold Bd
 simp only [Option.isNone_some,cond_false]
 exact ⟨_,rfl,_,hc2,h⟩
theorem uA {n:Int} (hbad:¬ (0<=n∧n<=4096)->Q (.tuple #[.pointer none,.int .i64 1]) H) (h:(0<=n∧n<=4096)->∀ b F H',kx H' b F ⟨n,[]⟩->Fr [] H H'->(∀ x∈F,H.size<=x)->Q (.tuple #[.pointer (some ⟨b,0,none⟩),.int .i64 0]) H'):ac PP CX #[.int .i64 n] Q H:=by
 apply AA
 unfold EP iV pV lV
 simp only [af]
 refine cP (fun h1=>hbad (by omega)) fun h1=>cP (fun h2=>hbad (by omega)) fun h2=>?_
 refine h (by omega) _ _ _ ⟨none,0,0,[],H.size,[],rfl,by simp,by simp,by simp,aV.new _ _ _,bN.nil 1 _,bT.fr (H:=H.push (.map #[] 0)) (G:=[]) (bT.new H) (Fr.push [] _ _) (by simp),by simp,fun s=>by simp [bS,bB],?_,by simp⟩ ((Fr.push [] H _).more) (by simp)
 exact ⟨by simp;omega,by simp;omega,by simp;omega,by simp,by simp⟩
theorem oP (hT:kx H b F t):∃ a l c m es,aa H ⟨b,0,none⟩=some (.int .i64 t.most)∧aa H ⟨b,1,none⟩=some (.slice a l c)∧aa H ⟨b,2,none⟩=some (.map (some m))∧bT H m es∧(∀ p∈es,p.1.of .string)∧(∀ s,bS es (.str s)=(bB t.texts s).map fun n:Nat=>.int .i64 n)∧Rd 1 H a l (aZ t.texts)∧l=t.texts.length:=by
 obtain ⟨a,l,c,F',m,es,rfl,h1,h2,h3,hB,hO,hM,h4,h5,h6⟩:=hT
 exact ⟨a,l,c,m,es,hB.cell 0,hB.cell 1,hB.cell 2,hM,h4,h5,hO.rd,by have:=hO.len;simpa [aZ] using this.symm⟩
theorem rF (hT:kx H b F t) (h:Q (.int .i64 (t.texts.length:Int)) H):ac PP CA #[.pointer (some ⟨b,0,none⟩)] Q H:=by
 obtain ⟨a,l,c,m,es,hc0,hc1,hc2,hM,ho,hg,_,hl⟩:=oP hT
 apply Aj
 unfold EJ iV pV lV
 refine jR hT ⟨_,rfl,?_⟩
 simp only [cond_false]
 refine ⟨_,rfl,_,_,_,hc1,?_⟩
 rw [hl];exact h
theorem nU (hT:kx H b F t){n:Int} (h:Q (qI t n) H):ac PP zZ #[.pointer (some ⟨b,0,none⟩),.int .i64 n] Q H:=by
 obtain ⟨a,l,c,m,es,hc0,hc1,hc2,hM,ho,hg,hrd,hl⟩:=oP hT
 apply xx
 unfold Dy iV pV sV lV
 unfold qI at h
 refine jR hT ⟨_,rfl,?_⟩
 simp only [cond_false,af]
 refine cP (fun h2=>?_) fun h2=>?_
 ·rw [dif_neg (by omega)] at h;exact h
 refine ⟨_,rfl,_,_,_,hc1,cP (fun h3=>?_) fun h3=>?_⟩
 ·rw [dif_neg (by omega)] at h;exact h
 ·rw [dif_pos (by omega)] at h
  obtain ⟨p,hlt2,rfl,hcell⟩:=hrd.str (i:=n) (by omega) (by omega)
  exact ⟨_,rfl,_,_,_,hc1,⟨by omega,by omega⟩,_,rfl,_,by rw [Nat.mul_one];exact hcell,h⟩
theorem mQ (hT:kx H b F t){s:ByteArray} (h:∀ H' F',kx H' b F' (t.add s).2->Up F H F' H'->Q (.tuple #[.int .i64 (t.add s).1.1,.int .i64 (t.add s).1.2]) H'):ac PP yG #[.pointer (some ⟨b,0,none⟩),.string s] Q H:=by
 have hT0:=hT
 have hlt0:=hT.lt
 have hwf:=fB hT.wf s
 have hmi:cp PP 155=some (.string,some (.int .i64 0)):=by kernel_rfl
 have hs1:aH PP 73=some (1,16,some (.string (⟨#[]⟩:ByteArray))):=by kernel_rfl
 obtain ⟨a,l,c,F',m,es,rfl,h1,h2,h3,hB,hO,hM,ho,hg,hw,hnd⟩:=hT
 have hc0:aa H ⟨b,0,none⟩=some (.int .i64 t.most):=hB.cell 0
 have hc1:aa H ⟨b,1,none⟩=some (.slice a l c):=hB.cell 1
 have hc2:aa H ⟨b,2,none⟩=some (.map (some m)):=hB.cell 2
 have hl:l=t.texts.length:=by have:=hO.len;simpa [aZ] using this.symm
 have hm1:=hw.m1
 have hlen:=hw.len
 apply vK
 unfold BX A0 iV pV sV lV
 refine jR hT0 ⟨_,rfl,?_⟩
 simp only [cond_false,af]
 unfold TB.add at h hwf
 refine cP (fun g1=>?_) fun g1=>cP (fun g2=>?_) fun g2=>?_
 ·rw [if_pos (by unfold bi;omega)] at h;exact h H _ hT0 (Up.refl _ _)
 ·rw [if_pos (by unfold bi;omega)] at h;exact h H _ hT0 (Up.refl _ _)
 have hgd:¬ ¬ bi s:=by unfold bi;omega
 rw [if_neg hgd] at h hwf
 refine ⟨_,rfl,_,hc2,?_⟩
 refine ij (k:=.str s) hmi trivial ho hM ?_
 rw [hg s]
 cases hn:bB t.texts s with
 | some n =>
  rw [hn] at h
  refine ⟨_,_,rfl,?_⟩
  exact h H _ hT0 (Up.refl _ _)
 | none =>
  rw [hn] at h hwf
  simp only at h hwf
  refine ⟨_,_,rfl,?_⟩
  simp only [Option.map_none,Option.isSome_none,cond_false]
  refine ⟨_,rfl,_,_,_,hc1,_,rfl,_,hc0,cP (fun g3=>?_) fun g3=>?_⟩
  ·rw [if_pos (by omega)] at h;exact h H _ hT0 (Up.refl _ _)
  ·rw [if_neg (by omega)] at h hwf
   refine ⟨_,rfl,_,_,_,hc1,?_⟩
   refine bI hs1 rfl (by kernel_rfl) hO rfl (by simp [dB]) (by omega) (by decide) (by decide) fun a' c' F3 H2 k1 k2 k3=>⟨_,_,_,rfl,?_⟩
   have hbF3:b∉F3:=fun hx=>by
    rcases k2.2 b hx with h4 | h4
    ·exact h1 h4
    ·have:=hlt0 b (by simp);omega
   have hmF3:m∉F3:=fun hx=>by
    rcases k2.2 m hx with h4 | h4
    ·exact h3 h4
    ·have:=hlt0 m (by simp);omega
   have hB2:=hB.fr k2.1 h1
   have hBs:=hB2.set 1 (.slice a' (l+1) c')
   have hMs:=(hM.fr k2.1 h3).of_eq (H':=aB H2 ⟨b,1,none⟩ (.slice a' (l+1) c')) (cy (Ne.symm h2))
   refine ⟨_,rfl,hB2.wr (by simp),_,rfl,_,hBs.cell 2,?_⟩
   refine eO (k:=.str s) hmi trivial ho hMs fun H4 hM4 hf4=>?_
   rw [hl]
   have hfb:Fr [b] H2 (aB H2 ⟨b,1,none⟩ (.slice a' (l+1) c')):=Fr.set (by simp)
   refine h H4 (b :: m :: F3) ⟨a',l+1,c',F3,m,_,rfl,hbF3,h2,hmF3,hBs.fr hf4 (by simpa using h2),?_,hM4,?_,fun x=>?_,hwf,?_⟩ ⟨?_,fun x hx=>?_⟩
   ·have h5:=(k1.fr hfb (fun x hx hn=>hbF3 (by simp only [List.mem_singleton] at hn;rw [←hn];exact hx))).fr hf4 (fun x hx hn=>hmF3 (by simp only [List.mem_singleton] at hn;rw [←hn];exact hx))
    simp only
    rw [dT];exact h5
   ·intro p hp
    have:∀ (es:List (Key × Value)),(∀ p∈es,p.1.of .string)->∀ p∈i6 es (.str s) (.int .i64 (t.texts.length:Int)),p.1.of .string:=by
     intro es
     induction es with
     | nil=>intro _ p hp;simp [i6] at hp;subst hp;trivial
     | cons q es ih =>
      intro hes p hp
      unfold i6 at hp
      split at hp
      ·rcases List.mem_cons.1 hp with rfl | hp
       ·trivial
       ·exact hes p (by simp [hp])
      ·rcases List.mem_cons.1 hp with rfl | hp
       ·exact hes _ (by simp)
       ·exact ih (fun p hp=>hes p (by simp [hp])) p hp
    rw [hl] at hp
    exact this es ho p hp
   ·rw [rI,hg x,ml]
    by_cases hx:x=s
    ·subst hx
     rw [hn];simp [hl]
    ·rw [if_neg (by simpa using hx)]
     cases bB t.texts x with
     | some n=>rfl
     | none=>simp only;rw [if_neg (fun e:s=x=>hx e.symm)]
   ·have hgn:bS es (.str s)=none:=by rw [hg s,hn];rfl
    rw [gA (cU.2 hgn),List.map_append,List.nodup_append]
    refine ⟨hnd,by simp,fun x hx y hy hxy=>?_⟩
    simp only [List.map_cons,List.map_nil,List.mem_singleton] at hy
    subst hy
    subst hxy
    exact (gM.1 hgn) hx
   ·exact ((k2.1.mono fun x hx=>by simp [hx]).step (by simp)).trans (hf4.mono fun x hx=>by simp only [List.mem_singleton] at hx;simp [hx])
   ·rcases List.mem_cons.1 hx with rfl | hx
    ·exact .inl (by simp)
    ·rcases List.mem_cons.1 hx with rfl | hx
     ·exact .inl (by simp)
     ·exact (k2.2 x hx).imp (fun h4=>by simp [h4]) id
theorem pS {l:List ByteArray} (hnd:l.Nodup) (n:Nat) (s:ByteArray):bB (l.take n) s=if s∈l.drop n then none else bB l s:=by
 induction l generalizing n with
 | nil=>simp [bB]
 | cons x l ih =>
  rw [List.nodup_cons] at hnd
  cases n with
  | zero =>
   simp only [List.take_zero,List.drop_zero,bB]
   by_cases h:s∈x :: l
   ·rw [if_pos h]
   ·rw [if_neg h]
    have h1:x≠s:=fun e=>h (by simp [e])
    have h2:bB l s=none:=ik.2 fun hm=>h (by simp [hm])
    rw [if_neg h1,h2];rfl
  | succ n =>
   simp only [List.take_succ_cons,List.drop_succ_cons,bB]
   by_cases h1:x=s
   ·subst h1
    have:x∉l.drop n:=fun hm=>hnd.1 (List.mem_of_mem_drop hm)
    simp [this]
   ·rw [if_neg h1,if_neg h1,ih hnd.2]
    split <;> rfl
theorem uw (hT:kx H b F t){n:Int} (h:∀ H',kx H' b F (TB.back t n).2->Fr F H H'->Q (.int .i64 (TB.back t n).1) H'):ac PP yk #[.pointer (some ⟨b,0,none⟩),.int .i64 n] Q H:=by
 have hT0:=hT
 have hlt0:=hT.lt
 have hmi:cp PP 155=some (.string,some (.int .i64 0)):=by kernel_rfl
 obtain ⟨a,l,c,F',m,es,rfl,h1,h2,h3,hB,hO,hM,ho,hg,hw,hnd⟩:=hT
 have hc1:aa H ⟨b,1,none⟩=some (.slice a l c):=hB.cell 1
 have hl:l=t.texts.length:=by have:=hO.len;simpa [aZ] using this.symm
 have hm1:=hw.m1
 have hlen:=hw.len
 have hlc:=hO.2.1
 apply vd
 unfold Dz iV wW pV sV lV
 unfold TB.back at h
 refine jR hT0 ⟨_,rfl,?_⟩
 simp only [cond_false,af]
 refine aA (fun g1=>?_) fun g1=>?_
 ·rw [if_pos (.inl g1)] at h;exact h H hT0 (Fr.refl _ _)
 refine ⟨_,rfl,_,_,_,by rw [ak];exact hc1,aA (fun g2=>?_) fun g2=>?_⟩
 ·rw [if_pos (by omega)] at h;exact h H hT0 (Fr.refl _ _)
 rw [if_neg (by omega)] at h
 have e1:IntKind.wrap .i64 ((l:Int)-n)=(l:Int)-n:=ah (by omega) (by omega)
 refine ⟨_,rfl,_,_,_,by rw [ak];exact hc1,?_⟩
 rw [e1]
 refine ⟨fun w H'=>∃(i:Nat) (es':List (Key × Value)),w=[.int .i64 i]∧(i:Int)<=(l:Int)-n∧Fr [m] H H'∧bT H' m es'∧es'.Sublist es∧∀ s,bS es' (.str s)=if s∈(t.texts.drop n.toNat).take i then none else bS es (.str s),fun w _=>match w with
  | [.int _ i]=>((l:Int)-n-i).toNat
  | _=>0,⟨0,es,rfl,by omega,Fr.refl _ _,hM,List.Sublist.refl _,by simp⟩,?_⟩
 rintro w H1 ⟨i,es',rfl,hi,hf,hM1,hsub,hg1⟩ _
 have hB1:=hB.fr hf (by simpa using h2)
 have hO1:=hO.fr hf (fun x hx hm=>h3 (by simp only [List.mem_singleton] at hm;rw [←hm];exact hx))
 refine ⟨_,rfl,aA (fun g3=>?_) fun g3=>?_⟩
 ·have e2:IntKind.wrap .i64 (n+(i:Int))=n+i:=ah (by omega) (by omega)
  have e3:IntKind.wrap .i64 ((i:Int)+1)=((i+1:Nat):Int):=by rw [ah (by omega) (by omega)];omega
  rw [e2,e3]
  obtain ⟨p,hlt2,rfl,hcell⟩:=hO1.rd.str (i:=n+(i:Int)) (by omega) (by omega)
  refine ⟨_,rfl,_,by rw [ak];exact hB1.cell 2,_,rfl,_,_,_,by rw [ak];exact hB1.cell 1,⟨by omega,by omega⟩,_,rfl,_,by rw [Nat.mul_one];exact hcell,?_⟩
  have hnd1:(es'.map (·.1)).Nodup:=hnd.sublist (hsub.map _)
  refine pZ (k:=.str t.texts[(n+(i:Int)).toNat]) hmi trivial (fun p hp=>ho p (hsub.subset hp)) hM1 fun H2 hM2 hf2=>⟨trivial,⟨i+1,_,rfl,by omega,hf.trans hf2,hM2,(sR _ _).trans hsub,fun s=>?_⟩,by simp;omega⟩
  have hdl:i<(t.texts.drop n.toNat).length:=by rw [List.length_drop];omega
  have htk:(t.texts.drop n.toNat).take (i+1)=(t.texts.drop n.toNat).take i++[t.texts[(n+(i:Int)).toNat]]:=by
   rw [List.take_succ_eq_append_getElem hdl,List.getElem_drop]
   congr 3;omega
  rw [rv hnd1,hg1,htk]
  by_cases hs:s=t.texts[(n+(i:Int)).toNat]
  ·rw [if_pos (by rw [hs]),if_pos (by rw [hs];simp)]
  ·rw [if_neg (by simpa using hs)]
   simp only [List.mem_append,List.mem_singleton,hs,or_false]
 ·have hin:(i:Int)=(l:Int)-n:=by omega
  have htk:(t.texts.drop n.toNat).take i=t.texts.drop n.toNat:=List.take_of_length_le (by rw [List.length_drop];omega)
  rw [htk] at hg1
  refine ⟨_,rfl,_,_,_,by rw [ak];exact hB1.cell 1,⟨by omega,by omega⟩,_,rfl,by rw [ak];exact hB1.wr (by simp),?_⟩
  rw [ak]
  have hfb:Fr [b] H1 (aB H1 ⟨b,1,none⟩ (.slice a n.toNat c)):=Fr.set (by simp)
  refine h _ ⟨a,n.toNat,c,F',m,es',rfl,h1,h2,h3,hB1.set 1 _,?_,hM1.fr hfb (by simpa using Ne.symm h2),fun p hp=>ho p (hsub.subset hp),fun s=>?_,?_,hnd.sublist (hsub.map _)⟩ ((hf.mono fun x hx=>by simp only [List.mem_singleton] at hx;simp [hx]).trans (hfb.mono fun x hx=>by simp only [List.mem_singleton] at hx;simp [hx]))
  ·have h4:=hO1.fr hfb (fun x hx hm=>h1 (by simp only [List.mem_singleton] at hm;rw [←hm];exact hx))
   refine ⟨by simp [aZ];omega,by omega,?_⟩
   rcases h4.2.2 with ⟨h6,h7,h8⟩ | ⟨b',cs,h6,h7,h8,h9,h10⟩
   ·exact .inl ⟨h6,h7,h8⟩
   ·refine .inr ⟨b',cs,h6,h7,h8,h9,?_⟩
    have h11:(cs.toList.take (l*1)).take (n.toNat*1)=(aZ t.texts).take (n.toNat*1):=by rw [h10]
    rw [List.take_take] at h11
    have h12:min (n.toNat*1) (l*1)=n.toNat*1:=by omega
    rw [h12] at h11
    rw [h11]
    simp [aZ,List.map_take]
  ·rw [hg1 s,pS hw.nodup,hg s]
   split <;> rfl
  ·exact { hw with len:=by simp;omega,nodup:=hw.nodup.sublist (List.take_sublist _ _),good:=fun s hs=>hw.good s (List.mem_of_mem_take hs) }
end
end Go.Proofs.YtgcoppcogllpbaaGreatDoor
