/- Lemmas for RPU: functions of the program as predicate transformers, and their contracts. -/
import Derived.Test.YtgjfejoohojokaaGreatDoorZU1
import Derived.Test.YtgjfejoohojokaaGreatDoorProg
import Derived.Shelf.SlSortCmp.Whole1
import Derived.Ground.SlsfProg
import Derived.Shelf.Sort.Plain
import Derived.Ground.NamesProg
set_option linter.all false
set_option maxRecDepth 100000
set_option maxHeartbeats 4000000
namespace Go.Proofs
open Go.Shelf
def Tryz.sortL_ren:Go.Shelf.Ren:=⟨fun | 6=>284 | 15=>282 | 14=>350 | 28=>348 | 29=>349 | 20=>374 | 21=>375 | 22=>376 | 23=>377 | 24=>378 | 25=>379 | 26=>380 | 27=>381 | 46=>392 | 47=>370 | 48=>371 | 49=>393 | 50=>394 | 57=>398 | n=>n,fun | 22=>25 | 24=>3 | 25=>182 | 3=>3 | 39=>79 | 0=>0 | 53=>286 | 55=>288 | 4=>4 | 46=>280 | 45=>279 | 50=>180 | 5=>5 | 9=>9 | 66=>313 | 70=>317 | 76=>329 | 77=>88 | n=>n,fun | n=>n⟩
theorem Tryz.sortL:Go.Proofs.SlLaysF.n6 Tryz.prog Tryz.sortL_ren:={
 mixed:=by kernel_rfl
 f6:=⟨Tryz.f284.name,by decide,Tryz.func284.trans (congrArg some (by kernel_rfl))⟩
 f14:=⟨Tryz.f350.name,by decide,Tryz.func350.trans (congrArg some (by kernel_rfl))⟩
 f15:=Tryz.func282.trans (congrArg some (by kernel_rfl))
 f20:=⟨Tryz.f374.name,by decide,Tryz.func374.trans (congrArg some (by kernel_rfl))⟩
 f21:=⟨Tryz.f375.name,by decide,Tryz.func375.trans (congrArg some (by kernel_rfl))⟩
 f22:=⟨Tryz.f376.name,by decide,Tryz.func376.trans (congrArg some (by kernel_rfl))⟩
 f23:=⟨Tryz.f377.name,by decide,Tryz.func377.trans (congrArg some (by kernel_rfl))⟩
 f24:=⟨Tryz.f378.name,by decide,Tryz.func378.trans (congrArg some (by kernel_rfl))⟩
 f25:=⟨Tryz.f379.name,by decide,Tryz.func379.trans (congrArg some (by kernel_rfl))⟩
 f26:=⟨Tryz.f380.name,by decide,Tryz.func380.trans (congrArg some (by kernel_rfl))⟩
 f27:=⟨Tryz.f381.name,by decide,Tryz.func381.trans (congrArg some (by kernel_rfl))⟩
 f28:=Tryz.func348.trans (congrArg some (by kernel_rfl))
 f29:=Tryz.func349.trans (congrArg some (by kernel_rfl))
 f46:=⟨Tryz.f392.name,by decide,Tryz.func392.trans (congrArg some (by kernel_rfl))⟩
 f47:=Tryz.func370.trans (congrArg some (by kernel_rfl))
 f48:=Tryz.func371.trans (congrArg some (by kernel_rfl))
 f49:=⟨Tryz.f393.name,by decide,Tryz.func393.trans (congrArg some (by kernel_rfl))⟩
 f50:=⟨Tryz.f394.name,by decide,Tryz.func394.trans (congrArg some (by kernel_rfl))⟩
 f57:=⟨Tryz.f398.name,by decide,Tryz.func398.trans (congrArg some (by kernel_rfl))⟩
 t0:=Tryz.underlying0
 a0:=Tryz.isAgg0
 z0:=Tryz.sizeOf0
 v0:=Tryz.zeroValue0
 t3:=Tryz.underlying3
 a3:=Tryz.isAgg3
 z3:=Tryz.sizeOf3
 v3:=Tryz.zeroValue3
 t4:=Tryz.underlying4
 a4:=Tryz.isAgg4
 z4:=Tryz.sizeOf4
 v4:=Tryz.zeroValue4
 t5:=Tryz.underlying5
 a5:=Tryz.isAgg5
 z5:=Tryz.sizeOf5
 v5:=Tryz.zeroValue5
 t9:=Tryz.underlying9
 a9:=Tryz.isAgg9
 z9:=Tryz.sizeOf9
 v9:=Tryz.zeroValue9
 t22:=Tryz.underlying25
 a22:=Tryz.isAgg25
 z22:=Tryz.sizeOf25
 v22:=Tryz.zeroValue25
 a24:=Tryz.isAgg3
 z24:=Tryz.sizeOf3
 t25:=Tryz.underlying182
 a25:=Tryz.isAgg182
 z25:=Tryz.sizeOf182
 v25:=Tryz.zeroValue182
 t39:=Tryz.underlying79
 a39:=Tryz.isAgg79
 z39:=Tryz.sizeOf79
 v39:=Tryz.zeroValue79
 t45:=Tryz.underlying279
 a45:=Tryz.isAgg279
 z45:=Tryz.sizeOf279
 v45:=Tryz.zeroValue279
 t46:=Tryz.underlying280
 a46:=Tryz.isAgg280
 z46:=Tryz.sizeOf280
 v46:=Tryz.zeroValue280
 t50:=Tryz.underlying180
 a50:=Tryz.isAgg180
 z50:=Tryz.sizeOf180
 v50:=Tryz.zeroValue180
 t53:=Tryz.underlying286
 a53:=Tryz.isAgg286
 z53:=Tryz.sizeOf286
 v53:=Tryz.zeroValue286
 t55:=Tryz.underlying288
 a55:=Tryz.isAgg288
 z55:=Tryz.sizeOf288
 v55:=Tryz.zeroValue288
 t66:=Tryz.underlying313
 a66:=Tryz.isAgg313
 z66:=Tryz.sizeOf313
 v66:=Tryz.zeroValue313
 t70:=Tryz.underlying317
 a70:=Tryz.isAgg317
 z70:=Tryz.sizeOf317
 v70:=Tryz.zeroValue317
 t76:=Tryz.underlying329
 a76:=Tryz.isAgg329
 z76:=Tryz.sizeOf329
 v76:=Tryz.zeroValue329
 t77:=Tryz.underlying88
 a77:=Tryz.isAgg88
 z77:=Tryz.sizeOf88
 v77:=Tryz.zeroValue88 }
def Tryz.sortI_ren:Go.Shelf.Ren:=⟨fun | 189=>167 | 125=>282 | 257=>281 | 128=>348 | 129=>349 | 294=>340 | 295=>341 | 296=>342 | 297=>343 | 298=>344 | 299=>345 | 216=>246 | 300=>346 | 301=>347 | 328=>369 | 329=>370 | 330=>371 | 331=>372 | 332=>373 | 215=>317 | 343=>391 | n=>n,fun | 28=>25 | 3=>3 | 46=>79 | 0=>0 | 51=>286 | 53=>288 | 4=>4 | 183=>280 | 182=>279 | 131=>180 | 5=>5 | 9=>9 | 218=>313 | 222=>317 | 228=>329 | 229=>88 | n=>n,fun | n=>n⟩
theorem Tryz.sortI:Go.Proofs.Lays.n189 Tryz.prog Tryz.sortI_ren:={
 mixed:=by kernel_rfl
 f125:=Tryz.func282.trans (congrArg some (by kernel_rfl))
 f128:=Tryz.func348.trans (congrArg some (by kernel_rfl))
 f129:=Tryz.func349.trans (congrArg some (by kernel_rfl))
 f189:=Tryz.func167.trans (congrArg some (by kernel_rfl))
 f215:=Tryz.func317.trans (congrArg some (by kernel_rfl))
 f216:=Tryz.func246.trans (congrArg some (by kernel_rfl))
 f257:=Tryz.func281.trans (congrArg some (by kernel_rfl))
 f294:=Tryz.func340.trans (congrArg some (by kernel_rfl))
 f295:=Tryz.func341.trans (congrArg some (by kernel_rfl))
 f296:=Tryz.func342.trans (congrArg some (by kernel_rfl))
 f297:=Tryz.func343.trans (congrArg some (by kernel_rfl))
 f298:=Tryz.func344.trans (congrArg some (by kernel_rfl))
 f299:=Tryz.func345.trans (congrArg some (by kernel_rfl))
 f300:=Tryz.func346.trans (congrArg some (by kernel_rfl))
 f301:=Tryz.func347.trans (congrArg some (by kernel_rfl))
 f328:=Tryz.func369.trans (congrArg some (by kernel_rfl))
 f329:=Tryz.func370.trans (congrArg some (by kernel_rfl))
 f330:=Tryz.func371.trans (congrArg some (by kernel_rfl))
 f331:=Tryz.func372.trans (congrArg some (by kernel_rfl))
 f332:=Tryz.func373.trans (congrArg some (by kernel_rfl))
 f343:=Tryz.func391.trans (congrArg some (by kernel_rfl))
 t0:=Tryz.underlying0
 a0:=Tryz.isAgg0
 z0:=Tryz.sizeOf0
 v0:=Tryz.zeroValue0
 t3:=Tryz.underlying3
 a3:=Tryz.isAgg3
 z3:=Tryz.sizeOf3
 v3:=Tryz.zeroValue3
 t4:=Tryz.underlying4
 a4:=Tryz.isAgg4
 z4:=Tryz.sizeOf4
 v4:=Tryz.zeroValue4
 t5:=Tryz.underlying5
 a5:=Tryz.isAgg5
 z5:=Tryz.sizeOf5
 v5:=Tryz.zeroValue5
 t9:=Tryz.underlying9
 a9:=Tryz.isAgg9
 z9:=Tryz.sizeOf9
 v9:=Tryz.zeroValue9
 t28:=Tryz.underlying25
 a28:=Tryz.isAgg25
 z28:=Tryz.sizeOf25
 v28:=Tryz.zeroValue25
 t46:=Tryz.underlying79
 a46:=Tryz.isAgg79
 z46:=Tryz.sizeOf79
 v46:=Tryz.zeroValue79
 t51:=Tryz.underlying286
 a51:=Tryz.isAgg286
 z51:=Tryz.sizeOf286
 v51:=Tryz.zeroValue286
 t53:=Tryz.underlying288
 a53:=Tryz.isAgg288
 z53:=Tryz.sizeOf288
 v53:=Tryz.zeroValue288
 t131:=Tryz.underlying180
 a131:=Tryz.isAgg180
 z131:=Tryz.sizeOf180
 v131:=Tryz.zeroValue180
 t182:=Tryz.underlying279
 a182:=Tryz.isAgg279
 z182:=Tryz.sizeOf279
 v182:=Tryz.zeroValue279
 t183:=Tryz.underlying280
 a183:=Tryz.isAgg280
 z183:=Tryz.sizeOf280
 v183:=Tryz.zeroValue280
 t218:=Tryz.underlying313
 a218:=Tryz.isAgg313
 z218:=Tryz.sizeOf313
 v218:=Tryz.zeroValue313
 t222:=Tryz.underlying317
 a222:=Tryz.isAgg317
 z222:=Tryz.sizeOf317
 v222:=Tryz.zeroValue317
 t228:=Tryz.underlying329
 a228:=Tryz.isAgg329
 z228:=Tryz.sizeOf329
 v228:=Tryz.zeroValue329
 t229:=Tryz.underlying88
 a229:=Tryz.isAgg88
 z229:=Tryz.sizeOf88
 v229:=Tryz.zeroValue88 }
end Go.Proofs
namespace Go.Proofs.YtgjfejoohojokaaGreatDoor
section
open Kw Go.Sort
theorem Ba {H:ag}{hb:Nat}{r:RH}{Q:QT}{F:aR} (Pz:sX hb r) (hR:dF H hb F r){a2:Option Addr}{l2 c2:Nat}{ks:List Int} (hk:Rd 1 H a2 l2 (av ks)) (hd:∀ p,a2=some p->p.block∉F) (HP:l2<=1099511627776)
  (h:∀ H',dF H' hb F (r.keep ks).2->Fr F H H'->Q (rI (r.keep ks).1) H'):ae PP 83 #[Kj hb,.slice a2 l2 c2] Q H:=Gj hR Pz hk hd HP h
def fW (r:RH) (k:Int):Int:=match aG r.objs k with
 | some o=>o.place
 | none=>-1
abbrev iW (r:RH):Type:={ k:Int // aG r.objs k≠none∨k=0 }
instance (r:RH):Inhabited (iW r):=⟨⟨0,.inr rfl⟩⟩
theorem tQ {r:RH} (hw:WFH r){x y:iW r} (h:fW r x.1=fW r y.1):x=y:=by
 have h0:∀ z:iW r,aG r.objs z.1=none->z.1=0:=fun z hz=>z.2.resolve_left fun hn=>hn hz;have hp:∀ z o,aG r.objs z=some o->o∈r.objs∧o.oop=z∧0<=o.place:=fun z o ho=>⟨(aD ho).1,(aD ho).2,(hw.objs.good o (aD ho).1).pl⟩;apply Subtype.ext;unfold fW at h;cases hx:aG r.objs x.1 with
 | none =>
  cases hy:aG r.objs y.1 with
  | none=>rw [h0 x hx,h0 y hy]
  | some o=>rw [hx,hy] at h;have:=(hp _ o hy).2.2;simp only at h;omega
 | some o =>
  cases hy:aG r.objs y.1 with
  | none=>rw [hx,hy] at h;have:=(hp _ o hx).2.2;simp only at h;omega
  | some o' =>
   rw [hx,hy] at h;simp only at h;obtain ⟨k1,k2,k3⟩:=hp _ o hx;obtain ⟨k4,k5,k6⟩:=hp _ o' hy;refine Uv fun b9=>?_
   have:=o.len_pos
   have:=o'.len_pos;rcases apart hw.objs k1 k4 (by rw [k2,k5];exact b9) with h1 | h1 <;> omega
def yD (r:RH) (x y:iW r):Int:=fW r x.1-fW r y.1
theorem lR {r:RH} (x y:iW r):ltOf (yD r) x y=decide (fW r x.1<fW r y.1):=by
 unfold ltOf yD;by_cases h:fW r x.1<fW r y.1
 ·simp [h];omega
 ·simp [h];omega
theorem uz {r:RH} (hw:WFH r){d:List (iW r)} (hd:d.map (·.1)=r.all):(d.mergeSort fun x y=>!(ltOf (yD r)) y x).map (·.1)=r.objs.map (·.oop):=by
 have hmem:∀ o∈r.objs,aG r.objs o.oop≠none∨o.oop=0:=fun o ho=>.inl (by rw [cY hw.objs ho];simp);obtain ⟨t,ht⟩:∃ t:List (iW r),t.map (·.1)=r.objs.map (·.oop):=⟨r.objs.attach.map fun o=>⟨o.1.oop,hmem o.1 o.2⟩,by
  simp only [V4];exact List.attach_map_val (f:=fun o:RO=>o.oop) (l:=r.objs)⟩
 have pp:∀ x y:iW r,(!(ltOf (yD r)) y x)=decide (fW r x.1<=fW r y.1):=fun x y=>by
  rw [lR];by_cases h:fW r y.1<fW r x.1
  ·simp [h]
  ·simp [h];omega
 rw [←ht]
 congr 1
 have PS:(fun x y:iW r=>!(ltOf (yD r)) y x)=fun x y=>decide (fW r x.1<=fW r y.1):=by funext x y;exact pp x y
 rw [PS];have hnd:d.Nodup:=by
  have h1:(r.all).Nodup:=by
   unfold RH.all RH.upto;exact (List.nodup_range.map (fun (i:Nat)=>(i:Int)) fun a b LK h=>LK (by omega)).filter _
  rw [←hd] at h1;rw [Vv,VE] at h1;exact Vv.2 (h1.imp fun h e=>h (congrArg _ e))
 have Sz:t.Nodup:=by
  have h1:(r.objs.map (·.oop)).Nodup:=by
   rw [Vv,VE];exact hw.objs.pw.imp fun h=>h.1
  rw [←ht] at h1;rw [Vv,VE] at h1;exact Vv.2 (h1.imp fun h e=>h (congrArg _ e))
 have IN:d.Perm t:=by
  rw [VX hnd Sz];intro x;have e1:x∈d↔x.1∈r.all:=by
   rw [←hd,UM];constructor
   ·exact fun h=>⟨x,h,rfl⟩
   ·rintro ⟨y,hy,he⟩;rw [←Subtype.ext he];exact hy
  have e2:x∈t↔x.1∈r.objs.map (·.oop):=by
   rw [←ht,UM];constructor
   ·exact fun h=>⟨x,h,rfl⟩
   ·rintro ⟨y,hy,he⟩;rw [←Subtype.ext he];exact hy
  rw [e1,e2,RH.mem_all hw,UM];constructor
  ·intro h;cases ho:aG r.objs x.1 with
   | none=>exact absurd ho h
   | some o=>exact ⟨o,(aD ho).1,(aD ho).2⟩
  ·rintro ⟨o,ho,he⟩;rw [←he,cY hw.objs ho];simp
 have ic:=List.pairwise_mergeSort (le:=fun x y:iW r=>decide (fW r x.1<=fW r y.1)) (fun a b c h1 h2=>by simp at *;omega) (fun a b=>by simp;omega) d;have us:t.Pairwise fun x y=>decide (fW r x.1<=fW r y.1)=true:=by
  have h1:(r.objs.map fun o=>fW r o.oop).Pairwise (·<=·):=by
   rw [VE];have h2:∀ o∈r.objs,fW r o.oop=o.place:=fun o ho=>by unfold fW;rw [cY hw.objs ho]
   refine List.Pairwise.imp_of_mem ?_ hw.objs.pw;intro a b ha hb LK;rw [h2 a ha,h2 b hb]
   have:=LK.2
   have:=a.len_pos;omega
  have h2:(t.map fun x=>fW r x.1)=r.objs.map fun o=>fW r o.oop:=by
   have:=congrArg (List.map (fW r)) ht;rw [V4,V4] at this;exact this
  rw [←h2,VE] at h1;exact h1.imp fun h=>by simpa using h
 exact List.Perm.eq_of_pairwise (fun a b _ _ h1 h2=>tQ hw (by simp at h1 h2;omega)) ic us ((List.mergeSort_perm d _).trans IN)
theorem yF (hb:Nat) (r:RH):sX hb r:=by
 intro H wb tb bb W T B low Q hR h;have hw:=hR.wf;have OR:=hw.o0;have CO:=hw.o1;apply EO;dsimp only [aK,dU,gg,aE,au,am,aJ,ax];have PD:aS<H.size:=by
  have h0:=hR.kinds.1;unfold aq at h0;rcases Vp aS H.size with h1 | h1
  ·exact h1
  ·simp only [Ve h1] at h0;cases h0
 have JF:Fr [] H (H.push (.cells #[Kj hb] 66)):=Fr.push _ _ _;obtain ⟨wb',tb',bb',W',T',B',low',e,PT⟩:=hR.rep.fr JF (dB.nil_right _) (by simp);have ow:PHs (H.push (.cells #[Kj hb] 66)) hb wb tb bb W T B low r:={ hR with hd:=hR.hd.push _,mw:=hR.mw.push _,mt:=hR.mt.push _,mb:=hR.mb.push _,kinds:=PT.kinds };simp only [ah,UK,Ut,Uw,UA,bh,aW,bC,bE,bi,bF,bz,aX,bB,bA,bg,bD,UT,UU,UV,aC,UE,UC,aM,aI,aU,UB,UG,bI,bK,List.setIfInBounds_toArray,List.set_cons_zero,List.set_cons_succ,VD,US,Vi,List.getElem?_toArray,List.getElem?_cons_succ,List.getElem?_cons_zero];refine Ij ow fun a l c F H1 ho hf hF SA=>?_;simp only [ah,UK,Ut,Uw,UA,bh,aW,bC,bE,bi,bF,bz,aX,bB,bA,bg,bD,UT,UU,UV,aC,UE,UC,aM,aI,aU,UB,UG,bI,bK];have aa:=ho.lt;have J7:aq H1 ⟨H.size,0,none⟩=some (Kj hb):=((bH.new H #[Kj hb] 66).fr hf (by simp)).cell 0;have ai:=ho.len;simp only [av,UZ] at ai;have Rv:=r.upto_len (r.oops+1).toNat
 let d:List (iW r):=r.all.attach.map fun k=>⟨k.1,.inl ((RH.mem_all hw).1 k.2)⟩
 have hd:d.map (·.1)=r.all:=by
  simp only [d,V4];exact List.attach_map_val (f:=fun k:Int=>k) (l:=r.all) |>.trans (List.map_id _)
 rcases ho.2.2 with ⟨ha,hc,M0⟩ | ⟨b,cs,ha,M0,_⟩
 ·exact absurd M0 SA
 ·subst ha;subst M0;have Lh:b≠H.size:=by
   have:=hF b (by simp);simp only [UL] at this;omega
  have SB:∀ x∈[hb,wb,tb,bb],x∉[b]:=fun x hx hn=>by
   simp only [Uu] at hn;have h1:=hF b (by simp);have h2:=hR.rep.lt x hx;simp only [UL] at h1;omega
  have hsz:l<4611686018427387904:=by
   have h1:r.all.length<=(r.oops+1).toNat:=Rv;omega
  refine qh (α:=iW r) Tryz.sortL (fun x=>x.1) (yD r) ?_ ?_ ⟨_,Tryz.func284,rfl⟩ (enters_of Tryz.func285 (by kernel_rfl) rfl) (d:=d) (by rw [hd];exact ho) hsz (fun x y H2 bw=>?_) fun H2 Jk bw=>?_
  ·refine ⟨fun x=>?_,fun x y z h1 h2=>?_,fun x y z h1 h2=>?_⟩
   ·rw [lR];simp
   ·rw [lR] at *;simp at *;omega
   ·rw [lR] at *;simp at *;omega
  ·intro x y h1 h2;rw [lR] at h1 h2;simp at h1 h2;exact tQ hw (by omega)
  ·have Lk:Raw H2 hb wb tb bb r.words.toNat (r.oops+1).toNat _:=(ow.raw.keep hf (dB.nil_right _)).keep bw SB;have Ny:aq H2 ⟨H.size,0,none⟩=some (Kj hb):=(((bH.new H #[Kj hb] 66).fr hf (by simp)).fr bw (by simp;omega)).cell 0;have JH:∀ z:iW r,0<=z.1∧z.1<=r.oops∧T z.1=fW r z.1∧-1<=fW r z.1∧fW r z.1<=r.words:=by
    intro z;have hz:0<=z.1∧z.1<=r.oops:=by
     rcases z.2 with h1 | h1
     ·cases ho:aG r.objs z.1 with
      | none=>exact absurd ho h1
      | some o =>
       have hg:=hw.objs.good o (aD ho).1;have h2:=hg.oop1;have h3:=hg.oop2;rw [(aD ho).2] at h2 h3;omega
     ·omega
    refine ⟨hz.1,hz.2,hR.sim.tab z.1 hz.1 hz.2,?_⟩;unfold fW;have Sv:=hw.w0;cases ho:aG r.objs z.1 with
    | none=>simp;omega
    | some o =>
     have hg:=hw.objs.good o (aD ho).1;have h2:=hg.pl;have h3:=hg.fits;have h4:=o.len_pos;simp only;omega
   obtain ⟨x1,x2,x3,x4,x5⟩:=JH x;obtain ⟨y1,y2,y3,y4,y5⟩:=JH y;have Rt:=hw.w1;show ae PP 285 #[ac x.1,ac y.1,.pointer (some ⟨H.size,0,none⟩)] _ H2;apply BM;dsimp only [aB,aH,aE,bq,ac,bu,aN,bd];simp only [ah,UK,Ut,Uw,UA,bh,aW,bC,bE,bi,bF,bz,aX,bB,bA,bg,bD,UT,UU,UV,aC,UE,UC,aM,aI,aU,UB,UG,bI,bK,Ny,Lk.c1,Lk.tabc (i:=x.1) (by omega) (by omega),Lk.tabc (i:=y.1) (by omega) (by omega)];refine ⟨by omega,by omega,by omega,by omega,?_⟩;rw [x3,y3,az (by omega) (by omega)];rfl
  ·have hs:=uz hw hd;rw [hs] at Jk;refine ⟨rfl,h _ _ _ [b] H2 Jk ⟨?_,fun x hx _=>?_⟩ (fun x hx=>?_)⟩
   ·exact Ux (JF.trans hf).1 bw.1
   ·rw [bw.2 x (UJ hx (JF.trans hf).1) (fun hn=>by
     simp only [Uu] at hn
     have:=hF b (by simp);simp only [UL] at this;omega),(JF.trans hf).2 x hx (by simp)]
   ·have:=hF x hx;simp only [UL] at this;omega
end
end Go.Proofs.YtgjfejoohojokaaGreatDoor
namespace Go.Proofs.YtgjfejoohojokaaGreatDoor
open Kw
section
variable {Q:QT}{H:ag}
variable {a b c d A B D P:Option Addr}{i j k m n x y z I J K M N:Int}{l o r s u v L O R S U V:Nat}{t w T W:ByteArray}{e E g:Bool}{q:Option Nat}{p X Y Z:Value}{F G:Addr}
theorem HK (h:bJ 27 #[am a] H fun b c=>ao b (Q (ac 2) c) (ao (bv i 0) (Q (ac 28) c) (aN a fun b=>aH c (b.add 2) fun _ b _=>ao (cS i (b:Int)) (Q (ac 28) c) (aN a fun b=>aH c (b.add 2) fun b _ d=>aN a fun e=>aH c (e.add 2) fun _ e _=>ax (bd ((e:Int)-i)) fun e=>((0:Int)<=e∧e<=(d:Int))∧aN a fun a=>bP c (a.add 2) (au b (Int.toNat e) d) fun a=>True∧Q (ac 0) a)))):ae PP 8 #[.pointer a,ac i] Q H :=
 okF Tryz.func8 rfl h
theorem FP (h:bJ 27 #[am a] H fun b c=>ao b (Q (bU #[ac 0,ac 0,ac 2]) c) (aN a fun b=>Hj c (b.add 3) fun b=>ao b (Q (bU #[ac 0,ac 0,ac 25]) c) (aN a fun b=>aE c b fun d=>dU 29 #[am a] c fun a c e f=>((aq f b=some (am d)∧True)∧True)∧cB 28 #[am d,au a c e] f fun a b c d=>True∧Q (bU #[ac a,ac b,ac c]) d))):ae PP 10 #[.pointer a] Q H :=
 okF Tryz.func10 rfl h
theorem GC (h:ao (fi a) (Q (bk true) H) (aN a fun a=>aE H a fun a=>Q (bk (fi a)) H)):ae PP 27 #[.pointer a] Q H :=
 okF Tryz.func27 rfl h
theorem Fi (h:oC 82 #[am a,au b l o] H fun b c d e f=>ao (e != 0) (Q (bU #[ac 0,ac 0,ac e]) f) (cB 83 #[am a,au b c d] f fun a b c d=>Q (bU #[ac a,ac b,ac c]) d)):ae PP 28 #[.pointer a,.slice b l o] Q H :=
 okF Tryz.func28 rfl h
theorem FV (h:aN a fun b=>aB H (b.add 1) fun b=>ak 84 #[ac b] H fun b c d=>ao (c != 0) (aN a fun a=>aH d (a.add 2) fun a b c=>Q (au a b c) d) (aN a fun a=>ax (aJ d #[ac b] 26) fun b=>aH b (a.add 2) fun a c e=>cC (Builtin.append_ #[30,30] 30 #[au (some (aK d.size)) 1 1,au a c e]) b fun a b c d=>Q (au a b c) d)):ae PP 29 #[.pointer a] Q H :=
 okF Tryz.func29 rfl h
theorem Al (h:bJ 27 #[am a] H fun b c=>ao b (Q (am none) c) (aN a fun a=>aE c a fun a=>Q (am a) c)):ae PP 44 #[.pointer a] Q H :=
 okF Tryz.func44 rfl h
theorem Fx (h:bJ 27 #[am a] H fun b c=>ao b (Q (au none 0 0) c) (aN a fun a=>aH c (a.add 2) fun a b d=>dU 124 #[au a b d] c fun a b c d=>dU 123 #[au a b c] d fun a b c d=>Q (au a b c) d)):ae PP 63 #[.pointer a] Q H :=
 okF Tryz.func63 rfl h
theorem Fz (h:jl 139 #[ac i,ac j] H fun a b c=>ao (b != 0) (Q (bU #[am none,ac b]) c) (ax (ac 0) fun b=>Q (bU #[am (some (aK c.size)),b]) (aJ c #[am a,b,au none 0 0,bk false,am none,b,b,b] 72))):ae PP 69 #[ac i,ac j] Q H :=
 okF Tryz.func69 rfl h
theorem Gg (h:bJ 27 #[am a] H fun c d=>ao c (Q (ac 2) d) (bJ 143 #[au b l o,.func (.func 144) #[] #[]] d fun c d=>ao c (Q (ac 10) d) (aN a fun c=>aH d (c.add 2) fun _ c _=>ao (cS (bd ((c:Int)+(l:Int))) 65536) (Q (ac 22) d) (aN a fun c=>aH d (c.add 2) fun c e f=>cC (Builtin.append_ #[30,30] 30 #[au c e f,au b l o]) d fun b c d e=>aN a fun a=>bP e (a.add 2) (au b c d) fun a=>Q (ac 0) a)))):ae PP 74 #[.pointer a,.slice b l o] Q H :=
 okF Tryz.func74 rfl h
theorem G6 (h:bJ 27 #[am a] H fun b c=>ao b (Q (ac 2) c) (aN a fun b=>aE c b fun b=>ak 54 #[am b,ac i] c fun _ b c=>ao (b != 0) (Q (ac b) c) (aN a fun a=>bP c (a.add 1) (ac i) fun a=>Q (ac 0) a))):ae PP 76 #[.pointer a,ac i] Q H :=
 okF Tryz.func76 rfl h
def Ki (a:Option Addr) (b:Option Addr) (l:Nat) (o:Nat) (Q:QT) (H:ag):Prop :=
 ax (au none 0 0) fun c=>ao (fi a) (∀ a:ag,ku H.size H a->Q (bU #[c,ac 2]) a) (ax (H.push (.map #[] 0)) fun d=>ax (aK d.size) fun e=>ax (ga (some H.size)) fun f=>bP (aJ d #[ga none] 213) e f fun d=>ax (aK d.size) fun g=>ax (aJ d #[c] 25) fun d=>ax (aK d.size) fun i=>ax (am (some e)) fun j=>ax (am (some g)) fun k=>bP (aJ d #[.nilFunc] 214) i (.func (.func 164) #[] #[j,k]) fun d=>∃ m:List Value->ag->Prop,∃ n:List Value->ag->Nat,ax (ac 0) fun p=>m [p] d∧(∀ d q,m d q->∀ r:Nat->Value,∃ s,d=[ac s]∧ax (am a) fun a=>ao (bv s (l:Int)) (bu s l b fun b=>aB q (bq b s 1) fun b=>lD 165 #[a,ac b] q fun a b c=>ao b (lE c i (fun b e f=>gg b (e++#[ac a]++f) c fun a=>ck m n [ac (bd (s+1))] a d q)∨aq c i=some .nilFunc∧False) (ck m n [ac (bd (s+1))] c d q)) (Kh [] q fun d m n q=>aH q g fun t u v=>ax (bk false) fun w=>ao (cS (u:Int) 0) (aH q g fun e x y=>aH q g fun z A B=>ax (bd ((A:Int)-1)) fun C=>bu C x e fun D=>ax (bq D C 1) fun D=>aB q D fun E=>aH q g fun F G I=>aH q g fun J K L=>ax (bd ((K:Int)-1)) fun M=>((0:Int)<=M∧M<=(I:Int))∧ax (au F (Int.toNat M) I) fun N=>bP q g N fun g=>ax (ac E) fun E=>g9 166 #[a,E] g fun g O P R=>∀ S:FuncId,ax (bU #[]) fun T=>ax (oH PP 82 0) fun U=>zo g (O++#[.func (.yield (R.size+1)) #[] #[]]++P) (fun _ a=>oY (R.size+1) (fun a=>ck d m [] a n q) (fun a=>∀ b:ag,ku H.size a b->Q (bU #[c,p]) b) [] a) ((R.push (.deferred (some []))).push (.loop (kL S #[a,au b l o,T,T,c,p,j,k,am (some i),T,r 10,r 11,r 12,E,T,T,T,a,w,f,.func (.func 164) #[] #[j,k],au b l o,ac (l:Int),ac s,w,r 25,r 26,r 27,r 28,r 29,r 30,r 31,r 32,r 33,r 34,r 35,r 36,r 37,au t u v,ac (u:Int),bk true,au e x y,au z A B,ac (A:Int),ac C,am (some D),E,au F G I,au J K L,ac (K:Int),ac M,N,a,E,.func (.func g) O P,T,T,T,T,T,T,T,T,T,T,T,T,T,T,T,T,T,T,T,T] U.1 U.2.1 U.2.2 R.size)))) (mI q e fun a=>xU (Builtin.len_ #[213] 3 #[ga a]) q fun a b=>cC (Instr.makeSlice 25 p (ac a)) b fun a b c d=>mI d e fun e=>mH (Instr.range 213 (ga e)) (fun d e=>Hm [au a b c] e fun a b c e f g i=>mH (Instr.next d false 0) (fun j k=>ax (au f g i) fun f=>j=bU #[w]∧gg 167 #[f] k (fun a=>∀ b:ag,ku H.size a b->Q (bU #[f,p]) b)∨(∃ g i:Value,j=bU #[bk true,g,i]∧mH (Instr.entry d) (fun d g=>∃ i,∃ j:Value,d=bU #[ac i,j]∧cC (Builtin.append_ #[25,25] 25 #[f,au (some (aK g.size)) 1 1]) (aJ g #[ac i] 3) fun d f g i=>ck a b [au d f g] i c e) k)) e) d))))
theorem FK {p1:Option Addr}{a2:Option Addr}{l2:Nat}{c2:Nat} (h:Ki p1 a2 l2 c2 Q H):ae PP 82 #[.pointer p1,.slice a2 l2 c2] Q H :=
 yA good Tryz.func82 rfl (Ls:=fun | 7=>some [(23,3)] | 13=>some [] | 21=>some [(15,25)] | _=>none) (mk:=true) (by kernel_rfl) h
def eN (l:Nat) (F:Addr) (i:Int) (Q:QT) (H:ag):Prop :=
 ∃ a:Loop,H[l]?=some (.loop a)∧a.state=.ready∧ax (H.setIfInBounds l (.loop { a with state:=.busy })) fun a=>lE a F (fun b c d=>gg b (c++#[ac i]++d) a fun a=>∃ b:Loop,a[l]?=some (.loop b)∧Q (bk true) (a.setIfInBounds l (.loop { b with state:=.ready,pending:=none })))∨aq a F=some .nilFunc∧False
theorem iZ {l:Nat}{fn:FuncId}{D:Nat}{Ya:Value}{Yb:Value}{Yc:Value}{Yd:Value}{Ye:Value}{Yf:Value}{Yg:Value}{Yh:Value}{q_8:Addr}{Yj:Value}{Yk:Value}{Yl:Value}{Ym:Value}{Yn:Value}{Yo:Value}{Yp:Value}{Yq:Value}{Yr:Value}{Ys:Value}{Yt:Value}{Yu:Value}{Yv:Value}{Yw:Value}{Yx:Value}{Yy:Value}{Yz:Value}{YA:Value}{YB:Value}{YC:Value}{YD:Value}{YE:Value}{YF:Value}{YG:Value}{YH:Value}{YI:Value}{YJ:Value}{YK:Value}{YL:Value}{YM:Value}{YN:Value}{YO:Value}{YP:Value}{YQ:Value}{YR:Value}{YS:Value}{YT:Value}{YU:Value}{YV:Value}{YW:Value}{YX:Value}{YY:Value}{YZ:Value}{Y0:Value}{Y1:Value}{Y3:Value}{Y4:Value}{Y5:Value}{Y6:Value}{Y9:Value}{Za:Value}{Zb:Value}{Zc:Value}{Zd:Value}{Ze:Value}{Zf:Value}{Zg:Value}{Zh:Value}{Zi:Value}{Zj:Value}{Zk:Value}{Zl:Value}{Zm:Value}{Zn:Value}{Zo:Value}{Zp:Value}{n1:Int} (hl:H[l]?=some (.loop (kL fn #[Ya,Yb,Yc,Yd,Ye,Yf,Yg,Yh,.pointer (some q_8),Yj,Yk,Yl,Ym,Yn,Yo,Yp,Yq,Yr,Ys,Yt,Yu,Yv,Yw,Yx,Yy,Yz,YA,YB,YC,YD,YE,YF,YG,YH,YI,YJ,YK,YL,YM,YN,YO,YP,YQ,YR,YS,YT,YU,YV,YW,YX,YY,YZ,Y0,Y1,Y3,Y4,Y5,Y6,Y9,Za,Zb,Zc,Zd,Ze,Zf,Zg,Zh,Zi,Zj,Zk,Zl,Zm,Zn,Zo,Zp] (oH PP 82 0).1 (oH PP 82 0).2.1 (oH PP 82 0).2.2 D))) (h:eN l q_8 n1 Q H):iT PP l #[ac n1] Q H :=
 wq good hl (by kernel_rfl) (by kernel_rfl) (Ls:=fun _=>none) (Ls':=fun _=>none) (by kernel_rfl) h
theorem Ek (h:aT 13 #[ac i] H fun a b=>Q (bk (a == 0)) b):ae PP 144 #[ac i] Q H :=
 okF Tryz.func144 rfl h
theorem B3 (h:bJ 27 #[am a] H fun b c=>ao b (Q (ac 2) c) (aN a fun b=>aE c b fun b=>aN a fun a=>aB c (a.add 1) fun a=>aT 148 #[am b,ac a,ac i,ac j] c fun a b=>True∧Q (ac a) b)):ae PP 162 #[.pointer a,ac i,ac j] Q H :=
 okF Tryz.func162 rfl h
theorem Dk (h:mI H F fun a=>xU (Instr.lookup 213 (ga a) (ac i) false) H fun a b=>ao (a == 0) (mI b F fun a=>cA (Instr.mapUpdate 213 (ga a) (ac i) (ac 1)) b fun a=>aH a G fun b c d=>cC (Builtin.append_ #[25,25] 25 #[au b c d,au (some (aK a.size)) 1 1]) (aJ a #[ac i] 3) fun a b c d=>bP d G (au a b c) fun a=>Q (bU #[]) a) (Q (bU #[]) b)):ae PP 164 #[ac i,.pointer (some F),.pointer (some G)] Q H :=
 okF Tryz.func164 rfl h
theorem ED (h:ak 89 #[ac i] H fun b c d=>ao (c != 0) (Q (bU #[ac 0,bk false]) d) (ak 54 #[am a,ac b] d fun _ a c=>Q (bU #[ac b,bk (a == 0)]) c)):ae PP 165 #[.pointer a,ac i] Q H :=
 okF Tryz.func165 rfl h
theorem EI (h:ax (aJ H #[am a] 66) fun a=>Q (.func (.func 280) #[] #[am (some (aK H.size)),am (some (aK a.size))]) (aJ a #[ac i] 3)):ae PP 166 #[.pointer a,ac i] Q H :=
 okF Tryz.func166 rfl h
theorem Cn (h:ax (aK H.size) fun b=>ax (aJ H #[am a] 34) fun a=>aE a b fun c=>bJ 27 #[am c] a fun a c=>ao a (Q (aF 0 2) c) (aE c b fun a=>aN a fun a=>aE c a fun a=>ak 338 #[.func (.func 72) #[am a] #[],ac i,ac j,ac k,.func (.func 339) #[] #[am (some b)]] c fun a b c=>ao (b != 0) (Q (aF 0 b) c) (ak 84 #[ac a] c fun a b c=>Q (aF a b) c))):ae PP 279 #[.pointer a,ac i,ac j,ac k] Q H :=
 okF Tryz.func279 rfl h
theorem DJ (h:aE H F fun a=>aB H G fun b=>ak 54 #[am a,ac b] H fun a b c=>ax (bU #[]) fun d=>ao (b != 0) (Q d c) (zp (fun b=>aE c F fun e=>lD 165 #[am e,ac a] c fun a c e=>ao c (iT PP l #[ac a] (fun a c=>∃ e,a=bk e∧ao (!e) (Q d c) (b [] c)) e) (b [] e)) fun a=>aE a F fun b=>aB a G fun c=>cB 55 #[am b,ac c] a fun a b c e=>ao (c != 0) (Q d e) (ao (b != 0) (Q d e) (cX [ac 0] e fun b c e f g=>ao (bv g a) (aE f F fun a=>aB f G fun i=>ak 57 #[am a,ac i,ac g] f fun a i j=>ao (i != 0) (Q d j) (aE j F fun i=>lD 165 #[am i,ac a] j fun a i j=>ax (ac (bd (g+1))) fun g=>ao i (iT PP l #[ac a] (fun a i=>∃ j,a=bk j∧ao (!j) (Q d i) (ck b c [g] i e f)) j) (ck b c [g] j e f))) (Q d f))))):ae PP 280 #[.func (.yield l) #[] #[],.pointer (some F),.pointer (some G)] Q H :=
 okL Tryz.func280 rfl (fun | 1004=>some [] | 7=>some [(50,3)] | _=>none) h
theorem DU {g0:Array Value}{h0:Array Value}{g4:Array Value}{h4:Array Value}(h:ak l (g0++#[ac i,ac j,ac k]++h0) H fun a b c=>ao (b == 23) (bJ o (g4++#[]++h4) c fun c d=>ao c (ak l (g0++#[ac i,ac j,ac k]++h0) d fun a b c=>Q (aF a b) c) (Q (aF a b) d)) (Q (aF a b) c)):ae PP 338 #[.func (.func l) g0 h0,ac i,ac j,ac k,.func (.func o) g4 h4] Q H :=
 okF Tryz.func338 rfl h
theorem Bx (h:aE H F fun a=>cB 10 #[am a] H fun _ _ a b=>Q (bk (a == 0)) b):ae PP 339 #[.pointer (some F)] Q H :=
 okF Tryz.func339 rfl h
end
end Go.Proofs.YtgjfejoohojokaaGreatDoor
namespace Kw
section
open Go Go.Proofs Go.Shelf Go.Sort Go.RowKit
variable {P:Program}
theorem pS {ρ:Ren} (L:Lays.n189 P ρ) (hfn:∃ fn,P.funcs[ρ.f 189]?=some fn∧fn.body.isSome=true){b l c:Nat}{H:ag}{zs:List Int}{Q:Value->ag->Prop} (ho:cZ 1 H (some ⟨b,0,none⟩) l c (av zs) [b]) (hsz:l<4611686018427387904)
  (h:∀ H',cZ 1 H' (some ⟨b,0,none⟩) l c (av (zs.mergeSort fun x y=>decide (x<=y))) [b]->Fr [b] H H'->Q (.tuple #[]) H'):ae P (ρ.f 189) #[.slice (some ⟨b,0,none⟩) l c] Q H:=by
 refine ⟨hfn,?_⟩;intro w hw;subst hw;rcases ho.2.2 with ⟨h0,_,_⟩ | ⟨b',cs,an,_,⟨t,JZ⟩,Hc,ix⟩
 ·cases h0
 cases an;have hl:l=zs.length:=by have:=ho.1;simpa [av] using this.symm
 subst hl;have pp:zs.length<=c:=ho.2.1;have aa:b<w.heap.size:=(UN.1 JZ).1;have hH:Go.Sort.Holds (Value.int .i64) w b 0 zs.toArray:=by
  intro j hj;have hj:j<zs.length:=by simpa using hj
  refine ⟨?_,?_⟩
  ·rw [UE];have h1:(cs.toList.take (zs.length*1))[j]?=(av zs)[j]?:=by rw [ix]
   rw [VQ (by omega)] at h1;unfold World.cell?;simp only [JZ];show cs[j]?=_;rw [←Vm,h1];simp [av,hj]
  ·unfold World.frozen?;simp only [JZ];simp
 refine (Any.slices_Sort_int L b 0 c zs w hH aa hsz).mono ?_;rintro e w' ⟨rfl,n,os,rfl⟩;have hp:(putRow (Value.int .i64) (Sort.ahead w n) b 0 (zs.mergeSort fun x y=>decide (x<=y)).toArray).heap[b]?=some (.cells (putCells (Value.int .i64) 0 (zs.mergeSort fun x y=>decide (x<=y)).toArray cs) t (0,0)):=by
  simp only [putRow,mapBlock,U2,if_true];show Option.map _ w.heap[b]?=_;rw [JZ];rfl
 have Mn:(putRow (Value.int .i64) (Sort.ahead w n) b 0 (zs.mergeSort fun x y=>decide (x<=y)).toArray).heap.size=w.heap.size:=by simp [putRow,mapBlock,Sort.ahead]
 have hother:∀ b',b'≠b->(putRow (Value.int .i64) (Sort.ahead w n) b 0 (zs.mergeSort fun x y=>decide (x<=y)).toArray).heap[b']?=w.heap[b']?:=fun b' hn=>by
  simp only [putRow,mapBlock,U2];rw [Uq (V5 hn)];rfl
 have r9:Fr [b] w.heap (grow (putRow (Value.int .i64) (Sort.ahead w n) b 0 (zs.mergeSort fun x y=>decide (x<=y)).toArray) os).heap:=by
  refine ⟨?_,fun b' b8 hn=>?_⟩
  ·simp only [Sort.grow,Wa];rw [Mn];exact WZ _ _
  ·simp only [Sort.grow];rw [VC (by rw [Mn];exact b8)];exact hother b' (by simpa using hn)
 have PU:(grow (putRow (Value.int .i64) (Sort.ahead w n) b 0 (zs.mergeSort fun x y=>decide (x<=y)).toArray) os).heap[b]?=some (.cells (putCells (Value.int .i64) 0 (zs.mergeSort fun x y=>decide (x<=y)).toArray cs) t (0,0)):=by
  simp only [Sort.grow];rw [VC (by rw [Mn];exact aa)];exact hp
 refine ⟨_,rfl,h _ ⟨by simp [av,Vn],pp,.inr ⟨b,_,rfl,rfl,⟨t,PU⟩,by simp [putCells,Hc],?_⟩⟩ r9,rfl,rfl,rfl,?_,r9.1,fun b' ds b8=>?_⟩
 ·apply VM
  ·simp [av,putCells,Vn];omega
  ·intro j h1 h2;have hj:j<zs.length:=by simpa [av,Vn] using h2
   have sc:j<(zs.mergeSort fun x y=>decide (x<=y)).length:=by rw [Vn];exact hj
   simp only [Wt,av,VT,Array.getElem_toList,putCells,Array.getElem_mapIdx,U7,UU,UE,VD,Vn,hj,if_true,WB]
   congr 1
   rw [List.getElem!_toArray,WE,UF sc];rfl
 ·show w.drawn<=w.drawn+n;omega
 ·have dq:b'<w.heap.size:=(UN.1 b8).1;have b9:b'≠b:=fun e=>by subst e;rw [JZ] at b8;cases b8
  exact (r9.2 b' dq (by simpa using b9)).trans b8
end
end Kw
namespace Kw
open Go
def eI (P:Program) (t:TypeId):Option (TypeDesc × Option Value) :=
 match P.underlying t with
 | some (.map k e)=>match P.underlying k,P.info? e with
  | some d,some i=>some (d,i.zero)
  | _,_=>none
 | _=>none
inductive Key
 | str (s:ByteArray)
 | int (n:Int)
deriving DecidableEq
def Key.v:Key->Value
 | .str s=>.string s
 | .int n=>.int .i64 n
def Key.of:TypeDesc->Key->Prop
 | .string,.str _=>True
 | .int _,.int _=>True
 | _,_=>False
def Cd (ents:Array MapEntry) (clock:Nat):Prop:=(ents.toList.map (·.born)).Nodup∧∀ e∈ents.toList,e.born<clock
def dJ (H:ag) (r:Nat) (es:List (Key × Value)):Prop:=∃(ents:Array MapEntry) (clock:Nat),H[r]?=some (.map ents clock)∧ents.toList.map (fun e=>(e.key,e.val))=es.map (fun p=>(p.1.v,p.2))∧Cd ents clock
theorem dJ.new (H:ag):dJ (H.push (.map #[] 0)) H.size []:=⟨#[],0,by simp,rfl,by simp [Cd]⟩
theorem dJ.lt {H:ag}{r:Nat}{es:List (Key × Value)} (h:dJ H r es):r<H.size:=by
 obtain ⟨ents,clock,hr,_⟩:=h;exact (UN.1 hr).1
theorem dJ.of_eq {H H':ag}{r:Nat}{es:List (Key × Value)} (h:dJ H r es) (he:H'[r]?=H[r]?):dJ H' r es:=by
 obtain ⟨ents,clock,hr,h2⟩:=h;exact ⟨ents,clock,he.trans hr,h2⟩
theorem dJ.fr {H H':ag}{G:aR}{r:Nat}{es:List (Key × Value)} (h:dJ H r es) (hf:Fr G H H') (hn:r∉G):dJ H' r es:=h.of_eq (hf.2 r h.lt hn)
def dH:List (Key × Value)->Key->Option Value
 | [],_=>none
 | p :: l,k=>if k=p.1 then some p.2 else dH l k
theorem rU (a b:ByteArray):(a == b)=true↔a=b:=by
 obtain ⟨x⟩:=a;obtain ⟨y⟩:=b;show (x == y)=true↔_;simp
theorem uU {d:TypeDesc}{k k':Key} (h:k.of d) (h':k'.of d):Instr.sameNow d k.v k'.v=some (decide (k=k')):=by
 cases d <;> cases k <;> cases k' <;> simp_all [Key.of,Key.v,Instr.sameNow] <;> (rw [V7];simp [rU])
def gJ:List (Key × Value)->Key->Option Nat
 | [],_=>none
 | p :: l,k=>if k=p.1 then some 0 else (gJ l k).map (·+1)
theorem fD {es:List (Key × Value)}{k:Key}:gJ es k=none↔dH es k=none:=by
 induction es with
 | nil=>simp [gJ,dH]
 | cons p l ih =>
  unfold gJ dH;by_cases h:k=p.1
  ·simp [h]
  ·rw [Uq h,Uq h];simpa using ih
theorem nO {d:TypeDesc}{k:Key} (hk:k.of d):∀ (ents:List MapEntry) (es:List (Key × Value)) (i:Nat),ents.map (fun e=>(e.key,e.val))=es.map (fun p=>(p.1.v,p.2))->(∀ p∈es,p.1.of d) ->
  Instr.findNow d k.v ents i=some (match gJ es k,dH es k with
   | some j,some v=>some (i+j,v)
   | _,_=>none)
 | [],[],i,_,_=>rfl
 | [],_ :: _,_,h,_=>by simp at h
 | _ :: _,[],_,h,_=>by simp at h
 | e :: ents,p :: es,i,h,ho=>by
  simp only [U8,List.cons.injEq,Prod.mk.injEq] at h;obtain ⟨⟨h1,h2⟩,h3⟩:=h;unfold Instr.findNow;rw [h1,uU hk (ho p (by simp))];unfold gJ dH;by_cases Ni:k=p.1
  ·simp [Ni,h2]
  ·have ih:=nO hk ents es (i+1) h3 fun q hq=>ho q (by simp [hq]);simp only [Ni,decide_false,if_false];rw [ih];cases h4:gJ es k with
   | none=>simp
   | some j =>
    cases h5:dH es k with
    | none=>exact absurd (fD.2 h5) (by rw [h4];simp)
    | some v=>simp;omega
section
variable {P:Program}{H:ag}
theorem ig {t:TypeId}{d:TypeDesc}{k:Key}{e:Bool}{Q:Unit->ag->Prop} (hu:P.underlying t=some d) (hk:k.of d) (h:Q () H):cu P (Instr.checkKey e 10000 t k.v) Q H:=by
 unfold Instr.checkKey;refine ay (bn hu ?_);cases d <;> cases k <;> simp_all [Key.of,Key.v] <;> exact h
theorem iK {t:TypeId}{d:TypeDesc}{k:Key}{ents:Array MapEntry}{es:List (Key × Value)}{Q:Option (Nat × Value)->ag->Prop} (hu:P.underlying t=some d) (hk:k.of d) (he:ents.toList.map (fun e=>(e.key,e.val))=es.map fun p=>(p.1.v,p.2)) (ho:∀ p∈es,p.1.of d)
  (h:Q (match gJ es k,dH es k with
   | some j,some v=>some (j,v)
   | _,_=>none) H):cu P (Instr.findKey t k.v ents.toList) Q H:=by
 unfold Instr.findKey;refine ay (bn hu ?_);rw [nO hk _ _ 0 he ho];cases h4:gJ es k with
 | none=>rw [h4] at h;exact h
 | some j =>
  cases h5:dH es k with
  | none=>rw [h4,h5] at h;exact h
  | some v=>rw [h4,h5] at h;show Q (some (0+j,v)) H;rw [UE];exact h
theorem eY {T:TypeId}{d:TypeDesc}{z:Option Value} (h:eI P T=some (d,z)):∃ k e i,P.underlying T=some (.map k e)∧P.underlying k=some d∧P.info? e=some i∧i.zero=z:=by
 unfold eI at h;split at h
 ·rename_i k e hu;split at h
  ·rename_i d' i h1 h2;cases h;exact ⟨k,e,i,hu,h1,h2,rfl⟩
  ·cases h
 ·cases h
theorem lx {T:TypeId}{d:TypeDesc}{z:Value}{r:Nat}{k:Key}{es:List (Key × Value)}{ok:Bool}{Q:Value->ag->Prop} (hi:eI P T=some (d,some z)) (hk:k.of d) (ho:∀ p∈es,p.1.of d) (hm:dJ H r es)
  (h:Q (if ok then .tuple #[(dH es k).getD z,.bool (dH es k).isSome] else (dH es k).getD z) H):cu P (Instr.lookup T (.map (some r)) k.v ok) Q H:=by
 obtain ⟨kt,et,i,hu,ta,KU,hz⟩:=eY hi;obtain ⟨ents,clock,hr,he,rA⟩:=hm;unfold Instr.lookup;refine ay (bn hu ?_);refine ay ?_;refine (⟨_,hr,rfl,?_⟩:∃ o,H[r]?=some o∧dA o=false∧_);refine ay (dX ?_);refine ay (ig ta hk ?_);refine ay (iK ta hk he ho ?_);cases h5:dH es k with
 | none =>
  rw [fD.2 h5];rw [h5] at h;exact ay (eb KU hz h)
 | some v =>
  cases h4:gJ es k with
  | none=>rw [fD.1 h4] at h5;cases h5
  | some j=>rw [h5] at h;exact h
theorem iR {α β:Type} (f:α->β):∀ (l:List α) (j:Nat),(l.eraseIdx j).map f=(l.map f).eraseIdx j
 | [],_=>rfl
 | _ :: _,0=>rfl
 | x :: l,j+1=>by simp [iR f l j]
def nJ:List (Key × Value)->Key->Value->List (Key × Value)
 | [],k,v=>[(k,v)]
 | p :: l,k,v=>if k=p.1 then (k,v) :: l else p :: nJ l k v
def qm:List (Key × Value)->Key->List (Key × Value)
 | [],_=>[]
 | p :: l,k=>if k=p.1 then l else p :: qm l k
theorem x7 (es:List (Key × Value)) (k k':Key) (v:Value):dH (nJ es k v) k'=if k'=k then some v else dH es k':=by
 induction es with
 | nil=>simp [nJ,dH]
 | cons p l ih =>
  unfold nJ;by_cases h:k=p.1
  ·rw [Ur h];unfold dH;by_cases h2:k'=k
   ·simp [h2]
   ·simp only [h2,if_false];rw [Uq (fun e=>h2 (e.trans h.symm))]
  ·rw [Uq h];unfold dH;by_cases h2:k'=p.1
   ·rw [Ur h2,Ur h2,Uq (fun e=>h (e.symm.trans h2))]
   ·rw [Uq h2,Uq h2];exact ih
theorem kH {es:List (Key × Value)}{k:Key}{v:Value} (h:gJ es k=none):nJ es k v=es++[(k,v)]:=by
 induction es with
 | nil=>rfl
 | cons p l ih =>
  unfold gJ at h;unfold nJ;by_cases hk:k=p.1
  ·rw [Ur hk] at h;cases h
  ·rw [Uq hk] at h ⊢;rw [ih (by simpa using h)];rfl
theorem qZ {es:List (Key × Value)}{k:Key}{v:Value}{j:Nat} (h:gJ es k=some j):nJ es k v=es.set j (k,v)∧j<es.length:=by
 induction es generalizing j with
 | nil=>cases h
 | cons p l ih =>
  unfold gJ at h;unfold nJ;by_cases hk:k=p.1
  ·rw [Ur hk] at h ⊢;cases h;simp
  ·rw [Uq hk] at h ⊢;cases h4:gJ l k with
   | none=>rw [h4] at h;cases h
   | some i =>
    rw [h4] at h;cases h
    have:=ih h4;exact ⟨by rw [this.1];rfl,by simp;exact this.2⟩
theorem yE {es:List (Key × Value)}{k:Key}{j:Nat} (h:gJ es k=some j):qm es k=es.eraseIdx j:=by
 induction es generalizing j with
 | nil=>cases h
 | cons p l ih =>
  unfold gJ at h;unfold qm;by_cases hk:k=p.1
  ·rw [Ur hk] at h ⊢;cases h;rfl
  ·rw [Uq hk] at h ⊢;cases h4:gJ l k with
   | none=>rw [h4] at h;cases h
   | some i =>
    rw [h4] at h;cases h;rw [ih h4];rfl
theorem yx {es:List (Key × Value)}{k:Key} (h:gJ es k=none):qm es k=es:=by
 induction es with
 | nil=>rfl
 | cons p l ih =>
  unfold gJ at h;unfold qm;by_cases hk:k=p.1
  ·rw [Ur hk] at h;cases h
  ·rw [Uq hk] at h ⊢;rw [ih (by simpa using h)]
theorem mX {k:Key}{Q:Value->ag->Prop} (h:Q k.v H):cu P (Instr.keyThatStays k.v k.v) Q H:=by
 unfold Instr.keyThatStays
 have:Instr.sameBits 10000 k.v k.v=true:=by
  cases k with
  | str s=>show (s == s)=true;rw [rU]
  | int n=>simp [Key.v,Instr.sameBits]
 rw [Ur this];exact h
theorem C5 {es:List (Key × Value)}{k:Key}{j:Nat} (h:gJ es k=some j):∃ v,es[j]?=some (k,v):=by
 induction es generalizing j with
 | nil=>cases h
 | cons p l ih =>
  unfold gJ at h;by_cases hk:k=p.1
  ·rw [Ur hk] at h;cases h;exact ⟨p.2,by simp [hk]⟩
  ·rw [Uq hk] at h;cases h4:gJ l k with
   | none=>rw [h4] at h;cases h
   | some i =>
    rw [h4] at h;cases h;simpa using ih h4
theorem iQ {T:TypeId}{d:TypeDesc}{z:Option Value}{r:Nat}{k:Key}{v:Value}{es:List (Key × Value)}{Q:Unit->ag->Prop} (hi:eI P T=some (d,z)) (hk:k.of d) (ho:∀ p∈es,p.1.of d) (hm:dJ H r es)
  (h:∀ H',dJ H' r (nJ es k v)->Fr [r] H H'->Q () H'):cu P (Instr.mapUpdate T (.map (some r)) k.v v) Q H:=by
 obtain ⟨kt,et,i,hu,ta,KU,hz⟩:=eY hi;obtain ⟨ents,clock,hr,he,rA⟩:=hm;have PW:r<H.size:=(UN.1 hr).1;have s4:∀ o:Obj,Fr [r] H (H.setIfInBounds r o)∧(H.setIfInBounds r o)[r]?=some o:=fun o =>
  ⟨⟨by simp,fun b _ hn=>by rw [WI,Uq (by simp only [Uu] at hn;exact fun e=>hn e.symm)]⟩,by simp [PW]⟩
 unfold Instr.mapUpdate;refine ay (bn hu ?_);refine ay ?_;refine (⟨_,hr,rfl,?_⟩:∃ o,H[r]?=some o∧dA o=false∧_);refine ay (ig ta hk ?_);refine ay (iK ta hk he ho ?_);cases h4:gJ es k with
 | none =>
  refine (⟨⟨_,hr,rfl⟩,?_⟩:(∃ o',H[r]?=some o'∧dA o'=false)∧_);refine h _ ⟨_,_,(s4 _).2,?_,?_⟩ (s4 _).1
  ·rw [kH h4];simp [he]
  ·refine ⟨?_,fun e hmem=>?_⟩
   ·rw [WU,Vf,VI];refine ⟨rA.1,by simp,fun a ha b hb LK=>?_⟩;obtain ⟨e,hmem,rfl⟩:=UM.1 ha
    have:=rA.2 e hmem;simp only [U8,VP,Uu] at hb;omega
   ·rw [WU] at hmem;rcases Uz.1 hmem with hmem | hmem
    ·have:=rA.2 e hmem;omega
    ·simp only [Uu] at hmem;subst hmem;exact Nat.lt_succ_self _
 | some j =>
  cases h5:dH es k with
  | none=>rw [fD.2 h5] at h4;cases h4
  | some w =>
   have LP:=qZ (v:=v) h4;have ai:ents.size=es.length:=by have:=congrArg List.length he;simpa using this
   have JY:j<ents.size:=by omega
   obtain ⟨u,JI⟩:=C5 h4;have PX:ents[j].key=k.v:=by
    have h6:(ents.toList.map fun e=>(e.key,e.val))[j]?=(es.map fun p=>(p.1.v,p.2))[j]?:=by rw [he]
    rw [Va,Va,JI] at h6;simp [JY] at h6;exact h6.1
   refine ay ?_;have hg:((ents[j]?).map (·.key)).getD k.v=k.v:=by simp [JY,PX]
   rw [hg];refine mX ?_;refine (⟨⟨_,hr,rfl⟩,?_⟩:(∃ o',H[r]?=some o'∧dA o'=false)∧_);have SC:Cd (ents.modify j fun e=>{ e with key:=k.v,val:=v }) clock:=by
    have w9:(ents.modify j fun e=>{ e with key:=k.v,val:=v }).toList.map (·.born)=ents.toList.map (·.born):=by
     apply Wu;intro q;rw [Va,Va,Vm,Vm,U2];split
     ·rename_i e;subst e;cases ents[j]? <;> rfl
     ·rfl
    refine ⟨by rw [w9];exact rA.1,fun e hmem=>?_⟩
    have:e.born∈ents.toList.map (·.born):=by rw [←w9];exact UM.2 ⟨e,hmem,rfl⟩
    obtain ⟨e',h1,h2⟩:=UM.1 this;rw [←h2];exact rA.2 e' h1
   refine h _ ⟨_,clock,(s4 _).2,?_,SC⟩ (s4 _).1;rw [LP.1];apply Wu;intro q;rw [Va,Va,Vm,U2,VY];have h6:(ents.toList.map fun e=>(e.key,e.val))[q]?=(es.map fun p=>(p.1.v,p.2))[q]?:=by rw [he]
   rw [Va,Va,Vm] at h6;by_cases PY:j=q
   ·subst PY;simp [JY,LP.2]
   ·rw [Uq PY,Uq PY];exact h6
theorem wJ {T:TypeId}{d:TypeDesc}{z:Option Value}{a1 T0:TypeId}{r:Nat}{k:Key}{es:List (Key × Value)}{Q:Value->ag->Prop} (hi:eI P T=some (d,z)) (hk:k.of d) (ho:∀ p∈es,p.1.of d) (hm:dJ H r es)
  (h:∀ H',dJ H' r (qm es k)->Fr [r] H H'->Q (.tuple #[]) H'):cu P (Builtin.delete_ #[T,a1] T0 #[.map (some r),k.v]) Q H:=by
 obtain ⟨kt,et,i,hu,ta,KU,hz⟩:=eY hi;obtain ⟨ents,clock,hr,he,rA⟩:=hm;have PW:r<H.size:=(UN.1 hr).1;have s4:∀ o:Obj,Fr [r] H (H.setIfInBounds r o)∧(H.setIfInBounds r o)[r]?=some o:=fun o =>
  ⟨⟨by simp,fun b _ hn=>by rw [WI,Uq (by simp only [Uu] at hn;exact fun e=>hn e.symm)]⟩,by simp [PW]⟩
 unfold Builtin.delete_;refine ay (bn hu ?_);refine ay ?_;refine (⟨_,hr,rfl,?_⟩:∃ o,H[r]?=some o∧dA o=false∧_);refine ay (ig ta hk ?_);refine ay (iK ta hk he ho ?_);cases h4:gJ es k with
 | none =>
  refine ay ?_;refine (⟨⟨_,hr,rfl⟩,?_⟩:(∃ o',H[r]?=some o'∧dA o'=false)∧_);refine h _ ⟨ents,clock,(s4 _).2,?_,rA⟩ (s4 _).1;rw [yx h4];exact he
 | some j =>
  cases h5:dH es k with
  | none=>rw [fD.2 h5] at h4;cases h4
  | some v =>
   refine ay ?_;refine (⟨⟨_,hr,rfl⟩,?_⟩:(∃ o',H[r]?=some o'∧dA o'=false)∧_);have ap:(ents.eraseIdxIfInBounds j).toList.Sublist ents.toList:=by
    rw [Array.eraseIdxIfInBounds];split
    ·rw [Array.toList_eraseIdx];exact List.eraseIdx_sublist _ _
    ·exact WV _
   refine h _ ⟨_,clock,(s4 _).2,?_,rA.1.sublist (ap.map _),fun e hmem=>rA.2 e (ap.subset hmem)⟩ (s4 _).1;rw [yE h4];have ai:ents.size=es.length:=by have:=congrArg List.length he;simpa using this
   have JY:=(qZ (v:=v) h4).2;rw [Array.eraseIdxIfInBounds,dif_pos (by omega),Array.toList_eraseIdx,iR,iR,he]
theorem wz {T T0:TypeId}{d:TypeDesc}{z:Option Value}{r:Nat}{es:List (Key × Value)}{Q:Value->ag->Prop} (hi:eI P T=some (d,z)) (hm:dJ H r es) (h:Q (.int .i64 (es.length:Int)) H):cu P (Builtin.len_ #[T] T0 #[.map (some r)]) Q H:=by
 obtain ⟨kt,et,i,hu,ta,KU,hz⟩:=eY hi;obtain ⟨ents,clock,hr,he,rA⟩:=hm;unfold Builtin.len_;refine ay (bn hu ?_);refine ay ?_;refine (⟨_,hr,rfl,?_⟩:∃ o,H[r]?=some o∧dA o=false∧_);have ai:ents.size=es.length:=by have:=congrArg List.length he;simpa using this
 show Q (goInt ents.size) H;rw [ai];exact h
def gU (H:ag) (b r:Nat) (es done:List (Key × Value)):Prop:=∃(ents:Array MapEntry) (clock:Nat) (seen:Array Nat) (ds rest:List MapEntry),H[r]?=some (.map ents clock)∧ents.toList.map (fun e=>(e.key,e.val))=es.map (fun p=>(p.1.v,p.2))∧Cd ents clock ∧
 H[b]?=some (.mapIter (some r) clock seen clock)∧seen.toList=ds.map (·.born)∧(ds++rest).Perm ents.toList∧ds.map (fun e=>(e.key,e.val))=done.map (fun p=>(p.1.v,p.2))
theorem Key.v_inj {k k':Key} (h:k.v=k'.v):k=k':=by
 cases k <;> cases k' <;> simp_all [Key.v]
theorem vK {l l':List (Key × Value)} (h:(l.map fun p=>(p.1.v,p.2)).Perm (l'.map fun p=>(p.1.v,p.2))):l.Perm l':=by
 induction l generalizing l' with
 | nil=>have:=h.length_eq;simp at this;have:l'=[]:=UX this.symm;rw [this]
 | cons p l ih =>
  have hmem:(p.1.v,p.2)∈l'.map (fun p=>(p.1.v,p.2)):=h.subset (by simp);obtain ⟨q,hq,he⟩:=UM.1 hmem;simp only [Prod.mk.injEq] at he;have SE:q=p:=Prod.ext (Key.v_inj he.1) he.2;subst SE;obtain ⟨s,t,rfl⟩:=Wn hq;refine (List.Perm.cons q (ih ?_)).trans (Wy.symm);have h2:(q :: l).map (fun p=>(p.1.v,p.2)) |>.Perm ((q :: (s++t)).map fun p=>(p.1.v,p.2)):=h.trans (Wv _ Wy)
  simpa using List.Perm.cons_inv h2
theorem gU.len {b r:Nat}{es done:List (Key × Value)} (h:gU H b r es done):done.length<=es.length:=by
 obtain ⟨ents,clock,seen,ds,rest,_,he,_,_,_,hp,hd⟩:=h;have h1:=hp.length_eq;have h2:=congrArg List.length he;have h3:=congrArg List.length hd;simp only [UZ,UP] at h1 h2 h3;omega
theorem gU.fr {H':ag}{G:aR}{b r:Nat}{es done:List (Key × Value)} (h:gU H b r es done) (hf:Fr G H H') (hb:b∉G) (hr:r∉G):gU H' b r es done:=by
 obtain ⟨ents,clock,seen,ds,rest,h1,h2,h3,h4,h5⟩:=h;exact ⟨ents,clock,seen,ds,rest,(hf.2 r (UN.1 h1).1 hr).trans h1,h2,h3,(hf.2 b (UN.1 h4).1 hb).trans h4,h5⟩
theorem gU.map {b r:Nat}{es done:List (Key × Value)} (h:gU H b r es done):dJ H r es:=by
 obtain ⟨ents,clock,seen,ds,rest,h1,h2,h3,_⟩:=h;exact ⟨ents,clock,h1,h2,h3⟩
theorem sS {T:TypeId}{d:TypeDesc}{z:Option Value}{r:Nat}{es:List (Key × Value)}{Q:Value->ag->Prop} (hi:eI P T=some (d,z)) (hm:dJ H r es)
  (h:∀ H',gU H' H.size r es []->Fr [] H H'->Q (.pointer (some ⟨H.size,0,none⟩)) H'):cu P (Instr.range T (.map (some r))) Q H:=by
 obtain ⟨kt,et,i,hu,ta,KU,hz⟩:=eY hi;obtain ⟨ents,clock,hr,he,rA⟩:=hm;have aa:r<H.size:=(UN.1 hr).1;unfold Instr.range;refine ay ?_;refine ay (bn hu ?_);refine ay ?_;refine (⟨_,hr,rfl,?_⟩:∃ o,H[r]?=some o∧dA o=false∧_);show Q (.pointer (some ⟨H.size,0,none⟩)) (H.push (.mapIter (some r) clock #[] clock));refine h _ ⟨ents,clock,#[],[],ents.toList,?_,he,rA,by simp,rfl,by simp,rfl⟩ (Fr.push [] H _);rw [VS,Uq (by omega)];exact hr
theorem uZ {T0:TypeId}{b r:Nat}{es done:List (Key × Value)}{Q:Value->ag->Prop} (hm:gU H b r es done) (h0:done.Perm es->Q (.tuple #[.bool false]) H)
  (h1:∀ p H',p∈es->gU H' b r es (done++[p])->Fr [b] H H'->Q (.tuple #[.bool true,p.1.v,p.2]) H'):cu P (Instr.next (.pointer (some ⟨b,0,none⟩)) false T0) Q H:=by
 obtain ⟨ents,clock,seen,ds,rest,hr,he,rA,hb,hs,hp,hd⟩:=hm;have w9:b<H.size:=(UN.1 hb).1;have SF:b≠r:=fun e=>by subst e;rw [hr] at hb;cases hb
 unfold Instr.next;refine ay ?_;refine (⟨_,hb,rfl,?_⟩:∃ o,H[b]?=some o∧dA o=false∧_);refine ay ?_;refine (⟨_,hr,rfl,?_⟩:∃ o,H[r]?=some o∧dA o=false∧_);refine dX ?_;have PZ:(!seen.isEmpty && !ents.isEmpty && ents.all fun x=>decide (x.born ≥ clock))=false:=by
  by_cases np:ents.isEmpty=true
  ·simp [np]
  ·have ly:0<ents.size:=by
    rcases WN ents.size with h | h
    ·exact absurd (by simp [Array.isEmpty,h]) np
    ·exact h
   have:ents.all (fun x=>decide (x.born ≥ clock))=false:=by
    rw [Bool.eq_false_iff];intro al;have h2:=(Array.all_eq_true.1 al) 0 ly;have h3:=rA.2 ents[0] (by simp);have h4:ents[0].born ≥ clock:=by simpa using h2
    omega
   rw [this,Bool.and_false]
 simp only [PZ,U9,if_false,ge_iff_le];obtain ⟨left,LQ⟩:∃ left:Array MapEntry,left=ents.filter fun e=>!seen.contains e.born:=⟨_,rfl⟩;rw [←LQ];have Mo:∀ e,e∈left.toList↔e∈rest:=by
  intro e;rw [LQ,Array.toList_filter,U6];have hnd:((ds++rest).map (·.born)).Nodup:=(Wv _ hp).nodup_iff.2 rA.1;rw [Vf,VI] at hnd;constructor
  ·rintro ⟨h2,h3⟩;rcases Uz.1 (hp.symm.subset h2) with h4 | h4
   ·exfalso
    have:e.born∈seen:=by rw [←Array.mem_toList_iff,hs];exact UM.2 ⟨e,h4,rfl⟩
    simp [this] at h3
   ·exact h4
  ·intro h2;refine ⟨hp.subset (by simp [h2]),?_⟩
   have:e.born∉seen:=fun JA=>by
    rw [←Array.mem_toList_iff,hs] at JA;obtain ⟨e',h4,h5⟩:=UM.1 JA;exact hnd.2.2 _ (UM.2 ⟨e',h4,rfl⟩) _ (UM.2 ⟨e,h2,rfl⟩) h5
   simp [this]
 have KW:left.filter (fun e=>decide (e.born<clock))=left:=by
  rw [Array.filter_eq_self];intro e hmem;have h2:=(Mo e).1 (by simpa using hmem);exact Vs (rA.2 e (hp.subset (by simp [h2])))
 have Mp:left.filter (fun e=>decide (clock<=e.born))=#[]:=by
  rw [Array.filter_eq_empty_iff];intro e hmem;have h2:=(Mo e).1 (by simpa using hmem)
  have:=rA.2 e (hp.subset (by simp [h2]));simp;omega
 rw [KW,Mp];have key:∀ (cands:Array (Option MapEntry)) (i:Nat),(i<cands.size)->(cands=if left.isEmpty then #[none] else left.map some)->cu P (match cands[i]? with
   | some (some e)=>do
    setObj b (.mapIter (some r) clock (seen.push e.born) clock)
    pure (.tuple #[.bool true,e.key,e.val])
   | some none=>pure (.tuple #[.bool false])
   | none => stuck "Next: no such candidate") Q H := by
  intro cands i hi hc;by_cases np:left.isEmpty=true
  ·rw [Ur np] at hc;subst hc;simp only [VD,US,Vi,UE,Nat.lt_one_iff] at hi;subst hi;refine h0 ?_;have Nz:rest=[]:=by
    cases rest with
    | nil=>rfl
    | cons e rest =>
     have:=(Mo e).2 (by simp);simp [Array.isEmpty_iff.1 np] at this
   subst Nz;rw [VJ] at hp;have h2:=Wv (fun e:MapEntry=>(e.key,e.val)) hp;rw [hd,he] at h2;exact vK h2
  ·rw [Uq np] at hc;subst hc;have lp:i<left.size:=by simpa using hi
   have hmem:left[i]∈rest:=(Mo _).1 (by simp);obtain ⟨s,t,ci⟩:=Wn hmem;have CI:(left.map some)[i]?=some (some left[i]):=by simp [lp]
   rw [CI];have JA:left[i]∈ents.toList:=hp.subset (by simp [hmem]);have Mq:(left[i].key,left[i].val)∈es.map (fun p=>(p.1.v,p.2)):=by rw [←he];exact UM.2 ⟨_,JA,rfl⟩
   obtain ⟨p,SG,NA⟩:=UM.1 Mq;simp only [Prod.mk.injEq] at NA;refine ay ?_;refine (⟨⟨_,hb,rfl⟩,?_⟩:(∃ o',H[b]?=some o'∧dA o'=false)∧_);show Q (.tuple #[.bool true,left[i].key,left[i].val]) (H.setIfInBounds b (.mapIter (some r) clock (seen.push left[i].born) clock));rw [←NA.1,←NA.2];refine h1 p _ SG ⟨ents,clock,seen.push left[i].born,ds++[left[i]],s++t,?_,he,rA,by simp [w9],?_,?_,?_⟩ ⟨by simp,fun b' _ hn=>?_⟩
   ·rw [Vk SF];exact hr
   ·rw [WU,hs,Vf];rfl
   ·refine List.Perm.trans ?_ hp;rw [ci,Vq];exact List.Perm.append_left ds (by simpa using (Wy (l₁:=s) (l₂:=t) (a:=left[i])).symm)
   ·rw [Vf,Vf,hd];simp [NA.1,NA.2]
   ·rw [Vk (fun e=>hn (by simp [e]))]
 have hcands:(if left.isEmpty=true then #[none] else #[])++Array.map some (left++#[])=if left.isEmpty then #[none] else left.map some:=by
  by_cases np:left.isEmpty=true
  ·rw [Ur np,Ur np,Array.isEmpty_iff.1 np];simp
  ·rw [Uq np,Uq np];simp
 have ly:0<(if left.isEmpty=true then #[none] else left.map some).size:=by
  split
  ·simp
  ·rename_i np;rcases WN left.size with h | h
   ·exact absurd (by simp [Array.isEmpty,h]) np
   ·simpa using h
 obtain ⟨cands,hc⟩:∃ c:Array (Option MapEntry),c=if left.isEmpty then #[none] else left.map some:=⟨_,rfl⟩;rw [←hc] at hcands ly;simp only [hcands];refine ay ?_;show if (Question.mapNext cands.size).forced then _ else ∀ t,_;split
 ·exact key _ 0 ly hc
 ·intro t;exact key _ _ (Nat.mod_lt _ ly) hc
theorem sj {b r:Nat}{es done:List (Key × Value)}{p:Key × Value}{Q:Value->ag->Prop} (hm:gU H b r es (done++[p])) (h:Q (.tuple #[p.1.v,p.2]) H):cu P (Instr.entry (.pointer (some ⟨b,0,none⟩))) Q H:=by
 obtain ⟨ents,clock,seen,ds,rest,hr,he,rA,hb,hs,hp,hd⟩:=hm;unfold Instr.entry;refine ay ?_;refine (⟨_,hb,rfl,?_⟩:∃ o,H[b]?=some o∧dA o=false∧_);refine dX ?_;obtain ⟨ds',e,SH⟩:∃ ds' e,ds=ds'++[e]:=by
  rcases Vu ds with h0 | ⟨m,x,h0⟩
  ·subst h0;simp at hd
  ·exact ⟨m,x,by simpa using h0⟩
 subst SH;have NB:seen.back?=some e.born:=by
  have:seen=(ds'.map (·.born)++[e.born]).toArray:=by
   apply Array.ext';rw [hs];simp
  rw [this];simp
 simp only [NB];refine ay ?_;refine (⟨_,hr,rfl,?_⟩:∃ o,H[r]?=some o∧dA o=false∧_);refine dX ?_;simp only [bne_self_eq_false,U9,if_false];have JA:e∈ents.toList:=hp.subset (by simp);have KX:ents.find? (fun x=>x.born == e.born)=some e:=by
  rw [←Array.find?_toList]
  have:∀ (l:List MapEntry),(l.map (·.born)).Nodup->e∈l->l.find? (fun x=>x.born == e.born)=some e:=by
   intro l
   induction l with
   | nil=>intro _ h;cases h
   | cons x l ih =>
    intro hnd hmem;rw [V8];by_cases hx:x.born=e.born
    ·rcases Us.1 hmem with rfl | hmem
     ·simp
     ·exfalso;rw [U8] at hnd
      have:=(Vl.1 hnd).1;exact this (by rw [hx];exact UM.2 ⟨e,hmem,rfl⟩)
    ·have:(x.born == e.born)=false:=by simpa using hx
     rw [this];rcases Us.1 hmem with rfl | hmem
     ·exact absurd rfl hx
     ·rw [U8] at hnd;exact ih (Vl.1 hnd).2 hmem
  exact this _ rA.1 JA
 rw [KX];rw [Vf,Vf] at hd;have h2:=(List.append_inj_right' hd rfl);simp only [U8,VP,List.cons.injEq,Prod.mk.injEq,UV] at h2;show Q (.tuple #[e.key,e.val]) H;rw [h2.1,h2.2];exact h
end
def bm (r:RH) (w:Int):Int:=if aA w=3∧(aG r.objs (w / 4)).isSome then w / 4 else 0
inductive Reaches (r:RH) (ws:List Int):Int->Prop
 | root {w:Int}:w∈ws->bm r w≠0->Reaches r ws (bm r w)
 | cls {o:RO}:Reaches r ws o.oop->o∈r.objs->bm r o.cls≠0->Reaches r ws (bm r o.cls)
 | slot {o:RO}{w:Int}:Reaches r ws o.oop->o∈r.objs->o.fmt=0->w∈o.slots->bm r w≠0->Reaches r ws (bm r w)
theorem jK {r:RH}{w:Int} (h:bm r w≠0):aG r.objs (bm r w)≠none:=by
 unfold bm at *;split at h
 ·rename_i hc;rw [Ur hc];intro hn;rw [hn] at hc;simp at hc
 ·exact absurd rfl h
theorem Reaches.there {r:RH}{ws:List Int}{k:Int} (h:Reaches r ws k):aG r.objs k≠none:=by
 cases h with
 | root _ h=>exact jK h
 | cls _ _ h=>exact jK h
 | slot _ _ _ _ h=>exact jK h
noncomputable instance (r:RH) (ws:List Int) (k:Int):Decidable (Reaches r ws k):=Classical.propDecidable _
noncomputable def RH.reach (r:RH) (ws:List Int):List Int:=r.all.filter fun k=>decide (Reaches r ws k)
theorem RH.mem_reach {r:RH} (hw:WFH r){ws:List Int}{k:Int}:k∈r.reach ws↔Reaches r ws k:=by
 unfold RH.reach;rw [U6,RH.mem_all hw];constructor
 ·exact fun h=>of_decide_eq_true h.2
 ·exact fun h=>⟨h.there,Vs h⟩
structure Closed3 (r:RH) (ws l:List Int):Prop where
 sound:∀ k∈l,Reaches r ws k
 roots:∀ w∈ws,bm r w≠0->bm r w∈l
 cls:∀ o∈r.objs,o.oop∈l->bm r o.cls≠0->bm r o.cls∈l
 slot:∀ o∈r.objs,o.oop∈l->o.fmt=0->∀ w∈o.slots,bm r w≠0->bm r w∈l
theorem Closed3.iff {r:RH}{ws l:List Int} (h:Closed3 r ws l){k:Int}:k∈l↔Reaches r ws k:=by
 refine ⟨h.sound k,fun hk=>?_⟩
 induction hk with
 | root h1 h2=>exact h.roots _ h1 h2
 | cls _ h2 h3 ih=>exact h.cls _ h2 ih h3
 | slot _ h2 h3 h4 h5 ih=>exact h.slot _ h2 ih h3 _ h4 h5
theorem Closed3.filter {r:RH}{ws l:List Int} (h:Closed3 r ws l):r.all.filter (fun k=>decide (k∈l))=r.reach ws:=by
 unfold RH.reach
 congr 1
 funext k
 rw [V7,decide_eq_true_iff,decide_eq_true_iff];exact h.iff
theorem t7 {l m:List Int} (hn:l.Nodup) (hs:∀ x∈l,x∈m):l.length<=m.length:=by
 induction l generalizing m with
 | nil=>simp
 | cons x l ih =>
  have hc:=Vl.1 hn;have hx:x∈m:=hs x (by simp)
  have:=ih (m:=m.erase x) hc.2 fun y hy=>(List.mem_erase_of_ne (fun e:y=x=>hc.1 (e ▸ hy))).2 (hs y (by simp [hy]));rw [List.length_erase_of_mem hx] at this
  have:=List.length_pos_of_mem hx;simp only [US];omega
end Kw
namespace Go.Proofs.YtgjfejoohojokaaGreatDoor
open Kw
theorem nX {l:Nat}{args:Array Value}{Q Q':Value->ag->Prop}{H:ag} (h:iT PP l args Q H) (hq:∀ v H',Q v H'->Q' v H'):iT PP l args Q' H:=fun w hw=>by
 obtain ⟨fn,tmps,assign,body,h1,h2⟩:=h w hw;exact ⟨fn,tmps,assign,body,h1,h2.mono fun e w' ⟨v,he,hv,hs⟩=>⟨v,he,hq _ _ hv,hs⟩⟩
theorem Fr.setObj (H:ag) (l:Nat) (o:Obj):Fr [l] H (H.setIfInBounds l o):=⟨by simp,fun b _ hn=>Vk (fun e=>hn (by simp [e]))⟩
theorem ku.fr {n:Nat}{H0 H H':ag} (h:ku n H H') (hf:Fr [] H0 H) (hn:n=H0.size):Fr [] H0 H' :=
 ⟨by rw [h.1];exact hf.1,fun b hb _=>by
  rcases h.2 b with h1 | ⟨h1,_⟩
  ·rw [h1];exact hf.2 b hb (by simp)
  ·omega⟩
theorem ku.own {n k:Nat}{H H':ag}{a:Option Addr}{l c:Nat}{xs:List Value}{F:aR} (h:ku n H H') (ho:cZ k H a l c xs F):cZ k H' a l c xs F:=by
 refine ho.keep fun b hb=>?_;rcases ho.2.2 with ⟨_,_,rfl⟩ | ⟨b',cs,_,rfl,⟨t,hB⟩,_⟩
 ·simp at hb
 ·simp only [Uu] at hb;subst hb;rcases h.2 b with h1 | ⟨_,h1,_⟩
  ·exact h1
  ·rw [hB] at h1;cases h1
section
variable {H:ag}{hb:Nat}{F:aR}{r:RH}{Q:QT}
theorem lN (hR:dF H hb F r){k:Int} (h:Q (D5 (r.clsAt k)) H):ae PP 54 #[Kj hb,ac k] Q H:=by
 obtain ⟨_,_,_,_,_,_,_,_,hR⟩:=hR;exact CC hR h
theorem wS (hR:dF H hb F r){k i:Int} (h:Q (D5 (r.at k i)) H):ae PP 57 #[Kj hb,ac k,ac i] Q H:=by
 obtain ⟨_,_,_,_,_,_,_,_,hR⟩:=hR;exact IQ hR h
theorem sC (hR:dF H hb F r){k:Int} (h:Q (rI (r.size k)) H):ae PP 55 #[Kj hb,ac k] Q H:=by
 obtain ⟨_,_,_,_,_,_,_,_,hR⟩:=hR;exact Gi hR h
theorem yh (hR:dF H hb F r) (h:Q (ac r.mark) H):ae PP 60 #[Kj hb] Q H:=by
 obtain ⟨_,_,_,_,_,_,_,_,hR⟩:=hR;exact AS hR h
theorem sM (hR:dF H hb F r){w:Int} (h1:bm r w≠0->Q (.tuple #[ac (bm r w),.bool true]) H) (h2:bm r w=0->∀ x:Int,Q (.tuple #[ac x,.bool false]) H):ae PP 165 #[Kj hb,ac w] Q H:=by
 apply ED;dsimp only [bk,ao,ak,ac,am,bU];refine jP hR.kinds ?_;unfold mE;unfold bm at h1 h2;by_cases hk:aA w=3
 ·rw [Ur hk];refine ⟨_,_,rfl,?_⟩;rw [show ((0:Int) != 0)=false from rfl];simp only [Ut];refine lN hR ?_;have hw:=bl w;cases ho:aG r.objs (w / 4) with
  | none =>
   refine ⟨_,_,rfl,?_⟩;simp only [RH.clsAt,ho];exact h2 (by rw [ho];simp) _
  | some o =>
   refine ⟨_,_,rfl,?_⟩;simp only [RH.clsAt,ho];simp only [hk,ho,WO,and_self,if_true] at h1;exact h1 (by omega)
 ·rw [Uq hk];refine ⟨_,_,rfl,?_⟩;rw [show ((10:Int) != 0)=true from rfl];simp only [UK];exact h2 (by rw [Uq (fun h=>hk h.1)]) _
def du (r:RH) (ws:List Int):List Int:=(ws.map (bm r)).filter fun x=>decide (x≠0)
def kX (r:RH) (o:RO):List Int:=du r (o.cls :: if o.fmt=0 then o.slots else [])
theorem ee (r:RH) (l m:List Int):du r (l++m)=du r l++du r m:=by simp [du]
theorem gD (r:RH) (w:Int):du r [w]=if bm r w=0 then [] else [bm r w]:=by
 by_cases h:bm r w=0 <;> simp [du,h]
theorem lu {r:RH}{ws:List Int}{k:Int}:k∈du r ws↔∃ w∈ws,bm r w=k∧k≠0:=by
 simp only [du,U6,UM,decide_eq_true_eq];constructor
 ·rintro ⟨⟨w,h1,h2⟩,h3⟩;exact ⟨w,h1,h2,h3⟩
 ·rintro ⟨w,h1,h2,h3⟩;exact ⟨⟨w,h1,h2⟩,h3⟩
theorem Bt {l:Nat}{q0 q1:Addr}{k:Int}{o:RO}{J:List Int->ag->Prop} (ho:aG r.objs k=some o)
  (hJ:∀ pre H',J pre H'->dF H' hb F r∧aq H' q0=some (Kj hb)∧aq H' q1=some (ac k))
  (hy:∀ pre x H',(∃ suf,kX r o=pre++x :: suf)->J pre H'->iT PP l #[ac x] (fun v H''=>v=.bool true∧J (pre++[x]) H'') H')
  (h0:J [] H) (h:∀ H',J (kX r o) H'->Q (.tuple #[]) H'):ae PP 280 #[.func (.yield l) #[] #[],.pointer (some q0),.pointer (some q1)] Q H:=by
 apply DJ;dsimp only [bk,ao,lD,cB,ak,bv,aB,aE,ac,zp,cX,ck,am,ax,bU,bd];obtain ⟨hR,c0,c1⟩:=hJ _ _ h0;have hg:=hR.wf.objs.good o (aD ho).1;have NC:=hg.many;refine ⟨_,c0,_,c1,lN hR ⟨_,_,rfl,?_⟩⟩;have u0:r.clsAt k=(o.cls,0):=by simp [RH.clsAt,ho]
 have hsz:r.size k=((o.slots.length:Int),o.fmt,0):=by simp [RH.size,ho]
 rw [u0];simp only [show ((0:Int) != 0)=false from rfl,Ut];refine ⟨fun w H4=>w=[]∧J (du r [o.cls]) H4,⟨_,c0,?_⟩,?_⟩
 ·refine sM hR (fun b9=>⟨_,_,rfl,?_⟩) fun he x=>⟨_,_,rfl,?_⟩
  ·simp only [UK];refine nX (hy [] _ H ?_ h0) ?_
   ·refine ⟨du r (if o.fmt=0 then o.slots else []),?_⟩;have e:kX r o=du r [o.cls]++du r (if o.fmt=0 then o.slots else []):=by rw [←ee];rfl
    rw [e,gD,Uq b9];rfl
   ·rintro v H3 ⟨rfl,h3⟩;refine ⟨_,rfl,?_⟩;simp only [UB,Ut];refine ⟨trivial,?_⟩;rw [gD,Uq b9];exact h3
  ·simp only [Ut];refine ⟨trivial,?_⟩;rw [gD,Ur he];exact h0
 ·rintro w H4 ⟨rfl,h4⟩ _;obtain ⟨P0,c04,c14⟩:=hJ _ _ h4;refine ⟨rfl,_,c04,_,c14,sC P0 ⟨_,_,_,rfl,?_⟩⟩;rw [hsz];simp only [show ((0:Int) != 0)=false from rfl,Ut];have e:kX r o=du r [o.cls]++du r (if o.fmt=0 then o.slots else []):=by rw [←ee];rfl
  by_cases hf:o.fmt=0
  ·have nf:(o.fmt != 0)=false:=by simp [hf]
   rw [nf];simp only [Ut];rw [Ur hf] at e;refine ⟨fun w H6=>∃ i:Nat,w=[ac i]∧i<=o.slots.length∧J (du r [o.cls]++du r (o.slots.take i)) H6,fun w _=>match w with
    | [.int _ i]=>(o.slots.length-i).toNat
    | _=>0,⟨0,rfl,U7 _,by simpa [du] using h4⟩,?_⟩
   rintro w H6 ⟨i,rfl,hi,h6⟩ _;refine ⟨_,rfl,?_⟩;rw [ah];have e1:IntKind.wrap .i64 ((i:Int)+1)=((i+1:Nat):Int):=by rw [az (by omega) (by omega)];omega
   refine aP (fun aa=>?_) fun aa=>?_
   ·have dq:i<o.slots.length:=by omega
    obtain ⟨OU,c06,c16⟩:=hJ _ _ h6;have SI:r.at k (i:Int)=(o.slots[i],0):=by
     simp only [RH.at,ho];rw [Uq (by omega)];simp [dq]
    refine ⟨_,c06,_,c16,wS OU ⟨_,_,rfl,?_⟩⟩;rw [SI];simp only [show ((0:Int) != 0)=false from rfl,Ut];have ix:o.slots.take (i+1)=o.slots.take i++[o.slots[i]]:=by rw [Vj];simp [dq]
    have ND:(((o.slots.length:Int)-((i+1:Nat):Int)).toNat)<((o.slots.length:Int)-(i:Int)).toNat:=by omega
    refine ⟨_,c06,sM OU (fun b9=>⟨_,_,rfl,?_⟩) fun he x=>⟨_,_,rfl,?_⟩⟩
    ·simp only [UK];refine nX (hy _ _ H6 ?_ h6) ?_
     ·refine ⟨du r (o.slots.drop (i+1)),?_⟩;have hd:o.slots=o.slots.take i++o.slots[i] :: o.slots.drop (i+1):=by simp
      have:du r o.slots=du r (o.slots.take i)++bm r o.slots[i] :: du r (o.slots.drop (i+1)):=by
       conv=>lhs;rw [hd]
       rw [ee]
       congr 1
       rw [show o.slots[i] :: o.slots.drop (i+1)=[o.slots[i]]++o.slots.drop (i+1) from rfl,ee,gD,Uq b9];rfl
      rw [e,this];simp
     ·rintro v H9 ⟨rfl,h9⟩;refine ⟨_,rfl,?_⟩;simp only [UB,Ut];rw [e1];refine ⟨⟨i+1,rfl,dq,?_⟩,ND⟩;rw [ix,ee,gD r o.slots[i],Uq b9,←Vq];exact h9
    ·simp only [Ut];rw [e1];refine ⟨⟨i+1,rfl,dq,?_⟩,ND⟩;rw [ix,ee,gD r o.slots[i],Ur he,VJ];exact h6
   ·have:i=o.slots.length:=by omega
    rw [this,Wc] at h6;exact h H6 (by rw [e];exact h6)
  ·have nf:(o.fmt != 0)=true:=by simp [hf]
   rw [nf];simp only [UK];rw [Uq hf] at e;exact h H4 (by rw [e];simpa [du] using h4)
theorem FG {k:Int} (h:Q (.func (.func 280) #[] #[.pointer (some ⟨H.size,0,none⟩),.pointer (some ⟨H.size+1,0,none⟩)]) ((H.push (.cells #[Kj hb] 66)).push (.cells #[ac k] 3))):ae PP 166 #[Kj hb,ac k] Q H:=by
 apply EI;dsimp only [aK,ac,am,aJ,ax];simp only [UL];exact h
end
def gh (S:List Int):List (Key × Value):=S.map fun k=>(Key.int k,Value.int .i64 1)
theorem rR (S:List Int) (n:Int):dH (gh S) (.int n)=if n∈S then some (ac 1) else none:=by
 induction S with
 | nil=>rfl
 | cons x S ih =>
  unfold gh at *;simp only [U8,dH];by_cases h:n=x
  ·subst h;simp
  ·rw [Uq (by simpa using h),ih];simp [h]
theorem yW {S:List Int}{n:Int} (h:n∉S):nJ (gh S) (.int n) (ac 1)=gh (S++[n]):=by
 have:gJ (gh S) (.int n)=none:=by rw [fD,rR,Uq h]
 rw [kH this];simp [gh]
theorem xQ {S:List Int}:∀ p∈gh S,p.1.of (.int .i64):=by
 intro p hp;simp only [gh,UM] at hp;obtain ⟨k,_,rfl⟩:=hp;trivial
structure Vis (H:ag) (mb tb m:Nat) (S T:List Int) (G:aR):Prop where
 b1:bH H mb #[.map (some m)]
 b2:∃ a l c,bH H tb #[.slice a l c]∧cZ 1 H a l c (av T) G
 mp:dJ H m (gh S)
 n1:mb≠tb
 n2:mb≠m
 n3:tb≠m
 n4:∀ x∈G,x≠mb∧x≠tb∧x≠m
theorem Vis.fr {H H':ag}{mb tb m:Nat}{S T:List Int}{G F:aR} (h:Vis H mb tb m S T G) (hf:Fr F H H') (h1:mb∉F) (h2:tb∉F) (h3:m∉F) (h4:dB G F):Vis H' mb tb m S T G:=by
 obtain ⟨a,l,c,hB,hO⟩:=h.b2;exact { h with b1:=h.b1.fr hf h1,b2:=⟨a,l,c,hB.fr hf h2,hO.fr hf h4⟩,mp:=h.mp.fr hf h3 }
theorem Vis.lt {H:ag}{mb tb m:Nat}{S T:List Int}{G:aR} (h:Vis H mb tb m S T G):∀ x∈mb :: tb :: m :: G,x<H.size:=by
 obtain ⟨a,l,c,hB,hO⟩:=h.b2;intro x hx;simp only [Us] at hx;rcases hx with rfl | rfl | rfl | hx
 ·exact h.b1.lt
 ·exact hB.lt
 ·exact h.mp.lt
 ·exact hO.lt x hx
def fh (p:List Int × List Int) (n:Int):List Int × List Int:=if n∈p.1 then p else (p.1++[n],p.2++[n])
section
variable {H:ag}{hb:Nat}{F:aR}{r:RH}{Q:QT}
theorem Ds {mb tb m:Nat}{S T:List Int}{G:aR}{n:Int} (hV:Vis H mb tb m S T G) (hT:T.length<1000000000)
  (h:∀ H' G',Vis H' mb tb m (fh (S,T) n).1 (fh (S,T) n).2 G'->Up (mb :: tb :: m :: G) H (mb :: tb :: m :: G') H'->Q (.tuple #[]) H') :
  ae PP 164 #[ac n,Kj mb,Kj tb] Q H:=by
 have Ll:eI PP 213=some (.int .i64,some (ac 0)):=by kernel_rfl
 have ic:bj PP 25=some (1,8,some (ac 0)):=by kernel_rfl
 obtain ⟨a,l,c,hB,hO⟩:=hV.b2;have c1:aq H ⟨mb,0,none⟩=some (.map (some m)):=hV.b1.cell 0;apply Dk;dsimp only [aK,ao,aH,mI,ac,au,ga,aJ,xU,cC,cA,bP,bU];refine ⟨_,c1,lx (k:=.int n) Ll trivial xQ hV.mp ?_⟩;rw [rR];unfold fh at h;by_cases hn:n∈S
 ·simp only [hn,if_true,Option.getD_some] at h ⊢;refine ⟨_,rfl,?_⟩;rw [show ((1:Int) == 0)=false from rfl];simp only [Ut];exact h H G hV (Up.refl _ _)
 ·simp only [hn,if_false,Option.getD_none] at h ⊢;refine ⟨_,rfl,?_⟩;rw [show ((0:Int) == 0)=true from rfl];simp only [UK];refine ⟨_,c1,iQ (k:=.int n) Ll trivial xQ hV.mp fun H2 Do bw=>?_⟩;rw [yW hn] at Do;have l7:bH H2 tb #[.slice a l c]:=hB.fr bw (by simpa using hV.n3);have c9:bH H2 mb #[.map (some m)]:=hV.b1.fr bw (by simpa using hV.n2);have J0:cZ 1 H2 a l c (av T) G:=hO.fr bw (fun x hx hm=>(hV.n4 x hx).2.2 (by simpa using hm));have hl:l=T.length:=by have:=hO.len;simpa [av] using this.symm
  refine ⟨_,_,_,l7.cell 0,?_⟩;refine dl ic rfl (by kernel_rfl) J0 rfl (by simp [ge]) (by omega) (by decide) (by decide) fun a' c' G2 H3 g1 g2 g3=>⟨_,_,_,rfl,?_⟩;have OV:∀ x∈G,x≠mb∧x≠tb∧x≠m:=hV.n4;have gw:mb<H2.size∧tb<H2.size∧m<H2.size:=⟨c9.lt,l7.lt,Do.lt⟩;have Rz:∀ x∈G2,x≠mb∧x≠tb∧x≠m:=fun x hx=>by
   rcases g2.2 x hx with h4 | h4
   ·exact OV x h4
   ·omega
  have P1:mb∉G:=fun hx=>(OV _ hx).1 rfl;have P2:tb∉G:=fun hx=>(OV _ hx).2.1 rfl;have SJ:m∉G:=fun hx=>(OV _ hx).2.2 rfl;have Lm:bH H3 tb #[.slice a l c]:=l7.fr g2.1 P2;have xb:bH H3 mb #[.map (some m)]:=c9.fr g2.1 P1;have G7:=Do.fr g2.1 SJ;have KY:Fr [tb] H3 (bc H3 ⟨tb,0,none⟩ (.slice a' (l+1) c')):=Fr.set (by simp);refine ⟨Lm.wr (by simp),h _ G2 { b1:=xb.fr KY (by simpa using hV.n1),b2:=⟨a',l+1,c',Lm.set 0 (.slice a' (l+1) c'),?_⟩,mp:=G7.fr KY (by simpa using (V5 hV.n3)),n1:=hV.n1,n2:=hV.n2,n3:=hV.n3,n4:=Rz } ⟨?_,?_⟩⟩
  ·rw [cT];exact g1.fr KY (fun x hx hm=>(Rz x hx).2.1 (by simpa using hm))
  ·exact ((bw.mono (F':=mb :: tb :: m :: G) fun x hx=>by simp only [Uu] at hx;simp [hx]).trans (g2.1.mono fun x hx=>by simp [hx])).trans (KY.mono fun x hx=>by simp only [Uu] at hx;simp [hx])
  ·intro x hx;simp only [Us] at hx ⊢;rcases hx with rfl | rfl | rfl | hx
   ·exact .inl (.inl rfl)
   ·exact .inl (.inr (.inl rfl))
   ·exact .inl (.inr (.inr (.inl rfl)))
   ·rcases g2.2 x hx with h4 | h4
    ·exact .inl (.inr (.inr (.inr h4)))
    ·exact .inr (Ux bw.1 h4)
structure Walk (r:RH) (ws:List Int) (S T:List Int):Prop where
 nd:S.Nodup
 ndT:T.Nodup
 sub:∀ k∈T,k∈S
 sound:∀ k∈S,Reaches r ws k
theorem rV (p:List Int × List Int) (n:Int):∃ nw,(fh p n).1=p.1++nw∧(fh p n).2=p.2++nw∧(n∈(fh p n).1)∧(∀ x∈nw,x=n)∧(p.1.Nodup->(fh p n).1.Nodup):=by
 unfold fh;by_cases h:n∈p.1
 ·exact ⟨[],by simp [h],by simp [h],by simp [h],by simp,fun hn=>by simp [h,hn]⟩
 ·refine ⟨[n],by simp [h],by simp [h],by simp [h],by simp,fun hn=>?_⟩;simp only [h,if_false];rw [VI];exact ⟨hn,by simp,fun a ha b hb e=>h (by simp only [Uu] at hb;rw [←hb,←e];exact ha)⟩
theorem rS (p:List Int × List Int) (xs:List Int):∃ nw,(xs.foldl fh p).1=p.1++nw∧(xs.foldl fh p).2=p.2++nw∧(∀ x∈xs,x∈(xs.foldl fh p).1)∧(∀ x∈nw,x∈xs)∧(p.1.Nodup->(xs.foldl fh p).1.Nodup):=by
 induction xs generalizing p with
 | nil=>exact ⟨[],by simp,by simp,by simp,by simp,fun h=>h⟩
 | cons x xs ih =>
  obtain ⟨n1,a1,a2,a3,a4,a5⟩:=rV p x;obtain ⟨n2,b1,b2,b3,b4,b5⟩:=ih (fh p x);refine ⟨n1++n2,?_,?_,?_,?_,fun h=>b5 (a5 h)⟩
  ·rw [WF,b1,a1,Vq]
  ·rw [WF,b2,a2,Vq]
  ·intro y hy;rw [WF];rcases Us.1 hy with rfl | hy
   ·rw [b1];exact Vx _ a3
   ·exact b3 y hy
  ·intro y hy;rcases Uz.1 hy with hy | hy
   ·rw [a4 y hy];simp
   ·exact Vb _ (b4 y hy)
theorem Walk.fold {ws S T:List Int} (h:Walk r ws S T){xs:List Int} (hx:∀ x∈xs,Reaches r ws x):Walk r ws (xs.foldl fh (S,T)).1 (xs.foldl fh (S,T)).2:=by
 obtain ⟨nw,b1,b2,b3,b4,b5⟩:=rS (S,T) xs;have hnd:=b5 h.nd;simp only at b1 b2;refine { nd:=hnd,ndT:=?_,sub:=fun k hk=>?_,sound:=fun k hk=>?_ }
 ·rw [b2,VI];rw [b1,VI] at hnd;exact ⟨h.ndT,hnd.2.1,fun a ha b hb=>hnd.2.2 a (h.sub a ha) b hb⟩
 ·rw [b2] at hk;rw [b1];rcases Uz.1 hk with hk | hk
  ·exact Vx _ (h.sub k hk)
  ·exact VV _ hk
 ·rw [b1] at hk;rcases Uz.1 hk with hk | hk
  ·exact h.sound k hk
  ·exact hx k (b4 k hk)
theorem Walk.le {ws S T:List Int} (h:Walk r ws S T) (hw:WFH r):S.length<=r.all.length∧T.length<=r.all.length:=by
 have h1:S.length<=r.all.length:=t7 h.nd fun k hk=>(RH.mem_all hw).2 (h.sound k hk).there;exact ⟨h1,Ux (t7 h.ndT h.sub) h1⟩
theorem nQ {ws:List Int}{o:RO}{k:Int} (ho:aG r.objs k=some o) (hk:Reaches r ws k):∀ x∈kX r o,Reaches r ws x:=by
 intro x hx;obtain ⟨h1,h2⟩:=aD ho;obtain ⟨w,hw,rfl,b9⟩:=lu.1 hx;rw [←h2] at hk;rcases Us.1 hw with rfl | hw
 ·exact .cls hk h1 b9
 ·by_cases hf:o.fmt=0
  ·rw [Ur hf] at hw;exact .slot hk h1 hf hw b9
  ·rw [Uq hf] at hw;cases hw
def HV (r:RH) (S T:List Int):Prop:=∀ k∈S,k∉T->∀ o,aG r.objs k=some o->∀ x∈kX r o,x∈S
theorem Walk.closed {ws S:List Int} (h:Walk r ws S []) (hw:WFH r) (hd:HV r S []) (hr:∀ w∈ws,bm r w≠0->bm r w∈S):Closed3 r ws S:=by
 refine { sound:=h.sound,roots:=hr,cls:=fun o ho hk b9=>?_,slot:=fun o ho hk hf w Py b9=>?_ }
 ·exact hd o.oop hk (by simp) o (cY hw.objs ho) _ (lu.2 ⟨o.cls,by simp,rfl,b9⟩)
 ·exact hd o.oop hk (by simp) o (cY hw.objs ho) _ (lu.2 ⟨w,by simp [hf,Py],rfl,b9⟩)
end
abbrev fZ (m:Nat):Value:=.func (.func 164) #[] #[.pointer (some ⟨m+1,0,none⟩),.pointer (some ⟨m+2,0,none⟩)]
def St (H H2:ag) (S T:List Int):Prop:=∃ G,Vis H2 (H.size+1) (H.size+2) H.size S T G∧Fr [] H H2∧(∀ x∈G,H.size+4<=x)∧bH H2 (H.size+3) #[fZ H.size]
def vw (H:ag) (m:Nat):Nat:=match H[m]? with
 | some (.map es _)=>es.size
 | _=>0
def oW (H:ag) (b:Nat):Nat:=match aq H ⟨b,0,none⟩ with
 | some (.slice _ l _)=>l
 | _=>0
section
variable {H:ag}{hb:Nat}{F:aR}{r:RH}{Q:QT}
theorem St.lens {H2:ag}{S T:List Int} (h:St H H2 S T):vw H2 H.size=S.length∧oW H2 (H.size+2)=T.length:=by
 obtain ⟨G,hV,_⟩:=h;obtain ⟨ents,clock,hm,he,_⟩:=hV.mp;obtain ⟨a,l,c,hB,hO⟩:=hV.b2;constructor
 ·unfold vw;rw [hm]
  have:=congrArg List.length he;simpa [gh] using this
 ·unfold oW;rw [show aq H2 ⟨H.size+2,0,none⟩=some (.slice a l c) from hB.cell 0]
  have:=hO.len;simpa [av] using this.symm
theorem St.other {H2 H3:ag}{S T:List Int}{F:aR} (h:St H H2 S T) (hf:Fr F H2 H3) (hF:∀ b∈F,H.size+4<=b∧∀ c e f,H2[b]?≠some (Obj.cells c e f)):St H H3 S T:=by
 obtain ⟨G,hV,hE,hG,hB⟩:=h;have hn:∀ b,b<H.size+4->b∉F:=fun b hb hm=>by have:=(hF b hm).1;omega
 refine ⟨G,hV.fr hf (hn _ (by omega)) (hn _ (by omega)) (hn _ (by omega)) (fun x hx hm=>?_),?_,hG,hB.fr hf (hn _ (by omega))⟩
 ·obtain ⟨a,l,c,_,hO⟩:=hV.b2;rcases hO.2.2 with ⟨_,_,rfl⟩ | ⟨b',cs,_,rfl,⟨t,P3⟩,_⟩
  ·cases hx
  ·simp only [Uu] at hx;subst hx;exact (hF x hm).2 _ _ _ P3
 ·refine ⟨Ux hE.1 hf.1,fun b hb _=>?_⟩;rw [hf.2 b (UJ hb hE.1) (hn b (by omega)),hE.2 b hb (by simp)]
theorem St.visitG {H2:ag}{S T:List Int}{G:aR} (hV:Vis H2 (H.size+1) (H.size+2) H.size S T G) (hE:Fr [] H H2) (hG:∀ x∈G,H.size+4<=x) (hB:bH H2 (H.size+3) #[fZ H.size]){n:Int} (hT:T.length<1000000000)
  (hq:∀ H' G',Vis H' (H.size+1) (H.size+2) H.size (fh (S,T) n).1 (fh (S,T) n).2 G'->Fr [] H H'->(∀ x∈G',H.size+4<=x)->bH H' (H.size+3) #[fZ H.size]->(∀ x∈G',x∈G∨H2.size<=x) ->
   Fr ((H.size+1) :: (H.size+2) :: H.size :: G) H2 H'->Q (.tuple #[]) H') :
  ae PP 164 #[ac n,.pointer (some ⟨H.size+1,0,none⟩),.pointer (some ⟨H.size+2,0,none⟩)] Q H2:=by
 refine Ds hV hT fun H' G' P4 hu=>hq H' G' P4 ?_ (fun x hx=>?_) ?_ (fun x hx=>?_) hu.1
 ·refine ⟨Ux hE.1 hu.1.1,fun b hb _=>?_⟩;rw [hu.1.2 b (UJ hb hE.1) (fun hm=>?_),hE.2 b hb (by simp)];simp only [Us] at hm;rcases hm with rfl | rfl | rfl | hm
  ·omega
  ·omega
  ·omega
  ·have:=hG b hm;omega
 ·rcases hu.2 x (by simp [hx]) with h1 | h1
  ·simp only [Us] at h1
   have:=P4.n4 x hx;rcases h1 with rfl | rfl | rfl | h1
   ·omega
   ·omega
   ·omega
   ·exact hG x h1
  ·have:=hB.lt;omega
 ·refine hB.fr hu.1 (fun hm=>?_);simp only [Us] at hm;rcases hm with h1 | h1 | h1 | h1
  ·omega
  ·omega
  ·omega
  ·have:=hG _ h1;omega
 ·rcases hu.2 x (by simp [hx]) with h1 | h1
  ·simp only [Us] at h1
   have:=P4.n4 x hx;rcases h1 with rfl | rfl | rfl | h1
   ·omega
   ·omega
   ·omega
   ·exact .inl h1
  ·exact .inr h1
theorem St.visit {H2:ag}{S T:List Int} (h:St H H2 S T){n:Int} (hT:T.length<1000000000) (hq:∀ H',St H H' (fh (S,T) n).1 (fh (S,T) n).2->Q (.tuple #[]) H') :
  ae PP 164 #[ac n,.pointer (some ⟨H.size+1,0,none⟩),.pointer (some ⟨H.size+2,0,none⟩)] Q H2:=by
 obtain ⟨G,hV,hE,hG,hB⟩:=h;exact St.visitG hV hE hG hB hT fun H' G' h1 h2 h3 h4 _ _=>hq H' ⟨G',h1,h2,h3,h4⟩
theorem St.fr {H2:ag}{S T:List Int} (h:St H H2 S T):Fr [] H H2:=by obtain ⟨_,_,h,_⟩:=h;exact h
theorem St.cell {H2:ag}{S T:List Int} (h:St H H2 S T):aq H2 ⟨H.size+3,0,none⟩=some (fZ H.size):=by obtain ⟨_,_,_,_,h⟩:=h;exact h.cell 0
def gj (l:List (Key × Value)):List Int:=l.map fun p=>match p.1 with
 | .int k=>k
 | .str _=>0
theorem vj (S:List Int):gj (gh S)=S:=by
 unfold gj gh;rw [V4];exact List.map_id' S
theorem RH.all_sorted (r:RH):r.all.Pairwise (· < ·):=by
 unfold RH.all RH.upto;refine List.Pairwise.filter _ ?_;rw [VE];exact List.pairwise_lt_range.imp fun h=>by omega
theorem sk {ws S:List Int} (hw:WFH r) (hnd:S.Nodup) (P5:∀ k,k∈S↔Reaches r ws k){out:List Int} (hp:out.Perm S):(out.mergeSort fun x y=>decide (x<=y))=r.reach ws:=by
 have hs:=List.pairwise_mergeSort (le:=fun x y:Int=>decide (x<=y)) (fun a b c h1 h2=>by simp at *;omega) (fun a b=>by simp;omega) out;have h1:(r.reach ws).Pairwise (· < ·):=(RH.all_sorted r).filter _;have h2:(r.reach ws).Nodup:=h1.imp fun h e=>by omega
 have IN:(out.mergeSort fun x y=>decide (x<=y)).Perm (r.reach ws):=by
  refine ((List.mergeSort_perm out _).trans hp).trans ?_;rw [VX hnd h2];intro k;rw [P5,RH.mem_reach hw]
 exact List.Perm.eq_of_pairwise (fun a b _ _ h3 h4=>by simp at h3 h4;omega) hs (h1.imp fun h=>by simp;omega) IN
end
section
variable {H:ag}{hb:Nat}{F:aR}{r:RH}{Q:QT}
theorem KH {H6:ag}{S T:List Int}{k:Int}{o:RO}{X:Loop}{Kn Kr:ag->Prop}{Ke:List (Nat × (ag->Prop))} (hR:dF H hb F r) (ci:St H H6 S T){ws:List Int} (Jd:Walk r ws S T) (Jt:aG r.objs k=some o) (NE:Reaches r ws k) (al:r.all.length<=65537)
  (hX:∀ {n1:Int}{Q':Value->ag->Prop}{H':ag},H'[H6.size+3]?=some (.loop X)->eN (H6.size+3) ⟨H.size+3,0,none⟩ n1 Q' H'->iT PP (H6.size+3) #[ac n1] Q' H') (OW:X.state=.ready) (P6:X.pending=none)
  (hK:∀ H8,St H H8 ((kX r o).foldl fh (S,T)).1 ((kX r o).foldl fh (S,T)).2->Kn H8) :
  ae PP 280 ((#[]++#[.func (.yield (H6.size+3)) #[] #[]])++#[.pointer (some ⟨H6.size,0,none⟩),.pointer (some ⟨H6.size+1,0,none⟩)]) (fun _ H7=>oY (H6.size+3) Kn Kr Ke H7)
   ((((H6.push (.cells #[Kj hb] 66)).push (.cells #[ac k] 3)).push (.deferred (some []))).push (.loop X)):=by
 have hw:=hR.wf;have h4:H.size+4<=H6.size:=by obtain ⟨_,_,_,_,h⟩:=ci;have:=h.lt;omega
 show ae PP 280 #[.func (.yield (H6.size+3)) #[] #[],.pointer (some ⟨H6.size,0,none⟩),.pointer (some ⟨H6.size+1,0,none⟩)] _ _;have b0:bH ((((H6.push (.cells #[Kj hb] 66)).push (.cells #[ac k] 3)).push (.deferred (some []))).push (.loop X)) H6.size #[Kj hb]:=(((bH.new H6 _ _).push _).push _).push _;have b1:bH ((((H6.push (.cells #[Kj hb] 66)).push (.cells #[ac k] 3)).push (.deferred (some []))).push (.loop X)) (H6.size+1) #[ac k]:=by
  have:=((bH.new (H6.push (.cells #[Kj hb] 66)) #[ac k] 3).push (.deferred (some []))).push (.loop X);simpa using this
 have hl:((((H6.push (.cells #[Kj hb] 66)).push (.cells #[ac k] 3)).push (.deferred (some []))).push (.loop X))[H6.size+3]?=some (.loop X):=by
  have:H6.size+3=(((H6.push (.cells #[Kj hb] 66)).push (.cells #[ac k] 3)).push (.deferred (some []))).size:=by simp
  rw [this];exact Wl
 obtain ⟨G0,gV0,gf0,gG,gB0⟩:=ci;have JF:Fr [] H6 ((((H6.push (.cells #[Kj hb] 66)).push (.cells #[ac k] 3)).push (.deferred (some []))).push (.loop X)):=(((Fr.push [] H6 _).more).more).more;have gV:=gV0.fr JF (by simp) (by simp) (by simp) (dB.nil_right _);have gf:=gf0.trans JF;have gB:=gB0.fr JF (by simp);have SK:∀ x∈G0,x<H6.size∨H6.size+4<=x:=fun x hx=>.inl (gV0.lt x (by simp [hx]));refine Bt (hb:=hb) (F:=F) (r:=r) (k:=k) Jt (J:=fun pre H'=>(∃ G,Vis H' (H.size+1) (H.size+2) H.size (pre.foldl fh (S,T)).1 (pre.foldl fh (S,T)).2 G∧Fr [] H H'∧(∀ x∈G,H.size+4<=x)∧bH H' (H.size+3) #[fZ H.size]∧∀ x∈G,x<H6.size∨H6.size+4<=x)∧bH H' H6.size #[Kj hb]∧bH H' (H6.size+1) #[ac k]∧H'[H6.size+3]?=some (.loop X))
  (fun pre H' hJ=>⟨hR.fr hJ.1.choose_spec.2.1 (dB.nil_right F) (by simp),hJ.2.1.cell 0,hJ.2.2.1.cell 0⟩) ?_ ⟨⟨G0,gV,gf,gG,gB,SK⟩,b0,b1,hl⟩ ?_
 ·rintro pre x H' ⟨suf,he⟩ ⟨⟨G,pV,pf,pG,pB,pb⟩,k0,k1,t6⟩;refine hX t6 ?_;unfold eN;dsimp only [bk,gg,lE,ac,ax];have P7:Walk r ws (pre.foldl fh (S,T)).1 (pre.foldl fh (S,T)).2:=Jd.fold fun y hy=>nQ Jt NE y (by rw [he];simp [hy]);have nf:∀ (Y:ag) (o:Obj),Fr [H6.size+3] Y (Y.setIfInBounds (H6.size+3) o):=fun Y o=>Fr.setObj _ _ _;have keepV:∀ {Y:ag}{o:Obj}{S' T':List Int}{G':aR},Vis Y (H.size+1) (H.size+2) H.size S' T' G'->Fr [] H Y->bH Y (H.size+3) #[fZ H.size]->(∀ x∈G',x<H6.size∨H6.size+4<=x) ->
    Vis (Y.setIfInBounds (H6.size+3) o) (H.size+1) (H.size+2) H.size S' T' G'∧Fr [] H (Y.setIfInBounds (H6.size+3) o)∧bH (Y.setIfInBounds (H6.size+3) o) (H.size+3) #[fZ H.size]:=by
   intro Y o S' T' G' hv hf hB rA;refine ⟨hv.fr (nf Y o) (by simp;omega) (by simp;omega) (by simp;omega) (fun x hx hm=>?_),⟨by simpa using hf.1,fun b b8 _=>?_⟩,hB.fr (nf Y o) (by simp;omega)⟩
   ·have h1:=Uu.1 hm;rcases rA x hx with h2 | h2 <;> omega
   ·rw [(nf Y o).2 b (UJ b8 hf.1) (fun hm=>by have:=Uu.1 hm;omega),hf.2 b b8 (by simp)]
  have Mr:=(UN.1 t6).1;have JC:(H'.setIfInBounds (H6.size+3) (Obj.loop { X with state:=.busy }))[H6.size+3]?=some (.loop { X with state:=.busy }):=by simp [Mr]
  have k02:=k0.fr (nf H' (Obj.loop { X with state:=.busy })) (by simp);have k12:=k1.fr (nf H' (Obj.loop { X with state:=.busy })) (by simp);obtain ⟨qV,qf,qB⟩:=keepV (o:=Obj.loop { X with state:=.busy }) pV pf pB pb;refine ⟨X,t6,OW,.inl ⟨_,_,_,qB.cell 0,?_⟩⟩;show ae PP 164 #[ac x,.pointer (some ⟨H.size+1,0,none⟩),.pointer (some ⟨H.size+2,0,none⟩)] _ _;have pp:=P7.le hw;refine St.visitG qV qf pG qB (by omega) fun H3 G' v1 v2 v3 v4 v5 v6=>⟨rfl,?_⟩;have P8:∀ b,(b=H6.size∨b=H6.size+1∨b=H6.size+3)->b∉(H.size+1) :: (H.size+2) :: H.size :: G:=by
   intro b b8 hm;simp only [Us] at hm;rcases hm with h1 | h1 | h1 | h1
   ·omega
   ·omega
   ·omega
   ·rcases pb b h1 with h2 | h2 <;> omega
  have l3:H3[H6.size+3]?=some (.loop { X with state:=.busy }):=(v6.2 _ (by simpa using Mr) (P8 _ (.inr (.inr rfl)))).trans JC;have xb:∀ x∈G',x<H6.size∨H6.size+4<=x:=fun x hx=>by
   rcases v5 x hx with h1 | h1
   ·exact pb x h1
   ·have:H6.size+3<(H'.setIfInBounds (H6.size+3) (Obj.loop { X with state:=.busy })).size:=by simpa using Mr
    omega
  have SL:({ ({ X with state:=.busy }:Loop) with state:=.ready,pending:=none }:Loop)=X:=by
   cases X;simp only at OW P6;subst OW;subst P6;rfl
  refine ⟨_,l3,rfl,?_⟩;rw [SL];obtain ⟨u1,u2,u3⟩:=keepV (o:=Obj.loop X) v1 v2 v4 xb;have hl3lt:=(UN.1 l3).1;refine ⟨⟨G',?_,u2,v3,u3,xb⟩,(k02.fr v6 (P8 _ (.inl rfl))).fr (nf H3 _) (by simp),(k12.fr v6 (P8 _ (.inr (.inl rfl)))).fr (nf H3 _) (by simp),by simp [hl3lt]⟩;rw [List.foldl_append];exact u1
 ·rintro H' ⟨⟨G,pV,pf,pG,pB,pb⟩,k0,k1,t6⟩;refine ⟨X,t6,by rw [OW];simp,?_⟩;rw [P6];exact hK _ (St.other ⟨G,pV,pf,pG,pB⟩ (Fr.setObj _ _ _) (by
   intro b b8;have b8:=Uu.1 b8;subst b8;exact ⟨by omega,fun c e f hc=>by rw [t6] at hc;cases hc⟩))
theorem DI (hR:dF H hb F r){a2:Option Addr}{l2 c2:Nat}{ws:List Int} (hk:Rd 1 H a2 l2 (av ws)) (HP:l2<=1000000)
  (h:∀ a l c G H',cZ 1 H' a l c (av (r.reach ws)) G->Fr [] H H'->(∀ x∈G,H.size<=x)->Q (.tuple #[.slice a l c,ac 0]) H'):ae PP 82 #[Kj hb,.slice a2 l2 c2] Q H:=by
 have hw:=hR.wf;have Ll:eI PP 213=some (.int .i64,some (ac 0)):=by kernel_rfl
 have ic:bj PP 25=some (1,8,some (ac 0)):=by kernel_rfl
 have JC:l2=ws.length:=by have:=hk.1;simpa [av] using this.symm
 have al:r.all.length<=65537:=by
  have:=r.upto_len (r.oops+1).toNat;have h1:=hw.o1;exact Ux this (by omega)
 apply FK;unfold Ki;dsimp only [aK,zo,mH,bk,g9,ao,lD,gg,cS,bv,lE,aB,aH,mI,bq,ac,bu,Kh,Hm,au,ck,ga,fi,am,aJ,xU,cC,ax,bP,bU,bd];simp only [aM,bR,UL,Uw,Ut,aU,List.setIfInBounds_toArray,List.set_cons_zero,List.set_cons_succ,VD,US,Vi,List.getElem?_toArray,List.getElem?_cons_succ,List.getElem?_cons_zero,Nat.add_assoc,Nat.reduceAdd];have e1:H.size+1=(H.push (.map #[] 0)).size:=by simp
 have e3:H.size+3=(((H.push (.map #[] 0)).push (.cells #[.map (some H.size)] 213)).push (.cells #[.slice none 0 0] 25)).size:=by simp
 have w1:Wr ((H.push (.map #[] 0)).push (.cells #[.map none] 213)) ⟨H.size+1,0,none⟩:=by rw [e1];exact aU.2 (by simp)
 have x1:bc ((H.push (.map #[] 0)).push (.cells #[.map none] 213)) ⟨H.size+1,0,none⟩ (.map (some H.size))=(H.push (.map #[] 0)).push (.cells #[.map (some H.size)] 213):=by rw [e1,aM];rfl
 rw [x1];refine ⟨w1,?_⟩;have w2:Wr ((((H.push (.map #[] 0)).push (.cells #[.map (some H.size)] 213)).push (.cells #[.slice none 0 0] 25)).push (.cells #[.nilFunc] 214)) ⟨H.size+3,0,none⟩:=by rw [e3];exact aU.2 (by simp)
 have x2:bc ((((H.push (.map #[] 0)).push (.cells #[.map (some H.size)] 213)).push (.cells #[.slice none 0 0] 25)).push (.cells #[.nilFunc] 214)) ⟨H.size+3,0,none⟩ (fZ H.size)=(((H.push (.map #[] 0)).push (.cells #[.map (some H.size)] 213)).push (.cells #[.slice none 0 0] 25)).push (.cells #[fZ H.size] 214):=by rw [e3,aM];rfl
 refine ⟨w2,?_⟩;rw [x2];have KZ:St H ((((H.push (.map #[] 0)).push (.cells #[.map (some H.size)] 213)).push (.cells #[.slice none 0 0] 25)).push (.cells #[fZ H.size] 214)) [] []:=by
  have f0:Fr [] H (H.push (.map #[] 0)):=Fr.push _ _ _;refine ⟨[],{ b1:=?_,b2:=⟨none,0,0,?_,cZ.nil 1 _⟩,mp:=?_,n1:=by omega,n2:=by omega,n3:=by omega,n4:=by simp },f0.more.more.more,by simp,?_⟩
  ·have:=((bH.new (H.push (.map #[] 0)) #[.map (some H.size)] 213).push (.cells #[.slice none 0 0] 25)).push (.cells #[fZ H.size] 214);simpa using this
  ·have:=(bH.new ((H.push (.map #[] 0)).push (.cells #[.map (some H.size)] 213)) #[.slice none 0 0] 25).push (.cells #[fZ H.size] 214);simpa using this
  ·exact (dJ.new H).fr (G:=[]) ((Fr.push [] _ _).more.more) (by simp)
  ·have:=bH.new (((H.push (.map #[] 0)).push (.cells #[.map (some H.size)] 213)).push (.cells #[.slice none 0 0] 25)) #[fZ H.size] 214;simpa using this
 generalize ((((H.push (.map #[] 0)).push (.cells #[.map (some H.size)] 213)).push (.cells #[.slice none 0 0] 25)).push (.cells #[fZ H.size] 214))=H0 at KZ ⊢;have Ms:dB F []:=dB.nil_right F;have P9:∀ {H2:ag}{S T:List Int},St H H2 S T->dF H2 hb F r:=fun hs=>hR.fr hs.fr Ms (by simp);refine ⟨fun w H2=>∃(i:Nat) (S:List Int),w=[ac i]∧i<=l2∧St H H2 S S∧Walk r ws S S∧∀ w∈ws.take i,bm r w≠0->bm r w∈S,fun w _=>match w with
  | [.int _ i]=>(l2-i).toNat
  | _=>0,⟨0,[],rfl,U7 _,KZ,⟨by simp,by simp,by simp,by simp⟩,by simp⟩,?_⟩
 rintro w4 H2 ⟨i,S,rfl,hi,ci,Jd,LR⟩ g5;refine ⟨_,rfl,?_⟩;rw [ah];refine aP (fun aa=>?_) fun aa=>?_
 ·
  have dq:i<ws.length:=by omega
  obtain ⟨p,rfl,aj,gw⟩:=(hk.fr' ci.fr (by simp)).int (i:=(i:Int)) (by omega) aa;rw [Uy] at aj gw;have hx:ws.getD i 0=ws[i]:=by simp [gw]
  rw [hx] at aj;have ix:ws.take (i+1)=ws.take i++[ws[i]]:=by rw [Vj];simp [gw]
  have e:IntKind.wrap .i64 ((i:Int)+1)=((i+1:Nat):Int):=by rw [az (by omega) (by omega)];omega
  have ND:((l2:Int)-((i+1:Nat):Int)).toNat<((l2:Int)-(i:Int)).toNat:=by omega
  refine ⟨⟨by omega,aa⟩,_,rfl,_,by rw [Uy,UC];exact aj,?_⟩;rw [e];refine sM (P9 ci) (fun b9=>⟨_,_,rfl,?_⟩) fun he x=>⟨_,_,rfl,?_⟩
  ·simp only [UK];refine .inl ⟨_,_,_,ci.cell,?_⟩;have pp:=Jd.le hw;refine ci.visit (by omega) fun H' NF=>⟨rfl,⟨i+1,(fh (S,S) (bm r ws[i])).1,rfl,by omega,?_,?_,?_⟩,ND⟩
   ·have:(fh (S,S) (bm r ws[i])).2=(fh (S,S) (bm r ws[i])).1:=by unfold fh;split <;> rfl
    rw [this] at NF;exact NF
   ·have:=Jd.fold (xs:=[bm r ws[i]]) (by intro x hx;simp only [Uu] at hx;subst hx;exact .root (by simp) b9);simp only [WF,List.foldl_nil] at this;have e2:(fh (S,S) (bm r ws[i])).2=(fh (S,S) (bm r ws[i])).1:=by unfold fh;split <;> rfl
    rw [e2] at this;exact this
   ·intro w lr LA;obtain ⟨nw,a1,_,a3,_⟩:=rV (S,S) (bm r ws[i]);rw [ix] at lr;rcases Uz.1 lr with lr | lr
    ·rw [a1];exact Vx _ (LR w lr LA)
    ·simp only [Uu] at lr;subst lr;exact a3
  ·simp only [Ut];refine ⟨⟨i+1,S,rfl,by omega,ci,Jd,fun w lr LA=>?_⟩,ND⟩;rw [ix] at lr;rcases Uz.1 lr with lr | lr
   ·exact LR w lr LA
   ·simp only [Uu] at lr;subst lr;exact absurd he LA
 ·
  have lp:i=ws.length:=by omega
  rw [lp,Wc] at LR;refine ⟨fun w H5=>w=[]∧∃ S T,St H H5 S T∧Walk r ws S T∧HV r S T∧∀ w∈ws,bm r w≠0->bm r w∈S,fun _ H5=>(r.all.length-vw H5 H.size)+oW H5 (H.size+2),⟨rfl,S,S,ci,Jd,fun k h1 h2=>absurd h1 h2,LR⟩,?_⟩;clear ci Jd LR;rintro w15 H5 ⟨rfl,S,T,ci,Jd,RA,LR⟩ g16;obtain ⟨OX,hsl⟩:=ci.lens;have LS:=Jd.le hw;have Qa:=ci;obtain ⟨G,hV,hE,hG,RB⟩:=Qa;obtain ⟨a,l,c,Qb,hO⟩:=hV.b2;have hl:l=T.length:=by have:=hO.len;simpa [av] using this.symm
  have ct:aq H5 ⟨H.size+2,0,none⟩=some (.slice a l c):=Qb.cell 0;refine ⟨rfl,_,_,_,ct,?_⟩;rw [ah];refine aP (fun ly=>?_) fun ly=>?_
  ·
   have RC:0<T.length:=by omega
   obtain ⟨T0,k,rfl⟩:∃ T0 k,T=T0++[k]:=by
    rcases Vu T with h1 | ⟨m,x,h1⟩
    ·rw [h1] at RC;simp at RC
    ·exact ⟨m,x,by simpa using h1⟩
   have hlT:l=T0.length+1:=by simpa using hl
   have e2:IntKind.wrap .i64 ((l:Int)-1)=(T0.length:Int):=by rw [az (by omega) (by omega)];omega
   have hTb:T0.length+1<=r.all.length:=by have:=LS.2;simpa using this
   have hlec:=hO.2.1;refine ⟨_,_,_,ct,_,_,_,ct,?_⟩;rw [e2];obtain ⟨p,rfl,aj,gw⟩:=hO.rd.int (i:=(T0.length:Int)) (by omega) (by omega);rw [Uy] at aj;have hx:(T0++[k]).getD T0.length 0=k:=by simp
   rw [hx] at aj;refine ⟨⟨by omega,by omega⟩,_,rfl,k,by rw [Uy,UC];exact aj,_,_,_,ct,_,_,_,ct,?_⟩;rw [e2];rw [Uy];refine ⟨⟨by omega,by omega⟩,Qb.wr (by simp),?_⟩;have NG:St H (bc H5 ⟨H.size+2,0,none⟩ (.slice (some p) T0.length c)) S T0:=by
    have KY:Fr [H.size+2] H5 (bc H5 ⟨H.size+2,0,none⟩ (.slice (some p) T0.length c)):=Fr.set (by simp);have SM:=hV.n4;refine ⟨G,{ b1:=hV.b1.fr KY (by simp),b2:=⟨some p,T0.length,c,Qb.set 0 _,?_⟩,mp:=hV.mp.fr KY (by simp),n1:=hV.n1,n2:=hV.n2,n3:=hV.n3,n4:=hV.n4 },?_,hG,RB.fr KY (by simp)⟩
    ·have h1:=hO.fr KY (fun x hx hm=>(SM x hx).2.1 (by simpa using hm));refine ⟨by simp [av],by omega,?_⟩;rcases h1.2.2 with ⟨h2,_,_⟩ | ⟨b',cs,h2,h3,h4,h5,h6⟩
     ·cases h2
     ·refine .inr ⟨b',cs,h2,h3,h4,h5,?_⟩;have h7:(cs.toList.take (l*1)).take T0.length=(av (T0++[k])).take T0.length:=by rw [h6]
      have h8:(av T0).take T0.length=av T0:=UY (by simp [av]);have h9:min T0.length (l*1)=T0.length:=by omega
      rw [WJ,cT,VB (by simp [av]),h8,h9] at h7;rw [←h7,UC]
    ·refine ⟨Ux hE.1 KY.1,fun b hb _=>?_⟩;rw [KY.2 b (UJ hb hE.1) (by simp;omega),hE.2 b hb (by simp)]
   have SN:∀ H6,H6=bc H5 ⟨H.size+2,0,none⟩ (.slice (some p) T0.length c)->H6=bc H5 ⟨H.size+2,0,none⟩ (.slice (some p) T0.length c):=fun _ h=>h;generalize hH6:bc H5 ⟨H.size+2,0,none⟩ (.slice (some p) T0.length c)=H6 at NG ⊢;clear SN;have SO:k∈S:=Jd.sub k (by simp);have NE:Reaches r ws k:=Jd.sound k SO;obtain ⟨o,Jt⟩:∃ o,aG r.objs k=some o:=by
    cases ho:aG r.objs k with
    | none=>exact absurd ho NE.there
    | some o=>exact ⟨o,rfl⟩
   refine FG (H:=H6) (hb:=hb) ⟨_,_,_,rfl,fun fn26=>?_⟩;have NH:Walk r ws S T0:={ Jd with ndT:=Jd.ndT.sublist (by simp),sub:=fun x hx=>Jd.sub x (by simp [hx]) };simp only [UL,Nat.add_assoc,Nat.reduceAdd];refine KH (H:=H) (ws:=ws) hR NG NH Jt NE al (fun hl hq=>iZ hl hq) rfl rfl fun H8 NJ=>?_;have Nu:∀ x∈kX r o,Reaches r ws x:=nQ Jt NE;obtain ⟨nw,b1,b2,b3,b4,b5⟩:=rS (S,T0) (kX r o);simp only at b1 b2;have NK:=NH.fold Nu;obtain ⟨SQ,SR⟩:=NJ.lens;have hle8:=NK.le hw;refine ⟨⟨trivial,_,_,NJ,NK,fun j JW sc o' eF x hx=>?_,fun w lr b9=>?_⟩,?_⟩
   ·by_cases JQ:j=k
    ·subst JQ;rw [Jt] at eF;cases eF;exact b3 x hx
    ·rw [b2] at sc;rw [b1] at JW ⊢;have SS:j∈S:=by
      rcases Uz.1 JW with h1 | h1
      ·exact h1
      ·exact absurd (VV T0 h1) sc
     refine Vx _ (RA j SS (fun hm=>?_) o' eF x hx);rcases Uz.1 hm with h1 | h1
     ·exact sc (Vx _ h1)
     ·simp only [Uu] at h1;exact JQ h1
   ·rw [b1];exact Vx _ (LR w lr b9)
   ·rw [SQ,SR,OX,hsl];have l1:=congrArg List.length b1;have l2:=congrArg List.length b2;simp only [UP,US,Vi] at l1 l2 ⊢;omega
  ·
   have K0:T=[]:=UX (by omega);subst K0;have r0:=Jd.closed hw RA LR;have cm:aq H5 ⟨H.size+1,0,none⟩=some (.map (some H.size)):=hV.b1.cell 0;refine ⟨_,cm,wz Ll hV.mp ⟨_,rfl,?_⟩⟩;have RE:(gh S).length=S.length:=by simp [gh]
   have hSle:=LS.1;refine eA ic rfl (Vo _) (by omega) (by omega) (by decide) fun e=>⟨_,_,_,rfl,?_⟩;have JF:Fr [] H5 (H5.push (.cells (Array.replicate ((gh S).length:Int).toNat (ac 0)) e)):=Fr.push _ _ _;refine ⟨_,(show _=some (Value.map (some H.size)) from (hV.b1.fr JF (by simp)).cell 0),?_⟩;refine sS Ll (hV.mp.fr JF (by simp)) fun H11 RF Mt=>?_;have hlt5:H.size+3<H5.size:=RB.lt;refine ⟨fun w HH=>∃(a:Option Addr) (l c:Nat) (G':aR) (done:List (Key × Value)),w=[.slice a l c]∧gU HH (H5.size+1) H.size (gh S) done∧cZ 1 HH a l c (av (gj done)) G'∧Fr [] H HH∧(∀ x∈G',H5.size<=x∧x≠H5.size+1)∧G'≠[]∧H5.size+2<=HH.size,fun w _=>match w with
    | [.slice _ l _]=>S.length-l
    | _=>0,⟨_,_,_,[H5.size],[],rfl,?_,?_,?_,?_,by simp,?_⟩,?_⟩
   ·simpa using RF
   ·exact (cZ.newMem H5 ((gh S).length:Int).toNat e).fr Mt (by simp)
   ·exact (hE.trans JF).trans Mt
   ·simp
   ·have:=Mt.1;simp only [UL] at this;have h2:=RF;obtain ⟨_,_,_,_,_,_,_,_,h3,_⟩:=h2
    have:=(UN.1 h3).1;simp only [UL] at this;omega
   ·rintro w HH ⟨a1,l1,c1,G1,done,rfl,NL,CO,be,M1,Qc,hsz1⟩ g;refine ⟨_,_,_,rfl,?_⟩;have Lv:l1=done.length:=by have:=CO.len;simpa [av,gj] using this.symm
    have Qd:=NL.len;rw [RE] at Qd;simp only [UL];refine uZ NL (fun IN=>.inl ⟨rfl,?_⟩) fun p H12 hp Mu bw=>.inr ⟨_,_,rfl,?_⟩
    ·
     have Mq:(gj done).Perm S:=by
      have:=Wv (fun p:Key × Value=>(gj [p]).headD 0) IN;have e:∀ l:List (Key × Value),l.map (fun p=>(gj [p]).headD 0)=gj l:=fun l=>by unfold gj;apply Wh;intro p _;simp
      rw [e,e,vj] at this;exact this
     rcases CO.2.2 with ⟨_,_,h0⟩ | ⟨b,cs,h1,h2,_⟩
     ·exact absurd h0 Qc
     ·subst h1;subst h2;refine pS Tryz.sortI ⟨_,Tryz.func167,rfl⟩ CO (by omega) fun H13 NM NN=>⟨rfl,fun H14 ll=>?_⟩;rw [sk hw Jd.nd (fun k=>r0.iff) Mq] at NM;have hb:=M1 b (by simp);have Qe:Fr [] H H13:=⟨Ux be.1 NN.1,fun x hx _=>by
       rw [NN.2 x (UJ hx be.1) (fun hm=>by have:=Uu.1 hm;have:=hE.1;omega),be.2 x hx (by simp)]⟩
      exact h _ _ _ [b] H14 (ku.own ll NM) (ku.fr ll Qe rfl) (fun x hx=>by have:=Uu.1 hx;have:=hE.1;omega)
    ·obtain ⟨n,hn⟩:∃ n,p.1=.int n:=by
      simp only [gh,UM] at hp;obtain ⟨k,_,rfl⟩:=hp;exact ⟨k,rfl⟩
     refine sj Mu ⟨n,p.2,by rw [hn];rfl,?_⟩;have ST:(H5.size+1)∉G1:=fun hm=>(M1 _ hm).2 rfl;have Jk:cZ 1 H12 a1 l1 c1 (av (gj done)) G1:=CO.fr bw (fun x hx hm=>(M1 x hx).2 (by simpa using hm));have l9:Fr [] H H12:=⟨Ux be.1 bw.1,fun x hx _=>by
      rw [bw.2 x (UJ hx be.1) (fun hm=>by have:=Uu.1 hm;have:=hE.1;omega),be.2 x hx (by simp)]⟩
     have NO:=Mu.len;rw [RE,UP] at NO;simp only [US,Vi] at NO;refine dl ic rfl (by kernel_rfl) Jk rfl (by simp [ge]) (by omega) (by decide) (by decide) fun a' c' G2 H3 g1 g2 g3=>⟨_,_,_,rfl,⟨a',l1+1,c',G2,done++[p],rfl,?_,?_,?_,?_,?_,?_⟩,?_⟩
     ·exact Mu.fr g2.1 ST (fun hm=>by have:=(M1 _ hm).1;have:=hE.1;omega)
     ·have:gj (done++[p])=gj done++[n]:=by simp [gj,hn]
      rw [this,cT];exact g1
     ·refine ⟨Ux l9.1 g2.1.1,fun x hx _=>?_⟩;rw [g2.1.2 x (UJ hx l9.1) (fun hm=>by have:=(M1 _ hm).1;have:=hE.1;omega),l9.2 x hx (by simp)]
     ·intro x hx;rcases g2.2 x hx with h4 | h4
      ·exact M1 x h4
      ·have:=bw.1;omega
     ·intro h0;subst h0;rcases g1.2.2 with ⟨_,h1,_⟩ | ⟨_,_,_,h1,_⟩
      ·have:=g1.2.1;omega
      ·cases h1
     ·have:=bw.1;have:=g2.1.1;omega
     ·omega
end
end Go.Proofs.YtgjfejoohojokaaGreatDoor
namespace Kw
open Go
structure SP where
 h:RH
 king:Int
 stack:List Int
 op:Bool
 born:Int
 turn:Int
 mark:Int
structure WFS (s:SP):Prop where
 h:WFH s.h
 king0:0<=s.king
 king1:s.king<=65536
 many:s.stack.length<=65536
 words:∀ w∈s.stack,cP w
def SP.roots (s:SP):List Int:=(4*s.king) :: s.stack
noncomputable def SP.reach (s:SP):List Int:=s.h.reach s.roots
noncomputable def SP.collect (s:SP):(Int × Int × Int) × SP:=if s.op then ((0,0,25),s) else ((s.h.keep s.reach).1,{ s with h:=(s.h.keep s.reach).2 })
noncomputable def SP.alloc (s:SP) (cls n fmt:Int):(Int × Int) × SP :=
 if (s.h.alloc cls n fmt).1.2≠23∨s.op=true then ((4*(s.h.alloc cls n fmt).1.1,(s.h.alloc cls n fmt).1.2),{ s with h:=(s.h.alloc cls n fmt).2 })
 else ((4*((s.h.keep s.reach).2.alloc cls n fmt).1.1,((s.h.keep s.reach).2.alloc cls n fmt).1.2),{ s with h:=((s.h.keep s.reach).2.alloc cls n fmt).2 })
def SP.keepW (s:SP) (ws:List Int):Int × SP:=if ∃ w∈ws,¬ cP w then (10,s) else if 65536<s.stack.length+ws.length then (22,s) else (0,{ s with stack:=s.stack++ws })
def SP.drop (s:SP) (n:Int):Int × SP:=if n<0∨(s.stack.length:Int)<n then (28,s) else (0,{ s with stack:=s.stack.take (s.stack.length-n.toNat) })
def SP.crown (s:SP) (k:Int):Int × SP:=if (s.h.clsAt k).2≠0 then ((s.h.clsAt k).2,s) else (0,{ s with king:=k })
def SP.setRoot (s:SP) (i w:Int):Int × SP:=((s.h.put s.king i w).1,{ s with h:=(s.h.put s.king i w).2 })
theorem vz {h:RH}{cls n fmt:Int} (he:(h.alloc cls n fmt).1.2=23):(h.alloc cls n fmt).2=h:=by
 unfold RH.alloc at *;split
 ·rfl
 split
 ·rfl
 split
 ·rfl
 rename_i h1 h2 h3;rw [Uq h1,Uq h2,Uq h3] at he;split
 ·rename_i h4;rw [Ur h4] at he;simp at he
 ·rename_i h4;rw [Uq h4] at he;simp at he
end Kw
namespace Go.Proofs.YtgjfejoohojokaaGreatDoor
open Kw
section
variable {H:ag}{Q:QT}
theorem tN {a:Option Addr}{l c:Nat}{ws:List Int}{f:Nat}{p:Int->Bool} (hk:Rd 1 H a l (av ws)) (HP:l<=1000000000)
  (hf:∀ x Q',Q' (.bool (p x)) H->ae PP f ((#[]++#[ac x])++#[]) Q' H) (h1:(∃ w∈ws,p w=true)->∀ n:Int,0<=n->Q (ac n) H) (h2:(∀ w∈ws,p w=false)->Q (ac (-1)) H):ae PP 267 #[.slice a l c,.func (.func f) #[] #[]] Q H:=by
 have hl:l=ws.length:=by have:=hk.1;simpa [av] using this.symm
 apply Dz;dsimp only [bJ,ao,bv,aB,bq,ac,bu,cX,ck,bd];refine ⟨fun w H'=>H'=H∧∃ i:Nat,w=[ac i]∧i<=l∧∀ w∈ws.take i,p w=false,fun w _=>match w with
  | [.int _ i]=>(l-i).toNat
  | _=>0,⟨rfl,0,rfl,U7 _,by simp⟩,?_⟩
 rintro w H1 ⟨rfl,i,rfl,hi,al⟩ _;refine ⟨_,rfl,?_⟩;rw [ah];refine aP (fun aa=>?_) fun aa=>?_
 ·obtain ⟨q,rfl,aj,gw⟩:=hk.int (i:=(i:Int)) (by omega) aa;rw [Uy] at aj gw;have hx:ws.getD i 0=ws[i]:=by simp [gw]
  rw [hx] at aj;have ix:ws.take (i+1)=ws.take i++[ws[i]]:=by rw [Vj];simp [gw]
  have e:IntKind.wrap .i64 ((i:Int)+1)=((i+1:Nat):Int):=by rw [az (by omega) (by omega)];omega
  refine ⟨⟨by omega,aa⟩,_,rfl,_,by rw [Uy,UC];exact aj,hf _ _ ⟨_,rfl,?_⟩⟩;cases hp:p ws[i] with
  | true=>exact h1 ⟨_,UQ gw,hp⟩ _ (by omega)
  | false =>
   simp only [Ut];rw [e];refine ⟨⟨trivial,i+1,rfl,by omega,fun w hw=>?_⟩,by simp;omega⟩;rw [ix] at hw;rcases Uz.1 hw with hw | hw
   ·exact al w hw
   ·simp only [Uu] at hw;rw [hw];exact hp
 ·have:i=ws.length:=by omega
  rw [this,Wc] at al;exact h2 al
theorem BF {w:Int} (hk:dT H) (h:Q (.bool (!decide (cP w))) H):ae PP 144 #[ac w] Q H:=by
 apply Ek;dsimp only [bk,aT,ac];refine jF hk ⟨_,rfl,?_⟩
 have:(aA w == 0)=!decide (cP w):=by rw [bI];unfold cP;by_cases h:aA w=0 <;> simp [h]
 rw [this];exact h
theorem qv {a:Option Addr}{l c:Nat}{ws:List Int} (hK:dT H) (hk:Rd 1 H a l (av ws)) (HP:l<=1000000000) (h:Q (.bool (decide (∃ w∈ws,¬ cP w))) H):ae PP 143 #[.slice a l c,.func (.func 144) #[] #[]] Q H:=by
 apply Eh;dsimp only [bk,aT,au];refine tN (p:=fun w=>!decide (cP w)) hk HP (fun x Q' hq=>?_) (fun he n hn=>⟨_,rfl,?_⟩) fun al=>⟨_,rfl,?_⟩
 ·show ae PP 144 #[ac x] Q' H;exact BF hK hq
 ·have:(∃ w∈ws,¬ cP w):=by obtain ⟨w,h1,h2⟩:=he;exact ⟨w,h1,by simpa using h2⟩
  rw [Vs this] at h;rw [Vs (show n ≥ 0 from hn)];exact h
 ·have:¬ (∃ w∈ws,¬ cP w):=fun ⟨w,h1,h2⟩=>by have:=al w h1;simp at this;exact h2 this
  rw [Vz this] at h;exact h
theorem zP {a:Option Addr}{l c:Nat}{ws:List Int} (hk:Rd 1 H a l (av ws)) (HP:l<=1000000000) (h:∀ a' c' F H',cZ 1 H' a' l c' (av ws) F->Fr [] H H'->(∀ x∈F,H.size<=x)->Q (.slice a' l c') H'):ae PP 124 #[.slice a l c] Q H:=by
 have ic:bj PP 30=some (1,8,some (ac 0)):=by kernel_rfl
 apply CP;dsimp only [aK,ao,au,fi,aJ,cC];cases a with
 | none =>
  have h0:=hk.2.1 rfl;subst h0
  have:ws=[]:=UX (by have:=hk.1;simpa [av] using this);subst this;exact h none 0 [] H (cZ.nil 1 H) (Fr.refl _ _) (by simp)
 | some p =>
  simp only [Uw,Ut];have cr:cZ 1 (H.push (.cells #[] 26)) (some ⟨H.size,0,none⟩) 0 0 (av []) [H.size]:=⟨by simp [av],UI _,.inr ⟨H.size,_,rfl,rfl,bH.new _ _ _,by simp,by simp [av]⟩⟩;refine eU ic rfl (by kernel_rfl) cr (hk.fr' (Fr.push [] _ _) (by simp)) il (by omega) (by decide) (by decide) fun a' c' F' H' g1 g2 g3=>⟨_,_,_,rfl,?_⟩;have r9:=Up.fresh (H:=H) (Fr.push [] H _) g2 (by simp)
  have:=h a' c' F' H' (by simpa [av] using g1) r9.1 r9.2;simpa using this
end
def iu (H:ag) (b:Nat) (F:aR) (s:SP):Prop:=∃ hb a l c F1 F2 po b5 b6 b7,F=b :: (F1++F2)∧b∉F1∧b∉F2∧dB F1 F2∧b≠aS∧aS∉F2 ∧
 bH H b #[Kj hb,ac s.king,.slice a l c,.bool s.op,.pointer po,ac b5,ac b6,ac b7]∧dF H hb F1 s.h∧cZ 1 H a l c (av s.stack) F2∧WFS s ∧
 (s.op=true->po=some ⟨hb,0,none⟩∧b5=s.born∧b6=s.turn∧b7=s.mark)
theorem iu.wf {H:ag}{b:Nat}{F:aR}{s:SP} (h:iu H b F s):WFS s:=by
 obtain ⟨_,_,_,_,_,_,_,_,_,_,_,_,_,_,_,_,_,_,_,h,_⟩:=h;exact h
theorem iu.lt {H:ag}{b:Nat}{F:aR}{s:SP} (h:iu H b F s):∀ x∈F,x<H.size:=by
 obtain ⟨hb,a,l,c,F1,F2,po,b5,b6,b7,rfl,h1,h2,h3,k1,k2,hB,hR,hO,_⟩:=h;intro x hx;rcases Us.1 hx with rfl | hx
 ·exact hB.lt
 ·rcases Uz.1 hx with hx | hx
  ·exact hR.lt x hx
  ·exact hO.lt x hx
theorem iu.kinds {H:ag}{b:Nat}{F:aR}{s:SP} (h:iu H b F s):dT H:=by
 obtain ⟨_,_,_,_,_,_,_,_,_,_,_,_,_,_,_,_,_,hR,_⟩:=h;exact hR.kinds
theorem iu.gk {H:ag}{b:Nat}{F:aR}{s:SP} (h:iu H b F s):aS∉F:=by
 obtain ⟨hb,a,l,c,F1,F2,po,b5,b6,b7,rfl,h1,h2,h3,k1,k2,hB,hR,hO,_⟩:=h;simp only [Us,Uz,Vt];exact ⟨fun e=>k1 e.symm,hR.gk,k2⟩
theorem iu.bmem {H:ag}{b:Nat}{F:aR}{s:SP} (h:iu H b F s):b∈F:=by obtain ⟨_,_,_,_,_,_,_,_,_,_,rfl,_⟩:=h;simp
theorem iu.fr {H H':ag}{b:Nat}{F G:aR}{s:SP} (h:iu H b F s) (hf:Fr G H H') (hd:dB F G) (hg:aS∉G):iu H' b F s:=by
 obtain ⟨hb,a,l,c,F1,F2,po,b5,b6,b7,rfl,h1,h2,h3,k1,k2,hB,hR,hO,hw,ho⟩:=h;exact ⟨hb,a,l,c,F1,F2,po,b5,b6,b7,rfl,h1,h2,h3,k1,k2,hB.fr hf (hd b (by simp)),hR.fr hf (hd.mono (fun x hx=>by simp [hx]) fun _ h=>h) hg,hO.fr hf (hd.mono (fun x hx=>by simp [hx]) fun _ h=>h),hw,ho⟩
theorem dT.lt {H:ag} (h:dT H):aS<H.size:=by
 have h0:=h.1;unfold aq at h0;rcases Vp aS H.size with h1 | h1
 ·exact h1
 ·simp only [Ve h1] at h0;cases h0
section
variable {H:ag}{b:Nat}{F F':aR}{s:SP}{Q:QT}
theorem ib (hS:iu H b F s) (h:Q (.bool false) H):ae PP 27 #[Kj b] Q H:=by
 obtain ⟨hb,a,l,c,F1,F2,po,b5,b6,b7,rfl,h1,h2,h3,k1,k2,hB,hR,hO,hw,ho⟩:=hS;have JU:aq H ⟨b,0,none⟩=some (Kj hb):=hB.cell 0;apply GC;dsimp only [bk,ao,aE,aN,fi];simp only [Uw,Ut];exact ⟨_,rfl,_,JU,h⟩
theorem CY {words oops:Int} (hk:dT H) (cp:¬ (0<=words∧words<=1048576∧0<=oops∧oops<=65536)->Q (.tuple #[.pointer none,ac 1]) H)
  (h:(0<=words∧words<=1048576∧0<=oops∧oops<=65536)->∀ b F H',iu H' b F ⟨⟨words,oops,0,0,0,[]⟩,0,[],false,0,0,0⟩->Fr [] H H'->(∀ x∈F,H.size<=x)->Q (.tuple #[Kj b,ac 0]) H'):ae PP 69 #[ac words,ac oops] Q H:=by
 have LB:=hk.lt;apply Fz;dsimp only [aK,bk,ao,jl,ac,au,am,aJ,ax,bU];refine y7 hk (fun hb=>⟨_,_,rfl,cp hb⟩) fun hg hb F H1 hR hf hF=>⟨_,_,rfl,?_⟩;simp only [show ((0:Int) != 0)=false from rfl,Ut];have aa:=hR.lt;have pp:=hf.1;refine h hg H1.size (H1.size :: (F++[])) _ ⟨hb,none,0,0,F,[],none,0,0,0,rfl,fun hx=>?_,by simp,dB.nil_right _,by omega,by simp,bH.new _ _ _,hR.fr (Fr.push [] _ _) (dB.nil_right _) (by simp),cZ.nil 1 _,?_,by simp⟩ hf.more ?_
 ·have:=aa _ hx;omega
 ·exact ⟨hR.wf,by simp,by simp,by simp,by simp⟩
 ·intro x hx;simp only [VJ,Us] at hx;rcases hx with rfl | hx
  ·exact pp
  ·exact hF x hx
theorem iu.upd (hS:iu H b F s):∃ hb F1,dF H hb F1 s.h∧aq H ⟨b,0,none⟩=some (Kj hb)∧aq H ⟨b,3,none⟩=some (.bool s.op)∧aq H ⟨b,1,none⟩=some (ac s.king)∧(∀ x∈F1,x∈F)∧b∉F1 ∧
  ∀ H' r',dF H' hb F1 r'->Fr F1 H H'->iu H' b F { s with h:=r' }:=by
 obtain ⟨hb,a,l,c,F1,F2,po,b5,b6,b7,rfl,h1,h2,h3,k1,k2,hB,hR,hO,hw,ho⟩:=hS;refine ⟨hb,F1,hR,hB.cell 0,hB.cell 3,hB.cell 1,fun x hx=>by simp [hx],h1,fun H' r' LU hf=>?_⟩;exact ⟨hb,a,l,c,F1,F2,po,b5,b6,b7,rfl,h1,h2,h3,k1,k2,hB.fr hf h1,LU,hO.fr hf h3.symm,{ hw with h:=LU.wf },ho⟩
theorem eV (hS:iu H b F s) (h:∀ hb F1,dF H hb F1 s.h->(∀ x∈F1,x∈F)->(∀ H' r',dF H' hb F1 r'->Fr F1 H H'->iu H' b F { s with h:=r' })->Q (Kj hb) H):ae PP 44 #[Kj b] Q H:=by
 obtain ⟨hb,F1,hR,c0,c3,c1,ap,LV,cx⟩:=hS.upd;apply Al;dsimp only [bJ,ao,aE,aN,am];refine ib hS ⟨_,rfl,?_⟩;simp only [Ut];exact ⟨_,rfl,_,c0,h hb F1 hR ap cx⟩
theorem xY (hS:iu H b F s){k:Int} (h:∀ H',iu H' b F (s.crown k).2->Fr F H H'->Q (ac (s.crown k).1) H'):ae PP 76 #[Kj b,ac k] Q H:=by
 have Jc:=hS;apply G6;dsimp only [bJ,ao,ak,aE,ac,aN,am,bP];refine ib hS ⟨_,rfl,?_⟩;simp only [Ut];obtain ⟨hb,a,l,c,F1,F2,po,b5,b6,b7,rfl,h1,h2,h3,k1,k2,hB,hR,hO,hw,ho⟩:=hS;have JU:aq H ⟨b,0,none⟩=some (Kj hb):=hB.cell 0;refine ⟨_,rfl,_,JU,lN hR ⟨_,_,rfl,?_⟩⟩;unfold SP.crown at h;rw [bK,ah];refine aP (fun he=>?_) fun he=>?_
 ·rw [Ur he] at h;exact h H Jc (Fr.refl _ _)
 ·rw [Uq he] at h;refine ⟨_,rfl,hB.wr (by simp),h _ ⟨hb,a,l,c,F1,F2,po,b5,b6,b7,rfl,h1,h2,h3,k1,k2,hB.set 1 (ac k),hR.fr (Fr.set (F:=[b]) (by simp)) (fun x hx hn=>h1 (by simp only [Uu] at hn;rw [←hn];exact hx)) (by simpa using V5 k1),hO.fr (Fr.set (F:=[b]) (by simp)) (fun x hx hn=>h2 (by simp only [Uu] at hn;rw [←hn];exact hx)),?_,ho⟩ (Fr.set (by simp))⟩
  have:∃ o,aG s.h.objs k=some o:=by
   unfold RH.clsAt at he;cases ho:aG s.h.objs k with
   | none=>rw [ho] at he;simp at he
   | some o=>exact ⟨o,rfl⟩
  obtain ⟨o,Jt⟩:=this;have hg:=hw.h.objs.good o (aD Jt).1;have g1:=hg.oop1;have g2:=hg.oop2;have g3:=hw.h.o1;rw [(aD Jt).2] at g1 g2;exact { hw with king0:=by simp;omega,king1:=by simp;omega }
theorem vg (hS:iu H b F s){i w:Int} (hf:∀ o,aG s.h.objs s.king=some o->o.fmt=0) (h:∀ H',iu H' b F (s.setRoot i w).2->Fr F H H'->Q (ac (s.setRoot i w).1) H'):ae PP 162 #[Kj b,ac i,ac w] Q H:=by
 obtain ⟨hb,F1,hR,c0,c3,c1,ap,LV,cx⟩:=hS.upd;apply B3;dsimp only [bJ,aT,ao,aB,aE,ac,aN,am];refine ib hS ⟨_,rfl,?_⟩;simp only [Ut];refine ⟨_,rfl,_,c0,_,rfl,_,by rw [aC];exact c1,?_⟩;refine ql hR hf fun H' LU ca=>⟨_,rfl,trivial,?_⟩;exact h H' (cx H' _ LU ca) (ca.mono ap)
theorem ye (hS:iu H b F s) (h:∀ a l c H' ws,Rd 1 H' a l (av ws)->l<=65537->s.h.reach ws=s.reach->Fr [] H H'->Q (.slice a l c) H'):ae PP 29 #[Kj b] Q H:=by
 obtain ⟨hb,a,l,c,F1,F2,po,b5,b6,b7,rfl,h1,h2,h3,k1,k2,hB,hR,hO,hw,ho⟩:=hS;have na:aq H ⟨b,1,none⟩=some (ac s.king):=hB.cell 1;have nq:aq H ⟨b,2,none⟩=some (.slice a l c):=hB.cell 2;have hk0:=hw.king0;have AT:=hw.king1;have hm:=hw.many;have hl:l=s.stack.length:=by have:=hO.len;simpa [av] using this.symm
 have ic:bj PP 30=some (1,8,some (ac 0)):=by kernel_rfl
 apply FV;dsimp only [aK,ao,ak,aB,aH,ac,au,aN,aJ,cC,ax];refine ⟨_,rfl,_,by rw [aC];exact na,?_⟩;by_cases hz:s.king=0
 ·refine Fa (by omega) ⟨_,_,rfl,?_⟩;simp only [show ((1:Int) != 0)=true from rfl,UK];refine ⟨_,rfl,_,_,_,by rw [aC];exact nq,h _ _ _ H _ hO.rd (by omega) ?_ (Fr.refl _ _)⟩;unfold SP.reach SP.roots RH.reach;rw [hz]
  congr 1
  funext k
  have G8:bm s.h (4*0)=0:=by
   unfold bm;rw [Uq];rintro ⟨h1,_⟩;exact absurd h1 (by decide)
  have:Reaches s.h s.stack k↔Reaches s.h (4*0 :: s.stack) k:=by
   constructor
   ·intro hr
    induction hr with
    | root lr b9=>exact .root (by simp [lr]) b9
    | cls _ h2 h3 ih=>exact .cls ih h2 h3
    | slot _ h2 h3 h4 h5 ih=>exact .slot ih h2 h3 h4 h5
   ·intro hr
    induction hr with
    | @root w lr b9 =>
     rcases Us.1 lr with rfl | lr
     ·exact absurd G8 b9
     ·exact .root lr b9
    | cls _ h2 h3 ih=>exact .cls ih h2 h3
    | slot _ h2 h3 h4 h5 ih=>exact .slot ih h2 h3 h4 h5
  rw [V7,decide_eq_true_iff,decide_eq_true_iff];exact this
 ·refine oo (by omega) ⟨_,_,rfl,?_⟩;simp only [show ((0:Int) != 0)=false from rfl,Ut];refine ⟨_,rfl,_,_,_,by rw [aC];exact (iO hB.lt).trans nq,?_⟩;have cr:cZ 1 (H.push (.cells #[ac (4*s.king)] 26)) (some ⟨H.size,0,none⟩) 1 1 (av [4*s.king]) [H.size]:=⟨by simp [av],UI _,.inr ⟨H.size,_,rfl,rfl,bH.new _ _ _,by simp,by simp [av]⟩⟩;refine eU ic rfl (by kernel_rfl) cr (hO.fr (Fr.push [] _ _) (by simp)).rd il (by omega) (by decide) (by decide) fun a' c' F' H' g1 g2 g3=>⟨_,_,_,rfl,?_⟩;have r9:=Up.fresh (H:=H) (Fr.push [] H _) g2 (by simp);refine h _ _ _ H' s.roots ?_ (by omega) rfl r9.1;have e2:av s.roots=av [4*s.king]++av s.stack:=by simp [av,SP.roots]
  rw [e2];exact g1.rd
end
section
variable {H:ag}{b:Nat}{F F':aR}{s:SP}{Q:QT}
theorem HY {hb:Nat}{F1:aR}{r:RH} (hR:dF H hb F1 r){a2:Option Addr}{l2 c2:Nat}{ws:List Int} (hk:Rd 1 H a2 l2 (av ws)) (HP:l2<=1000000)
  (h:∀ H',dF H' hb F1 (r.keep (r.reach ws)).2->Fr F1 H H'->Q (rI (r.keep (r.reach ws)).1) H'):ae PP 28 #[Kj hb,.slice a2 l2 c2] Q H:=by
 apply Fi;dsimp only [ao,cB,oC,ac,au,am,bU];refine DI hR hk HP fun a l c G H1 ho hf hG=>⟨_,_,_,_,rfl,?_⟩;simp only [show ((0:Int) != 0)=false from rfl,Ut];have ow:=hR.fr hf (dB.nil_right _) (by simp);have aa:=hR.lt;have M2:l<=1099511627776:=by
  have h1:=ho.len;have h2:(r.reach ws).length<=r.all.length:=VW _ _;have h3:=r.upto_len (r.oops+1).toNat;have h4:=hR.wf.o1;have h5:r.all.length<=(r.oops+1).toNat:=h3;simp only [av,UZ] at h1;omega
 refine Ba (yF hb r) ow ho.rd (fun p hp JA=>?_) M2 fun H2 Lk bw=>⟨_,_,_,rfl,h H2 Lk ((hf.of_nil).trans bw)⟩;have SU:p.block∈G:=by
  rcases ho.2.2 with ⟨h1,_⟩ | ⟨b',_,h1,rfl,_⟩
  ·rw [h1] at hp;cases hp
  ·rw [h1] at hp;cases hp;simp
 have h1:=hG _ SU;have h2:=aa _ JA;omega
theorem iu.nilfr {H':ag} (hS:iu H b F s) (hf:Fr [] H H'):iu H' b F s:=hS.fr hf (dB.nil_right _) (by simp)
theorem oe (hS:iu H b F s) (h:∀ H',iu H' b F s.collect.2->Fr F H H'->aq H' ⟨b,0,none⟩=aq H ⟨b,0,none⟩->Q (rI s.collect.1) H'):ae PP 10 #[Kj b] Q H:=by
 obtain ⟨hb,F1,hR,c0,c3,c1,ap,LV,cx⟩:=hS.upd;apply FP;dsimp only [bJ,dU,ao,cB,Hj,aE,ac,au,aN,am,bU];unfold SP.collect at h;refine ib hS ⟨_,rfl,?_⟩;simp only [Ut];refine ⟨_,rfl,_,by rw [aC];exact c3,?_⟩;cases sa:s.op with
 | true =>
  rw [sa] at h;simp only [UK];exact h H hS (Fr.refl _ _) rfl
 | false =>
  rw [Uq (by rw [sa];simp)] at h;simp only [Ut];refine ⟨_,rfl,_,c0,ye hS fun a l c H1 ws hk hl he hf=>?_⟩;have Jv:=hS.nilfr hf;obtain ⟨b8,F1',ow,c01,c31,c11,I2,Qf,Qg⟩:=Jv.upd;have aa:=hS.lt;have w9:b<H.size:=aa b hS.bmem;have ui:aq H1 ⟨b,0,none⟩=aq H ⟨b,0,none⟩:=by unfold aq;rw [hf.2 b w9 (by simp)]
  have Qh:b8=hb:=by rw [ui,c0] at c01;simpa using c01.symm
  subst Qh;refine ⟨_,_,_,rfl,⟨⟨by rw [ui];exact c0,trivial⟩,trivial⟩,?_⟩;refine HY ow hk (by omega) fun H2 Lk bw=>⟨_,_,_,rfl,trivial,?_⟩;rw [he] at Lk ⊢;refine h H2 (Qg H2 _ Lk bw) ((hf.of_nil).trans (bw.mono I2)) ?_;rw [←ui];unfold aq;rw [bw.2 b (UJ w9 hf.1) Qf]
theorem je (hS:iu H b F s){cls n f:Int} (h:∀ H',iu H' b F (s.alloc cls n f).2->Fr F H H'->Q (.tuple #[ac (if (s.alloc cls n f).1.2=0 then (s.alloc cls n f).1.1 else 0),ac (s.alloc cls n f).1.2]) H') :
  ae PP 279 #[Kj b,ac cls,ac n,ac f] Q H:=by
 have Jc:iu (H.push (.cells #[Kj b] 34)) b F s:=hS.nilfr (Fr.push [] _ _);have If:bH (H.push (.cells #[Kj b] 34)) H.size #[Kj b]:=bH.new _ _ _;have aa:=hS.lt;have RG:H.size∉F:=fun hx=>by have:=aa _ hx;omega
 apply Cn;dsimp only [aK,aF,bJ,ao,ak,aE,ac,aN,am,aJ,ax];refine ⟨_,If.cell 0,ib Jc ⟨_,rfl,?_⟩⟩;simp only [Ut];have hE:Fr F H (H.push (.cells #[Kj b] 34)):=Fr.push _ _ _;generalize (H.push (.cells #[Kj b] 34))=H0 at Jc If hE ⊢;obtain ⟨hb,F1,hR,c0,c3,c1,ap,LV,cx⟩:=Jc.upd;refine ⟨_,If.cell 0,_,rfl,_,c0,?_⟩;have fin:∀ (p:Int × Int) (s':SP) (H2:ag),iu H2 b F s'->Fr F H H2->s.alloc cls n f=((4*p.1,p.2),s')->(p.2=0->1<=p.1∧p.1<=65536) ->
   ∃ n12 n13:Int,D5 p=.tuple #[ac n12,ac n13]∧cond (n13 != 0) (Q (.tuple #[ac 0,ac n13]) H2) (ae PP 84 #[ac n12] (fun v14 H3=>∃ n15:Int,∃ n16:Int,v14=.tuple #[ac n15,ac n16]∧Q (.tuple #[ac n15,ac n16]) H3) H2):=by
  intro p s' H2 I3 bw he hb;rw [he] at h;refine ⟨_,_,rfl,?_⟩;rw [bK,ah];refine aP (fun b9=>?_) fun b9=>?_
  ·have:=h H2 I3 bw;simp only [b9,if_false] at this;exact this
  ·have hz:p.2=0:=Uv b9;have NP:=hb hz;refine oo NP ⟨_,_,rfl,?_⟩
   have:=h H2 I3 bw;simp only [hz,if_true] at this;exact this
 have bnd:∀ (r:RH),WFH r->(r.alloc cls n f).1.2=0->1<=(r.alloc cls n f).1.1∧(r.alloc cls n f).1.1<=65536:=by
  intro r hw hz;have CO:=hw.o1;unfold RH.alloc at hz ⊢;split at hz
  ·simp at hz
  rename_i g1;split at hz
  ·simp at hz
  rename_i g2;split at hz
  ·simp at hz
  rename_i g3;split at hz
  ·simp at hz
  rename_i g4;rw [Uq g1,Uq g2,Uq g3,Uq g4]
  have:=fQ hw.objs hw.o1 (by omega);exact ⟨this.1,by have:=this.2.1;simp only;omega⟩
 apply DU;dsimp only [aF,bJ,ao,ak,ac];show ae PP 72 #[Kj hb,ac cls,ac n,ac f] _ H0;refine sD hR fun H1 ow be=>⟨_,_,rfl,?_⟩;have Jv:=cx H1 _ ow be;have Mv:Fr F H H1:=hE.trans (be.mono ap);have l8:=If.fr (be.mono ap) RG;have eh:=hS.wf.h;rw [bI,ah];refine aP (fun he=>?_) fun he=>?_
 ·have LW:=vz he;have Qi:iu H1 b F s:=by
   have e:({ s with h:=(s.h.alloc cls n f).2 }:SP)=s:=by rw [LW]
   rw [e] at Jv;exact Jv
  show ae PP 339 #[.pointer (some ⟨H.size,0,none⟩)] _ H1;apply Bx;dsimp only [bk,cB,aE,am];refine ⟨_,l8.cell 0,oe Qi fun H2 I3 bw SV=>⟨_,_,_,rfl,_,rfl,?_⟩⟩;have l7:=l8.fr bw RG;cases sa:s.op with
  | true =>
   have ec:s.collect=((0,0,25),s):=by unfold SP.collect;rw [sa];rfl
   rw [ec] at I3 ⊢;simp only [show ((25:Int) == 0)=false from rfl,Ut];have ea:s.alloc cls n f=((4*(s.h.alloc cls n f).1.1,(s.h.alloc cls n f).1.2),s):=by
    unfold SP.alloc;rw [Ur (.inr sa),LW]
   exact fin (s.h.alloc cls n f).1 s H2 I3 (Mv.trans bw) ea (bnd _ eh)
  | false =>
   have ec:s.collect=((s.h.keep s.reach).1,{ s with h:=(s.h.keep s.reach).2 }):=by unfold SP.collect;rw [sa];rfl
   have ek:(s.h.keep s.reach).1.2.2=0:=by
    unfold RH.keep;rw [Uq];rintro ⟨k,hk,hn⟩;exact ((RH.mem_reach eh).1 hk).there hn
   rw [ec] at I3 ⊢;simp only [ek,show ((0:Int) == 0)=true from rfl,UK];obtain ⟨b8,F1',SW,c03,_,_,K3,_,Mw⟩:=I3.upd;have Qh:b8=hb:=by
    have h1:aq H2 ⟨b,0,none⟩=some (Kj hb):=by
     rw [SV,←c0];unfold aq;rw [be.2 b (by have:=Jc.lt b Jc.bmem;exact this) LV]
    rw [c03] at h1;simpa using h1
   subst Qh;show ae PP 72 #[Kj b8,ac cls,ac n,ac f] _ H2;refine sD SW fun H4 P0 lq=>⟨_,_,rfl,?_⟩;have LX:=Mw H4 _ P0 lq;have ea:s.alloc cls n f=((4*((s.h.keep s.reach).2.alloc cls n f).1.1,((s.h.keep s.reach).2.alloc cls n f).1.2),{ s with h:=((s.h.keep s.reach).2.alloc cls n f).2 }):=by
    unfold SP.alloc;rw [Uq (by simp [he,sa])]
   exact fin ((s.h.keep s.reach).2.alloc cls n f).1 _ H4 LX ((Mv.trans bw).trans (lq.mono K3)) ea (bnd _ (fY eh _))
 ·have ea:s.alloc cls n f=((4*(s.h.alloc cls n f).1.1,(s.h.alloc cls n f).1.2),{ s with h:=(s.h.alloc cls n f).2 }):=by
   unfold SP.alloc;rw [Ur (.inl he)]
  exact fin (s.h.alloc cls n f).1 _ H1 Jv Mv ea (bnd _ eh)
theorem qa (hS:iu H b F s){a2:Option Addr}{l2 c2:Nat}{ws:List Int} (hk:Rd 1 H a2 l2 (av ws)) (HP:l2<=1000000000) (h:∀ H' F',iu H' b F' (s.keepW ws).2->Up F H F' H'->Q (ac (s.keepW ws).1) H'):ae PP 74 #[Kj b,.slice a2 l2 c2] Q H:=by
 have Jc:=hS;have JJ:=hS.lt;have RI:=hS.kinds;have LB:=RI.lt;apply Gg;dsimp only [bJ,ao,cS,aH,ac,au,aN,am,cC,bP,bd];unfold SP.keepW at h;refine ib hS ⟨_,rfl,?_⟩;simp only [Ut];refine qv RI hk HP ⟨_,rfl,?_⟩;rw [ah];refine aP (fun cp=>?_) fun cp=>?_
 ·rw [Ur cp] at h;exact h H F Jc (Up.refl _ _)
 rw [Uq cp] at h;obtain ⟨hb,a,l,c,F1,F2,po,b5,b6,b7,rfl,h1,h2,h3,k1,k2,hB,hR,hO,hw,ho⟩:=hS;have nq:aq H ⟨b,2,none⟩=some (.slice a l c):=hB.cell 2;have hl:l=s.stack.length:=by have:=hO.len;simpa [av] using this.symm
 have JC:l2=ws.length:=by have:=hk.1;simpa [av] using this.symm
 have hm:=hw.many;have ic:bj PP 30=some (1,8,some (ac 0)):=by kernel_rfl
 refine ⟨_,rfl,_,_,_,by rw [aC];exact nq,?_⟩;rw [az (by omega) (by omega),ah];refine aP (fun Mx=>?_) fun Mx=>?_
 ·rw [Ur (by omega)] at h;exact h H _ Jc (Up.refl _ _)
 rw [Uq (by omega)] at h;refine ⟨_,rfl,_,_,_,by rw [aC];exact nq,?_⟩;refine eU ic rfl (by kernel_rfl) hO hk il (by omega) (by decide) (by decide) fun a' c' F3 H1 g1 g2 g3=>⟨_,_,_,rfl,_,rfl,?_⟩;have Jl:b∉F3:=fun hx=>by
  rcases g2.2 b hx with h4 | h4
  ·exact h2 h4
  ·have:=JJ b (by simp);omega
 have Qj:aS∉F3:=fun hx=>by
  rcases g2.2 _ hx with h4 | h4
  ·exact k2 h4
  ·omega
 have l8:=hB.fr g2.1 h2;have nf:Fr [b] H1 (bc H1 ⟨b,2,none⟩ (.slice a' (l+l2) c')):=Fr.set (by simp);rw [aC];refine ⟨l8.wr (by simp),h _ (b :: (F1++F3)) ⟨hb,a',l+l2,c',F1,F3,po,b5,b6,b7,rfl,h1,Jl,fun x hx My=>?_,k1,Qj,l8.set 2 (.slice a' (l+l2) c'),?_,?_,?_,ho⟩ ⟨?_,fun x hx=>?_⟩⟩
 ·rcases g2.2 x My with h4 | h4
  ·exact h3 x hx h4
  ·have:=JJ x (by simp [hx]);omega
 ·exact (hR.fr g2.1 h3 k2).fr nf (fun x hx hn=>h1 (by simp only [Uu] at hn;rw [←hn];exact hx)) (by simpa using V5 k1)
 ·simp only;rw [cT];exact g1.fr nf (fun x hx hn=>Jl (by simp only [Uu] at hn;rw [←hn];exact hx))
 ·refine { hw with many:=?_,words:=fun w lr=>?_ }
  ·simp only [UP];omega
  ·rcases Uz.1 lr with h4 | h4
   ·exact hw.words w h4
   ·exact Uv fun hn=>cp ⟨w,h4,hn⟩
 ·exact (g2.1.mono (F':=b :: (F1++F2)) fun x hx=>by simp [hx]).trans (nf.mono fun x hx=>by simp only [Uu] at hx;simp [hx])
 ·rcases Us.1 hx with rfl | hx
  ·exact .inl (by simp)
  ·rcases Uz.1 hx with hx | hx
   ·exact .inl (by simp [hx])
   ·exact (g2.2 x hx).imp (fun h4=>by simp [h4]) id
theorem vh (hS:iu H b F s) (h:∀ a c H',Rd 1 H' a s.stack.length (av s.stack)->Fr [] H H'->Q (.slice a s.stack.length c) H'):ae PP 63 #[Kj b] Q H:=by
 apply Fx;dsimp only [bJ,dU,ao,aH,au,aN,am];refine ib hS ⟨_,rfl,?_⟩;simp only [Ut];obtain ⟨hb,a,l,c,F1,F2,po,b5,b6,b7,rfl,h1,h2,h3,k1,k2,hB,hR,hO,hw,ho⟩:=hS;have nq:aq H ⟨b,2,none⟩=some (.slice a l c):=hB.cell 2;have hl:l=s.stack.length:=by have:=hO.len;simpa [av] using this.symm
 have hm:=hw.many;refine ⟨_,rfl,_,_,_,by rw [aC];exact nq,?_⟩;refine zP hO.rd (by omega) fun a' c' G H1 CO be hG=>⟨_,_,_,rfl,?_⟩;apply BA;dsimp only [au,ax];have JK:=CO.2.1;refine ⟨⟨⟨by omega,by omega⟩,by omega,by omega⟩,_,_,_,rfl,?_⟩;rw [Uy,hl];rw [hl] at CO;exact h _ _ H1 CO.rd be
theorem o5 (hS:iu H b F s){n:Int} (hn:Hv n) (h:∀ H',iu H' b F (s.drop n).2->Fr F H H'->Q (ac (s.drop n).1) H'):ae PP 8 #[Kj b,ac n] Q H:=by
 have Jc:=hS;apply HK;dsimp only [bJ,ao,cS,bv,aH,ac,au,aN,am,ax,bP,bd];unfold SP.drop at h;refine ib hS ⟨_,rfl,?_⟩;simp only [Ut,ah];refine aP (fun NQ=>?_) fun NQ=>?_
 ·rw [Ur (.inl NQ)] at h;exact h H Jc (Fr.refl _ _)
 obtain ⟨hb,a,l,c,F1,F2,po,b5,b6,b7,rfl,h1,h2,h3,k1,k2,hB,hR,hO,hw,ho⟩:=hS;have nq:aq H ⟨b,2,none⟩=some (.slice a l c):=hB.cell 2;have hl:l=s.stack.length:=by have:=hO.len;simpa [av] using this.symm
 have hm:=hw.many;refine ⟨_,rfl,_,_,_,by rw [aC];exact nq,aP (fun Mx=>?_) fun Mx=>?_⟩
 ·rw [Ur (.inr (by omega))] at h;exact h H Jc (Fr.refl _ _)
 rw [Uq (by omega)] at h;have e:IntKind.wrap .i64 ((l:Int)-n)=(l:Int)-n:=az (by omega) (by omega);have JK:=hO.2.1;refine ⟨_,rfl,_,_,_,by rw [aC];exact nq,_,rfl,_,_,_,by rw [aC];exact nq,?_⟩;rw [e];have nf:Fr [b] H (bc H ⟨b,2,none⟩ (.slice a ((l:Int)-n).toNat c)):=Fr.set (by simp);refine ⟨⟨by omega,by omega⟩,_,rfl,by rw [aC];exact hB.wr (by simp),trivial,?_⟩;rw [aC];refine h _ ⟨hb,a,((l:Int)-n).toNat,c,F1,F2,po,b5,b6,b7,rfl,h1,h2,h3,k1,k2,hB.set 2 _,?_,?_,?_,ho⟩ (nf.mono fun x hx=>by simp only [Uu] at hx;simp [hx])
 ·exact hR.fr nf (fun x hx hn=>h1 (by simp only [Uu] at hn;rw [←hn];exact hx)) (by simpa using V5 k1)
 ·have h4:=hO.fr nf (fun x hx hn=>h2 (by simp only [Uu] at hn;rw [←hn];exact hx));have h5:s.stack.length-n.toNat=((l:Int)-n).toNat:=by omega
  simp only;rw [h5];refine ⟨by simp [av];omega,by omega,?_⟩;rcases h4.2.2 with ⟨h6,h7,h8⟩ | ⟨b',cs,h6,h7,h8,h9,dc⟩
  ·exact .inl ⟨h6,h7,h8⟩
  ·refine .inr ⟨b',cs,h6,h7,h8,h9,?_⟩;have nb:(cs.toList.take (l*1)).take (((l:Int)-n).toNat*1)=(av s.stack).take (((l:Int)-n).toNat*1):=by rw [dc]
   rw [WJ] at nb;have k9:min (((l:Int)-n).toNat*1) (l*1)=((l:Int)-n).toNat*1:=by omega
   rw [k9] at nb;rw [nb];simp [av,List.map_take]
 ·refine { hw with many:=?_,words:=fun w lr=>hw.words w (V0 lr) };simp only [U4];omega
end
section
variable {H:ag}{Q:QT}
end
theorem jy {r:RH} (ws:List Int):(r.reach ws).Pairwise (· < ·):=(RH.all_sorted r).filter _
def yj (r:RH) (k:Int):Int:=match aG r.objs k with
 | some o=>o.len
 | none=>2
theorem Ah {l m:List Int} (h:l.Perm m):l.sum=m.sum:=by
 induction h with
 | nil=>rfl
 | cons x _ ih=>simp [ih]
 | swap x y l=>simp;omega
 | trans _ _ ih1 ih2=>exact ih1.trans ih2
theorem rk {r:RH} (hw:WFH r) (ws:List Int):((r.objs.filter fun o=>decide (o.oop∈r.reach ws)).map RO.len).sum=((r.reach ws).map (yj r)).sum:=by
 have h1:((r.objs.filter fun o=>decide (o.oop∈r.reach ws)).map (·.oop)).Perm (r.reach ws):=by
  rw [VX]
  ·intro k;simp only [UM,U6,decide_eq_true_eq];constructor
   ·rintro ⟨o,⟨_,h2⟩,rfl⟩;exact h2
   ·intro hk
    have:=((RH.mem_reach hw).1 hk).there;cases ho:aG r.objs k with
    | none=>exact absurd ho this
    | some o=>exact ⟨o,⟨(aD ho).1,by rw [(aD ho).2];exact hk⟩,(aD ho).2⟩
  ·rw [Vv,VE];exact (hw.objs.pw.filter _).imp fun h=>h.1
  ·exact (jy ws).imp fun h e=>by omega
 rw [←Ah (Wv (yj r) h1),V4]
 congr 1
 apply Wh;intro o ho
 have:=cY hw.objs (U6.1 ho).1;simp [yj,this]
section
variable {H:ag}{b:Nat}{F F':aR}{s:SP}{Q:QT}
end
end Go.Proofs.YtgjfejoohojokaaGreatDoor
namespace Kw
open Go
def bY (l:List ByteArray):List Value:=l.map .string
theorem yt {l:List ByteArray}:∀ v∈bY l,ge v=true:=by
 intro v hv;simp only [bY,UM] at hv;obtain ⟨i,_,rfl⟩:=hv;rfl
theorem ii (l m:List ByteArray):bY (l++m)=bY l++bY m:=by simp [bY]
theorem Rd.str {H:ag}{a:Option Addr}{l:Nat}{ys:List ByteArray} (h:Rd 1 H a l (bY ys)){i:Int} (h0:0<=i) (h1:i<l):∃ p,∃ aa:i.toNat<ys.length,a=some p∧aq H (p.add i.toNat)=some (.string ys[i.toNat]):=by
 have hl:=h.1;simp only [bY,UZ] at hl;cases a with
 | none=>have:=h.2.1 rfl;omega
 | some p =>
  have hi:i.toNat<ys.length:=by omega
  refine ⟨p,hi,rfl,?_⟩;rw [h.2.2 p rfl i.toNat (by omega)];simp [bY,hi]
structure TB where
 most:Int
 texts:List ByteArray
def cN (s:ByteArray):Prop:=1<=s.size∧s.size<=96
instance (s:ByteArray):Decidable (cN s):=inferInstanceAs (Decidable (_∧_))
structure WFT (t:TB):Prop where
 m0:0<=t.most
 m1:t.most<=4096
 len:(t.texts.length:Int)<=t.most
 nodup:t.texts.Nodup
 good:∀ s∈t.texts,cN s
def dj:List ByteArray->ByteArray->Option Nat
 | [],_=>none
 | x :: l,s=>if x=s then some 0 else (dj l s).map (·+1)
theorem li {l:List ByteArray}{s:ByteArray}:dj l s=none↔s∉l:=by
 induction l with
 | nil=>simp [dj]
 | cons x l ih =>
  unfold dj;by_cases h:x=s
  ·simp [h]
  ·rw [Uq h];simp only [Option.map_eq_none_iff,ih,Us,Vt];exact ⟨fun h1=>⟨fun e=>h e.symm,h1⟩,fun h1=>h1.2⟩
theorem sx {l:List ByteArray}{s x:ByteArray}:dj (l++[s]) x=match dj l x with
  | some n=>some n
  | none=>if s=x then some l.length else none:=by
 induction l with
 | nil=>simp [dj]
 | cons y l ih =>
  simp only [We,dj];by_cases h:y=x
  ·simp [h]
  ·rw [Uq h,Uq h,ih];cases dj l x with
   | some n=>rfl
   | none =>
    simp only [WC];by_cases h2:s=x <;> simp [h2]
def TB.add (t:TB) (s:ByteArray):(Int × Int) × TB :=
 if ¬ cN s then ((0,61),t) else match dj t.texts s with
 | some n=>(((n:Int),0),t)
 | none=>if t.most<=(t.texts.length:Int) then ((0,60),t) else (((t.texts.length:Int),0),{ t with texts:=t.texts++[s] })
theorem fO {t:TB} (h:WFT t) (s:ByteArray):WFT (t.add s).2:=by
 unfold TB.add;split
 ·exact h
 ·rename_i hg;have hg:cN s:=Uv hg;cases hn:dj t.texts s with
  | some n=>exact h
  | none =>
   simp only;split
   ·exact h
   ·refine { h with len:=by simp;omega,nodup:=?_,good:=fun x hx=>?_ }
    ·rw [VI];exact ⟨h.nodup,by simp,fun a ha b hb e=>li.1 hn (by simp only [Uu] at hb;rw [←hb,←e];exact ha)⟩
    ·rcases Uz.1 hx with hx | hx
     ·exact h.good x hx
     ·simp only [Uu] at hx;rw [hx];exact hg
def gd (r:RH) (o:Int) (ws:List Int):Prop:=∃ x,aG r.objs o=some x∧x.fmt=0∧x.slots=ws
theorem gd.uniq {r:RH}{o:Int}{ws ws':List Int} (h:gd r o ws) (h':gd r o ws'):ws=ws':=by
 obtain ⟨x,h1,_,h3⟩:=h;obtain ⟨y,h4,_,h6⟩:=h';rw [h1] at h4;cases h4;rw [←h3,←h6]
theorem gd.size {r:RH}{o:Int}{ws:List Int} (h:gd r o ws):r.size o=((ws.length:Int),0,0):=by
 obtain ⟨x,h1,h2,h3⟩:=h;simp [RH.size,h1,h2,h3]
theorem gd.at {r:RH}{o:Int}{ws:List Int} (h:gd r o ws){i:Int} (h0:0<=i) (h1:i<ws.length):r.at o i=(ws[i.toNat]'(by omega),0):=by
 obtain ⟨x,h2,_,h3⟩:=h;subst h3;simp only [RH.at,h2];rw [Uq (by omega)]
 have:i.toNat<x.slots.length:=by omega
 simp [this]
theorem gd.bnd {r:RH} (hw:WFH r){o:Int}{ws:List Int} (h:gd r o ws):1<=o∧o<=65536∧ws.length<=8192∧∀ w∈ws,cP w:=by
 obtain ⟨x,h1,h2,h3⟩:=h;have hg:=hw.objs.good x (aD h1).1;have ho:=(aD h1).2;have h4:=hg.oop1;have h5:=hg.oop2;have h6:=hw.o1;subst h3;refine ⟨by omega,by omega,hg.many,fun w lr=>?_⟩
 have:=hg.may w lr;unfold dY at this;rw [Uq (by omega)] at this;exact this
theorem gd.there {r:RH}{o:Int}{ws:List Int} (h:gd r o ws):aG r.objs o≠none:=by
 obtain ⟨x,h1,_⟩:=h;rw [h1];simp
theorem rX {r:RH}{o:Int} (h0:1<=o) (h1:o<=65536) (h:aG r.objs o≠none):bm r (4*o)=o:=by
 unfold bm;have hk:aA (4*o)=3:=by
  have:=bl (4*o);omega
 have e:4*o / 4=o:=by omega
 have hs:(aG r.objs o).isSome:=by cases ho:aG r.objs o with
  | none=>exact absurd ho h
  | some _=>rfl
 rw [e,Ur ⟨hk,hs⟩]
def bT (r r':RH) (P:Int->Prop):Prop:=∀ k,P k->∀ x,aG r.objs k=some x->∃ y,aG r'.objs k=some y∧y.cls=x.cls∧y.fmt=x.fmt∧y.slots=x.slots
theorem bT.refl (r:RH) (P:Int->Prop):bT r r P:=fun k _ x hx=>⟨x,hx,rfl,rfl,rfl⟩
theorem bT.trans {r r' r'':RH}{P:Int->Prop} (h:bT r r' P) (h':bT r' r'' P):bT r r'' P:=fun k hk x hx=>by
 obtain ⟨y,h1,h2,h3,h4⟩:=h k hk x hx;obtain ⟨z,g1,g2,g3,g4⟩:=h' k hk y h1;exact ⟨z,g1,g2.trans h2,g3.trans h3,g4.trans h4⟩
theorem bT.mono {r r':RH}{P P':Int->Prop} (h:bT r r' P) (hp:∀ k,P' k->P k):bT r r' P':=fun k hk=>h k (hp k hk)
theorem gd.keep {r r':RH}{P:Int->Prop}{o:Int}{ws:List Int} (h:gd r o ws) (hk:bT r r' P) (hp:P o):gd r' o ws:=by
 obtain ⟨x,h1,h2,h3⟩:=h;obtain ⟨y,g1,_,g3,g4⟩:=hk o hp x h1;exact ⟨y,g1,g3.trans h2,g4.trans h3⟩
theorem kB {r:RH} (hw:WFH r) (cls n f:Int):bT r (r.alloc cls n f).2 fun _=>True:=by
 intro k _ x hx;unfold RH.alloc;split
 ·exact ⟨x,hx,rfl,rfl,rfl⟩
 split
 ·exact ⟨x,hx,rfl,rfl,rfl⟩
 split
 ·exact ⟨x,hx,rfl,rfl,rfl⟩
 split
 ·exact ⟨x,hx,rfl,rfl,rfl⟩
 ·refine ⟨x,?_,rfl,rfl,rfl⟩;rw [eZ,hx]
theorem ky {r:RH} (hw:WFH r){cls n f:Int} (h:(r.alloc cls n f).1.2=0):aG r.objs (r.alloc cls n f).1.1=none∧1<=(r.alloc cls n f).1.1∧(r.alloc cls n f).1.1<=65536∧0<=n∧n<=8192 ∧
  (f=0->gd (r.alloc cls n f).2 (r.alloc cls n f).1.1 (List.replicate n.toNat 4)):=by
 have CO:=hw.o1;unfold RH.alloc at h ⊢;split at h
 ·simp at h
 rename_i g1;split at h
 ·simp at h
 rename_i g2;split at h
 ·simp at h
 rename_i g3;split at h
 ·simp at h
 rename_i g4;have hl:=fQ hw.objs hw.o1 (by omega);rw [Uq g1,Uq g2,Uq g3,Uq g4];refine ⟨hl.2.2.1,hl.1,by have:=hl.2.1;simp only;omega,by omega,by omega,fun hf=>?_⟩;subst hf;refine ⟨dM r cls n 0,?_,rfl,by simp [dM]⟩;simp only;rw [eZ,hl.2.2.1];simp [dM]
theorem qO {r:RH} (k i w:Int):bT r (r.put k i w).2 fun j=>j≠k:=by
 intro j hj x hx;unfold RH.put;split
 ·exact ⟨x,hx,rfl,rfl,rfl⟩
 split
 ·exact ⟨x,hx,rfl,rfl,rfl⟩
 split
 ·exact ⟨x,hx,rfl,rfl,rfl⟩
 ·refine ⟨x,?_,rfl,rfl,rfl⟩;show aG (iq r.objs k (eC i w)) j=some x;rw [dG (f:=eC i w) (fun o=>rfl),hx]
  have:=(aD hx).2;simp only [Vw];rw [Uq (by omega)]
theorem xP {r:RH}{k:Int}{ws:List Int} (h:gd r k ws){i w:Int} (h0:0<=i) (h1:i<ws.length) (hw:cP w):gd (r.put k i w).2 k (ws.set i.toNat w)∧(r.put k i w).1=0:=by
 obtain ⟨x,h2,h3,h4⟩:=h;subst h4;have hm:dY x.fmt w:=by unfold dY;rw [Uq (by omega)];exact hw
 simp only [RH.put,h2];rw [Uq (by omega),Uq (by simpa using hm)];refine ⟨⟨eC i w x,?_,h3,rfl⟩,rfl⟩;show aG (iq r.objs k (eC i w)) k=some (eC i w x);rw [dG (f:=eC i w) (fun o=>rfl),h2]
 have:=(aD h2).2;simp [this]
theorem vv {at_:Int}{l:List RO}{k:Int}:∀ x,aG l k=some x->∃ y,aG (cz at_ l) k=some y∧y.cls=x.cls∧y.fmt=x.fmt∧y.slots=x.slots:=by
 induction l generalizing at_ with
 | nil=>intro x hx;cases hx
 | cons o l ih =>
  intro x hx;unfold aG at *;simp only [cz,V8] at hx ⊢;by_cases h:o.oop=k
  ·simp only [h,decide_true] at hx ⊢;cases hx;exact ⟨_,rfl,rfl,rfl,rfl⟩
  ·simp only [h,decide_false] at hx ⊢;exact ih x hx
theorem jz {r:RH} (l:List Int):bT r (r.keep l).2 fun k=>k∈l:=by
 intro k hk x hx;unfold RH.keep;split
 ·exact ⟨x,hx,rfl,rfl,rfl⟩
 ·simp only [RH.keepO];refine vv x ?_;unfold aG at hx ⊢;rw [List.find?_filter];have ho:=(aD (l:=r.objs) (k:=k) (o:=x) hx).2;rw [←hx]
  congr 1
  funext a
  by_cases h:a.oop=k
  ·simp [h,hk]
  ·simp [h]
theorem gN {r:RH} (k:Int):bT r (r.marks k).2 fun _=>True:=by
 intro j _ x hx;unfold RH.marks;split <;> exact ⟨x,hx,rfl,rfl,rfl⟩
theorem Reaches.mono {r r':RH}{ws ws':List Int} (hw:WFH r) (h:bT r r' (Reaches r ws)) (hs:∀ w∈ws,w∈ws'){k:Int} (hk:Reaches r ws k):Reaches r' ws' k:=by
 have hn:∀ {w:Int},bm r w≠0->Reaches r ws (bm r w)->bm r' w=bm r w:=by
  intro w b9 hr;have ht:=hr.there;cases ho:aG r.objs (bm r w) with
  | none=>exact absurd ho ht
  | some x =>
   obtain ⟨y,g1,_⟩:=h _ hr x ho;unfold bm at *;split at b9
   ·rename_i hc;rw [Ur hc] at g1;rw [Ur hc,Ur ⟨hc.1,by rw [g1];rfl⟩]
   ·exact absurd rfl b9
 induction hk with
 | @root w h1 h2 =>
  have hr:Reaches r ws (bm r w):=.root h1 h2;have e:=hn h2 hr;rw [←e];exact .root (hs w h1) (by rw [e];exact h2)
 | @cls o h1 h2 h3 ih =>
  have hr:Reaches r ws (bm r o.cls):=.cls h1 h2 h3;have e:=hn h3 hr;obtain ⟨y,g1,g2,g3,g4⟩:=h _ h1 o (cY hw.objs h2);have gy:=aD g1;rw [←e,←g2];rw [←gy.2] at ih;exact .cls ih gy.1 (by rw [g2,e];exact h3)
 | @slot o w h1 h2 h3 h4 h5 ih =>
  have hr:Reaches r ws (bm r w):=.slot h1 h2 h3 h4 h5;have e:=hn h5 hr;obtain ⟨y,g1,g2,g3,g4⟩:=h _ h1 o (cY hw.objs h2);have gy:=aD g1;rw [←e];rw [←gy.2] at ih;exact .slot ih gy.1 (g3.trans h3) (by rw [g4];exact h4) (by rw [e];exact h5)
theorem Reaches.arr {r:RH}{ws l:List Int}{o k:Int} (h:Reaches r ws o) (ha:gd r o l) (h0:1<=k) (h1:k<=65536) (hk:aG r.objs k≠none) (hm:4*k∈l):Reaches r ws k:=by
 obtain ⟨x,g1,g2,g3⟩:=ha;have gx:=aD g1;have e:=rX h0 h1 hk;rw [←gx.2] at h
 have:=Reaches.slot (w:=4*k) h gx.1 g2 (by rw [g3];exact hm) (by rw [e];omega);rw [e] at this;exact this
theorem Reaches.of_root {r:RH}{ws:List Int}{k:Int} (h0:1<=k) (h1:k<=65536) (hk:aG r.objs k≠none) (hm:4*k∈ws):Reaches r ws k:=by
 have e:=rX h0 h1 hk
 have:=Reaches.root (r:=r) (ws:=ws) (w:=4*k) hm (by rw [e];omega);rw [e] at this;exact this
theorem gH {s:SP} (hw:WFH s.h):bT s.h s.collect.2.h (Reaches s.h s.roots):=by
 unfold SP.collect;split
 ·exact bT.refl _ _
 ·exact (jz _).mono fun k hk=>(RH.mem_reach hw).2 hk
theorem qq {s:SP} (hw:WFS s):WFS s.collect.2:=by
 unfold SP.collect;split
 ·exact hw
 ·exact { hw with h:=fY hw.h _ }
theorem ia (s:SP):s.collect.2.king=s.king∧s.collect.2.stack=s.stack∧s.collect.2.op=s.op:=by
 unfold SP.collect;split <;> exact ⟨rfl,rfl,rfl⟩
theorem nM (s:SP) (cls n f:Int):(s.alloc cls n f).2.king=s.king∧(s.alloc cls n f).2.stack=s.stack∧(s.alloc cls n f).2.op=s.op:=by
 unfold SP.alloc;split <;> exact ⟨rfl,rfl,rfl⟩
theorem ri {s:SP} (hw:WFS s) (cls n f:Int):WFS (s.alloc cls n f).2:=by
 unfold SP.alloc;split
 ·exact { hw with h:=kC hw.h _ _ _ }
 ·exact { hw with h:=kC (fY hw.h _) _ _ _ }
theorem lO {s:SP} (hw:WFS s) (cls n f:Int):bT s.h (s.alloc cls n f).2.h (Reaches s.h s.roots):=by
 unfold SP.alloc;split
 ·exact (kB hw.h _ _ _).mono fun _ _=>trivial
 ·exact ((jz _).mono fun k hk=>(RH.mem_reach hw.h).2 hk).trans ((kB (fY hw.h _) _ _ _).mono fun _ _=>trivial)
theorem rp {s:SP} (hw:WFS s){cls n:Int} (h:(s.alloc cls n 0).1.2=0):∃ o,(s.alloc cls n 0).1.1=4*o∧1<=o∧o<=65536∧0<=n∧n<=8192∧gd (s.alloc cls n 0).2.h o (List.replicate n.toNat 4)∧¬ Reaches s.h s.roots o:=by
 unfold SP.alloc at h ⊢;split at h
 ·rename_i hc;rw [Ur hc];obtain ⟨h1,h2,h3,h4,h5,h6⟩:=ky hw.h h;exact ⟨_,rfl,h2,h3,h4,h5,h6 rfl,fun hr=>hr.there h1⟩
 ·rename_i hc;rw [Uq hc];obtain ⟨h1,h2,h3,h4,h5,h6⟩:=ky (fY hw.h _) h;refine ⟨_,rfl,h2,h3,h4,h5,h6 rfl,fun hr=>?_⟩;have ht:=hr.there;cases ho:aG s.h.objs ((s.h.keep s.reach).2.alloc cls n 0).1.1 with
  | none=>exact ht ho
  | some x =>
   obtain ⟨y,g1,_⟩:=jz s.reach _ ((RH.mem_reach hw.h).2 hr) x ho;rw [h1] at g1;cases g1
structure CV where
 oop:Int
 name:Nat
 up:Int
 own:List Nat
 ownA:Int
 selA:Int
 metA:Int
 sels:List Int
 mets:List Int
 lay:Int
structure KV where
 cls:List CV
 clsA:Int
 glob:List (Nat × Int)
 globA:Int
 rest:List Int
def fJ (n:Nat):Int:=4*(n:Int)+2
def CV.slots (c:CV) (i:Nat):List Int:=[fJ c.name,4*c.up,4*c.ownA,4*c.selA,4*c.metA,2*c.lay+1,2*((i:Int)+1)+1]
def fV:List (Nat × Int)->List Int
 | []=>[]
 | (n,v) :: l=>fJ n :: v :: fV l
theorem qN (l:List (Nat × Int)):(fV l).length=2*l.length:=by
 induction l with
 | nil=>rfl
 | cons p l ih=>obtain ⟨n,v⟩:=p;simp only [fV,US,ih];omega
theorem yg {l:List (Nat × Int)}{i:Nat} (h:i<l.length):(fV l)[2*i]?=some (fJ l[i].1)∧(fV l)[2*i+1]?=some l[i].2:=by
 induction l generalizing i with
 | nil=>simp at h
 | cons p l ih =>
  obtain ⟨n,v⟩:=p;cases i with
  | zero=>simp [fV]
  | succ i =>
   have:=ih (i:=i) (by simpa using h);have e:2*(i+1)=2*i+2:=by omega
   rw [e];simpa [fV] using this
abbrev kO:=Int × List Int
def crole (c:CV) (i:Nat):List kO:=[(c.oop,c.slots i),(c.ownA,c.own.map fJ),(c.selA,c.sels),(c.metA,c.mets)]
def fg:List CV->Nat->List kO
 | [],_=>[]
 | c :: l,i=>crole c i++fg l (i+1)
theorem kV (l m:List CV) (i:Nat):fg (l++m) i=fg l i++fg m (i+l.length):=by
 induction l generalizing i with
 | nil=>simp [fg]
 | cons c l ih =>
  simp only [We,fg,ih,Vq,US]
  have:i+1+l.length=i+(l.length+1):=by omega
  rw [this]
theorem fw {l:List CV}{i j:Nat} (h:j<l.length){p:kO} (hp:p∈crole l[j] (i+j)):p∈fg l i:=by
 induction l generalizing i j with
 | nil=>simp at h
 | cons c l ih =>
  simp only [fg,Uz];cases j with
  | zero=>exact .inl (by simpa using hp)
  | succ j =>
   refine .inr (ih (j:=j) (by simpa using h) ?_);have e:i+1+j=i+(j+1):=by omega
   rw [e];simpa using hp
theorem rP {l:List CV}{i:Nat}{p:kO} (h:p∈fg l i):∃ j,∃ hj:j<l.length,p∈crole l[j] (i+j):=by
 induction l generalizing i with
 | nil=>cases h
 | cons c l ih =>
  simp only [fg,Uz] at h;rcases h with h | h
  ·exact ⟨0,by simp,by simpa using h⟩
  ·obtain ⟨j,hj,h1⟩:=ih h;refine ⟨j+1,by simpa using hj,?_⟩;have e:i+1+j=i+(j+1):=by omega
   rw [e] at h1;simpa using h1
def KV.rootW (v:KV):List Int:=4*v.clsA :: 4*v.globA :: v.rest
def KV.clsW (v:KV):List Int:=v.cls.map fun c=>4*c.oop
def KV.roles (v:KV):List kO:=(19,v.rootW) :: (v.clsA,v.clsW) :: (v.globA,fV v.glob) :: (1,[]) :: (18,[]) :: fg v.cls 0
def eB (r:RH) (v:KV):Prop:=∀ p∈v.roles,gd r p.1 p.2
def HG (v:KV):Prop:=v.roles.Pairwise fun p q=>p.1=q.1->p.2=[]
structure KShape (v:KV):Prop where
 rest:v.rest.length=6
 many0:14<=v.cls.length
 many1:v.cls.length<=256
 globs:v.glob.length<=256
 up0:∀ h:0<v.cls.length,(v.cls[0]).up=1∧(v.cls[0]).ownA=18
 ups:∀ i (h:i<v.cls.length),0<i->∃ j,∃ hj:j<v.cls.length,j<i∧(v.cls[j]).oop=(v.cls[i]).up
 kern:∀ i (h:i<v.cls.length),i<14->(v.cls[i]).oop=4+i
 lay:∀ c∈v.cls,0<=c.lay∧c.lay<=1073741823
structure KNames (v:KV) (t:TB):Prop where
 wf:WFT t
 name:∀ c∈v.cls,c.name<t.texts.length
 own:∀ c∈v.cls,∀ n∈c.own,n<t.texts.length
 glob:∀ p∈v.glob,p.1<t.texts.length
 nodup:(v.cls.map (·.name)).Nodup
section
variable {r:RH}{v:KV}
theorem eB.root (h:eB r v):gd r 19 v.rootW:=h (19,v.rootW) (by simp [KV.roles])
theorem eB.all (h:eB r v):gd r v.clsA v.clsW:=h (v.clsA,v.clsW) (by simp [KV.roles])
theorem eB.globs (h:eB r v):gd r v.globA (fV v.glob):=h (v.globA,fV v.glob) (by simp [KV.roles])
theorem eB.nil (h:eB r v):gd r 1 []:=h (1,[]) (by simp [KV.roles])
theorem eB.empty (h:eB r v):gd r 18 []:=h (18,[]) (by simp [KV.roles])
theorem eB.crole (h:eB r v){i:Nat} (hi:i<v.cls.length){p:kO} (hp:p∈crole v.cls[i] i):gd r p.1 p.2:=h p (by
 simp only [KV.roles,Us];exact .inr (.inr (.inr (.inr (.inr (fw hi (by simpa using hp)))))))
theorem eB.cls (h:eB r v){i:Nat} (hi:i<v.cls.length):gd r (v.cls[i]).oop ((v.cls[i]).slots i):=h.crole hi (p:=((v.cls[i]).oop,(v.cls[i]).slots i)) (by simp [Kw.crole])
theorem eB.own (h:eB r v){i:Nat} (hi:i<v.cls.length):gd r (v.cls[i]).ownA ((v.cls[i]).own.map fJ):=h.crole hi (p:=(_,_)) (by simp [Kw.crole])
theorem eB.sel (h:eB r v){i:Nat} (hi:i<v.cls.length):gd r (v.cls[i]).selA (v.cls[i]).sels:=h.crole hi (p:=(_,_)) (by simp [Kw.crole])
theorem eB.of (h1:gd r 19 v.rootW) (h2:gd r v.clsA v.clsW) (h3:gd r v.globA (fV v.glob)) (h4:gd r 1 []) (h5:gd r 18 []) (h6:∀ p∈fg v.cls 0,gd r p.1 p.2):eB r v:=by
 intro p hp;simp only [KV.roles,Us] at hp;rcases hp with rfl | rfl | rfl | rfl | rfl | hp
 ·exact h1
 ·exact h2
 ·exact h3
 ·exact h4
 ·exact h5
 ·exact h6 p hp
theorem eB.keep {r':RH}{P:Int->Prop} (h:eB r v) (hk:bT r r' P) (hp:∀ p∈v.roles,P p.1):eB r' v:=fun p hm=>(h p hm).keep hk (hp p hm)
theorem eB.inj (h:eB r v){i j:Nat} (hi:i<v.cls.length) (hj:j<v.cls.length) (he:(v.cls[i]).oop=(v.cls[j]).oop):i=j:=by
 have h1:=h.cls hi;have h2:=h.cls hj;rw [he] at h1
 have:=h1.uniq h2;simp only [CV.slots,List.cons.injEq] at this;omega
theorem eB.ne1 (h:eB r v){i:Nat} (hi:i<v.cls.length):(v.cls[i]).oop≠1:=fun e=>by
 have h1:=h.cls hi;rw [e] at h1
 have:=h1.uniq h.nil;simp [CV.slots] at this
theorem eB.idx (h:eB r v){c:CV} (hc:c∈v.cls):∃ i,∃ hi:i<v.cls.length,v.cls[i]=c:=VK hc
theorem eB.reach (hw:WFH r) (h:eB r v) (hs:KShape v){ws:List Int} (hk:(76:Int)∈ws):∀ p∈v.roles,Reaches r ws p.1:=by
 have to:∀ {o k:Int}{l m:List Int},Reaches r ws o->gd r o l->gd r k m->4*k∈l->Reaches r ws k:=fun h1 h2 h3 h4=>by
  have hb:=h3.bnd hw;exact h1.arr h2 hb.1 hb.2.1 h3.there h4
 have NR:Reaches r ws 19:=Reaches.of_root (by decide) (by decide) h.root.there hk;have hA:Reaches r ws v.clsA:=to NR h.root h.all (by simp [KV.rootW]);have hG:Reaches r ws v.globA:=to NR h.root h.globs (by simp [KV.rootW]);have hC:∀ {i:Nat} (hi:i<v.cls.length),Reaches r ws (v.cls[i]).oop:=fun {i} hi=>to hA h.all (h.cls hi) (UM.2 ⟨_,UQ hi,rfl⟩);have h0:0<v.cls.length:=by have:=hs.many0;omega
 have hu:=hs.up0 h0;intro p hp;simp only [KV.roles,Us] at hp;rcases hp with rfl | rfl | rfl | rfl | rfl | hp
 ·exact NR
 ·exact hA
 ·exact hG
 ·exact to (hC h0) (h.cls h0) h.nil (by simp [CV.slots,hu.1])
 ·exact to (hC h0) (h.cls h0) h.empty (by simp [CV.slots,hu.2])
 ·obtain ⟨j,hj,hm⟩:=rP hp;have ha:=h.crole hj (p:=p) (by simpa using hm);simp only [Kw.crole,Us,UO,U5] at hm;rcases hm with rfl | rfl | rfl | rfl
  ·exact hC hj
  ·exact to (hC hj) (h.cls hj) ha (by simp [CV.slots])
  ·exact to (hC hj) (h.cls hj) ha (by simp [CV.slots])
  ·exact to (hC hj) (h.cls hj) ha (by simp [CV.slots])
end
def gW (r:RH):Prop:=∀ o∈r.objs,aA o.cls=3
theorem tO {r:RH} (h:gW r){cls:Int} (hc:aA cls=3) (n f:Int):gW (r.alloc cls n f).2:=by
 unfold RH.alloc;split
 ·exact h
 split
 ·exact h
 split
 ·exact h
 split
 ·exact h
 ·intro o ho;simp only [Uz,Uu] at ho;rcases ho with ho | rfl
  ·exact h o ho
  ·exact hc
theorem vR {r:RH} (h:gW r) (k i w:Int):gW (r.put k i w).2:=by
 unfold RH.put;split
 ·exact h
 split
 ·exact h
 split
 ·exact h
 ·intro o ho;simp only [iq,UM] at ho;obtain ⟨x,hx,rfl⟩:=ho;split
  ·exact h x hx
  ·exact h x hx
theorem AC {r:RH} (h:gW r) (k:Int):gW (r.marks k).2:=by
 unfold RH.marks;split <;> exact h
theorem xt {r:RH} (h:gW r) (l:List Int):gW (r.keep l).2:=by
 unfold RH.keep;split
 ·exact h
 ·intro o ho;obtain ⟨x,hx,e,_⟩:=gn ho
  have:=h x (U6.1 hx).1;rw [e];exact this
theorem rN {s:SP} (h:gW s.h){cls:Int} (hc:aA cls=3) (n f:Int):gW (s.alloc cls n f).2.h:=by
 unfold SP.alloc;split
 ·exact tO h hc _ _
 ·exact tO (xt h _) hc _ _
theorem pW {s:SP} (h:gW s.h):gW s.collect.2.h:=by
 unfold SP.collect;split
 ·exact h
 ·exact xt h _
structure KS (s:SP) (v:KV):Prop where
 wf:WFS s
 gc:gW s.h
 op:s.op=false
 king:s.king=19
 view:eB s.h v
 sep:HG v
 shape:KShape v
theorem KS.roots {s:SP}{v:KV} (h:KS s v):s.roots=76 :: s.stack:=by unfold SP.roots;rw [h.king];rfl
theorem KS.reach {s:SP}{v:KV} (h:KS s v):∀ p∈v.roles,Reaches s.h s.roots p.1:=h.view.reach h.wf.h h.shape (by rw [h.roots];simp)
def RH.lay (r:RH) (o i:Int):List Int->RH
 | []=>r
 | w :: l=>RH.lay (r.put o i w).2 o (i+1) l
noncomputable def SP.make (s:SP) (cls:Int) (ws:List Int):(Int × Int) × SP :=
 if (s.alloc (4*cls) ws.length 0).1.2≠0 then ((0,(s.alloc (4*cls) ws.length 0).1.2),(s.alloc (4*cls) ws.length 0).2)
 else (((s.alloc (4*cls) ws.length 0).1.1,(SP.keepW { (s.alloc (4*cls) ws.length 0).2 with h:=(s.alloc (4*cls) ws.length 0).2.h.lay ((s.alloc (4*cls) ws.length 0).1.1 / 4) 0 ws } [(s.alloc (4*cls) ws.length 0).1.1]).1),
  (SP.keepW { (s.alloc (4*cls) ws.length 0).2 with h:=(s.alloc (4*cls) ws.length 0).2.h.lay ((s.alloc (4*cls) ws.length 0).1.1 / 4) 0 ws } [(s.alloc (4*cls) ws.length 0).1.1]).2)
noncomputable def SP.array (s:SP) (ws:List Int):(Int × Int) × SP:=if ws=[] then ((72,0),s) else s.make 11 ws
theorem vX {r:RH} (h:WFH r) (o i:Int) (l:List Int):WFH (r.lay o i l):=by
 induction l generalizing r i with
 | nil=>exact h
 | cons w l ih=>exact ih (mN h _ _ _) _
theorem GI {r:RH} (h:gW r) (o i:Int) (l:List Int):gW (r.lay o i l):=by
 induction l generalizing r i with
 | nil=>exact h
 | cons w l ih=>exact ih (vR h _ _ _) _
theorem yS (r:RH) (o i:Int) (l:List Int):bT r (r.lay o i l) fun j=>j≠o:=by
 induction l generalizing r i with
 | nil=>exact bT.refl _ _
 | cons w l ih=>exact (qO o i w).trans (ih _ _)
theorem Ev {r:RH}{o:Int}{pre l:List Int}{n:Nat} (h:gd r o (pre++List.replicate n 4)) (hl:l.length=n) (hw:∀ w∈l,cP w):gd (r.lay o pre.length l) o (pre++l):=by
 induction l generalizing r pre n with
 | nil=>subst hl;simpa [RH.lay] using h
 | cons w l ih =>
  subst hl;simp only [RH.lay];have h1:=(xP h (i:=(pre.length:Int)) (w:=w) (by omega) (by simp;omega) (hw w (by simp))).1;have e:(pre++List.replicate (w :: l).length 4).set (pre.length:Int).toNat w=(pre++[w])++List.replicate l.length 4:=by
   rw [Uy,Wz _ _ (UI _)];simp [List.replicate_succ]
  rw [e] at h1
  have:=ih h1 rfl fun x hx=>hw x (by simp [hx]);simpa using this
theorem nv {s:SP}{w:Int} (hw:cP w) (hs:s.stack.length<65536):s.keepW [w]=(0,{ s with stack:=s.stack++[w] }):=by
 unfold SP.keepW;rw [Uq (by simpa using hw),Uq (by simp;omega)]
theorem cH {o:Int} (h0:1<=o) (h1:o<=65536):cP (4*o):=by
 unfold cP;have:=bl (4*o);omega
theorem kN {s:SP}{v:KV} (hk:KS s v) (ci:s.stack.length<65536){cls:Int} (u0:1<=cls∧cls<=65536){ws:List Int} (hZ:∀ w∈ws,cP w) :
  KS (s.make cls ws).2 v∧bT s.h (s.make cls ws).2.h (Reaches s.h s.roots) ∧
  ((s.make cls ws).1.2≠0->(s.make cls ws).2.stack=s.stack∧(s.make cls ws).1.1=0) ∧
  ((s.make cls ws).1.2=0->∃ o,(s.make cls ws).1.1=4*o∧(s.make cls ws).2.stack=s.stack++[4*o]∧1<=o∧o<=65536∧gd (s.make cls ws).2.h o ws∧¬ Reaches s.h s.roots o):=by
 have It:=nM s (4*cls) ws.length 0;have LC:=ri hk.wf (4*cls) ws.length 0;have Mz:=lO hk.wf (4*cls) ws.length 0;have NS:=rN hk.gc (cls:=4*cls) (by have:=bl (4*cls);omega) ws.length 0;unfold SP.make;by_cases he:(s.alloc (4*cls) ws.length 0).1.2=0
 ·obtain ⟨o,e1,o1,o2,n0,n1,MA,MB⟩:=rp hk.wf he;rw [Uq (by simpa using he)];rw [e1];have e2:4*o / 4=o:=by omega
  rw [e2];generalize (s.alloc (4*cls) ws.length 0).2=s1 at *;have sd:bT s.h (s1.h.lay o 0 ws) (Reaches s.h s.roots):=Mz.trans ((yS _ _ _ _).mono fun k hk he=>MB (he ▸ hk));have hl:gd (s1.h.lay o 0 ws) o ws:=by
   have:=Ev (pre:=[]) (n:=ws.length) (l:=ws) (by simpa using MA) rfl hZ;simpa using this
  rw [nv (cH o1 o2) (by simp only [It.2.1];exact ci)];refine ⟨⟨?_,GI NS _ _ _,It.2.2.trans hk.op,It.1.trans hk.king,hk.view.keep sd hk.reach,hk.sep,hk.shape⟩,sd,fun h=>absurd rfl h,fun _=>⟨o,rfl,by simp [It.2.1],o1,o2,hl,MB⟩⟩;refine { LC with h:=vX LC.h _ _ _,many:=?_,words:=fun w hw=>?_ }
  ·simp only [UP,US,Vi,It.2.1];omega
  ·rcases Uz.1 hw with hw | hw
   ·exact LC.words w hw
   ·simp only [Uu] at hw;rw [hw];exact cH o1 o2
 ·rw [Ur (by simpa using he)];exact ⟨⟨LC,NS,It.2.2.trans hk.op,It.1.trans hk.king,hk.view.keep Mz hk.reach,hk.sep,hk.shape⟩,Mz,fun _=>⟨It.2.1,rfl⟩,fun h=>absurd h he⟩
theorem lC {t:TB} (s:ByteArray) (h:(t.add s).1.2=0):∃ n:Nat,(t.add s).1.1=n∧(t.add s).2.texts[n]?=some s∧∃ l,(t.add s).2.texts=t.texts++l:=by
 unfold TB.add at h ⊢;split at h
 ·cases h
 rename_i hg;rw [Uq hg];cases hn:dj t.texts s with
 | some n =>
  simp only;refine ⟨n,rfl,?_,[],by simp⟩
  have:∀ (l:List ByteArray) n,dj l s=some n->l[n]?=some s:=by
   intro l
   induction l with
   | nil=>intro n h;cases h
   | cons x l ih =>
    intro n h;unfold dj at h;by_cases hx:x=s
    ·rw [Ur hx] at h;cases h;simp [hx]
    ·rw [Uq hx] at h;cases hm:dj l s with
     | none=>rw [hm] at h;cases h
     | some m=>rw [hm] at h;cases h;simpa using ih m hm
  exact this _ _ hn
 | none =>
  rw [hn] at h;simp only at h ⊢;split at h
  ·cases h
  rename_i hm;rw [Uq hm];exact ⟨t.texts.length,rfl,by simp,[s],rfl⟩
theorem tj (t:TB) (s:ByteArray):(t.add s).2.most=t.most∧∃ l,(t.add s).2.texts=t.texts++l:=by
 unfold TB.add;split
 ·exact ⟨rfl,[],by simp⟩
 cases hn:dj t.texts s with
 | some n=>exact ⟨rfl,[],by simp⟩
 | none =>
  simp only;split
  ·exact ⟨rfl,[],by simp⟩
  ·exact ⟨rfl,[s],rfl⟩
def TB.addAll (t:TB) (acc:List Int):List ByteArray->(List Int × Int) × TB
 | []=>((acc,0),t)
 | s :: l=>if (t.add s).1.2≠0 then (([],(t.add s).1.2),(t.add s).2) else TB.addAll (t.add s).2 (acc++[4*(t.add s).1.1+2]) l
theorem vJ {t:TB} (h:WFT t) (acc:List Int) (l:List ByteArray):WFT (t.addAll acc l).2:=by
 induction l generalizing t acc with
 | nil=>exact h
 | cons s l ih =>
  unfold TB.addAll;split
  ·exact fO h s
  ·exact ih (fO h s) _
theorem jv (t:TB) (acc:List Int) (l:List ByteArray):(t.addAll acc l).2.most=t.most∧∃ m,(t.addAll acc l).2.texts=t.texts++m:=by
 induction l generalizing t acc with
 | nil=>exact ⟨rfl,[],by simp [TB.addAll]⟩
 | cons s l ih =>
  have h1:=tj t s;unfold TB.addAll;split
  ·exact h1
  ·have h2:=ih (t.add s).2 (acc++[4*(t.add s).1.1+2]);obtain ⟨m,e⟩:=h1.2;obtain ⟨m',e'⟩:=h2.2;exact ⟨h2.1.trans h1.1,m++m',by rw [e',e];simp⟩
theorem mS {t:TB} (acc:List Int) (l:List ByteArray) (h:(t.addAll acc l).1.2=0):∃ ns:List Nat,(t.addAll acc l).1.1=acc++ns.map fJ∧ns.map (fun n=>(t.addAll acc l).2.texts[n]?)=l.map some:=by
 induction l generalizing t acc with
 | nil=>exact ⟨[],by simp [TB.addAll],rfl⟩
 | cons s l ih =>
  unfold TB.addAll at h ⊢;split at h
  ·rename_i hn;exact absurd h hn
  ·rename_i hn;rw [Uq hn];have hz:(t.add s).1.2=0:=Uv hn;obtain ⟨n,e1,e2,_⟩:=lC s hz;obtain ⟨ns,e3,e4⟩:=ih _ h;obtain ⟨_,m,e5⟩:=jv (t.add s).2 (acc++[4*(t.add s).1.1+2]) l;refine ⟨n :: ns,?_,?_⟩
   ·rw [e3,e1];simp [fJ]
   ·simp only [U8,e4]
    congr 1
    rw [e5];have aa:n<(t.add s).2.texts.length:=by
     rcases Vp n (t.add s).2.texts.length with h | h
     ·exact h
     ·rw [Vd h] at e2;cases e2
    rw [VN aa,e2]
def TB.back (t:TB) (n:Int):Int × TB:=if n<0∨(t.texts.length:Int)<n then (1,t) else (0,{ t with texts:=t.texts.take n.toNat })
theorem Az {t t':TB} (h1:t'.most=t.most) (h2:∃ l,t'.texts=t.texts++l):(t'.back t.texts.length).2=t:=by
 obtain ⟨l,e⟩:=h2;unfold TB.back;rw [Uq (by rw [e];simp;omega)];cases t with
 | mk most texts =>
  cases t' with
  | mk m ts =>
   simp only at e h1;subst h1 e;simp
def tx (t:TB) (n:Nat):ByteArray:=t.texts.getD n ⟨#[]⟩
theorem GF {t t':TB} (h:∃ l,t'.texts=t.texts++l){n:Nat} (hn:n<t.texts.length):tx t' n=tx t n:=by
 obtain ⟨l,e⟩:=h;unfold tx;rw [e,UD,UD,VN hn]
theorem ij {t:TB}{n:Nat}{s:ByteArray} (h:t.texts[n]?=some s):tx t n=s∧n<t.texts.length:=by
 refine ⟨by unfold tx;rw [UD,h];rfl,?_⟩;rcases Vp n t.texts.length with h1 | h1
 ·exact h1
 ·rw [Vd h1] at h;cases h
theorem oD {t:TB} (hw:WFT t){n:Nat} (hn:n<t.texts.length):cP (fJ n):=by
 have h1:=hw.m1;have h2:=hw.len;unfold cP fJ
 have:=bl (4*(n:Int)+2);omega
theorem KNames.grow {v:KV}{t t':TB} (h:KNames v t) (hw:WFT t') (hp:∃ l,t'.texts=t.texts++l):KNames v t':=by
 have:t.texts.length<=t'.texts.length:=by obtain ⟨l,e⟩:=hp;rw [e];simp
 exact ⟨hw,fun c hc=>UJ (h.name c hc) this,fun c hc n hn=>UJ (h.own c hc n hn) this,fun p hp=>UJ (h.glob p hp) this,h.nodup⟩
theorem iv {s:SP}{v:KV} (hk:KS s v) (ci:s.stack.length<65536){ws:List Int} (hZ:∀ w∈ws,cP w) :
  KS (s.array ws).2 v∧bT s.h (s.array ws).2.h (Reaches s.h s.roots)∧(∃ l,(s.array ws).2.stack=s.stack++l∧l.length<=1) ∧
  ((s.array ws).1.2=0->∃ o,(s.array ws).1.1=4*o∧1<=o∧o<=65536∧gd (s.array ws).2.h o ws∧Reaches (s.array ws).2.h (s.array ws).2.roots o∧(ws=[]∨¬ Reaches s.h s.roots o)):=by
 unfold SP.array;by_cases he:ws=[]
 ·rw [Ur he];subst he;refine ⟨hk,bT.refl _ _,⟨[],by simp,by simp⟩,fun _=>⟨18,rfl,by decide,by decide,hk.view.empty,?_,.inl rfl⟩⟩;exact hk.reach (18,[]) (by simp [KV.roles])
 ·rw [Uq he];obtain ⟨h1,h2,h3,h4⟩:=kN hk ci (cls:=11) (by decide) hZ;refine ⟨h1,h2,?_,fun hz=>?_⟩
  ·by_cases hz:(s.make 11 ws).1.2=0
   ·obtain ⟨o,_,e,_⟩:=h4 hz;exact ⟨[4*o],e,by simp⟩
   ·exact ⟨[],by rw [(h3 hz).1];simp,by simp⟩
  ·obtain ⟨o,e1,e2,o1,o2,ha,hn⟩:=h4 hz;refine ⟨o,e1,o1,o2,ha,?_,.inr hn⟩;exact Reaches.of_root o1 o2 ha.there (by rw [h1.roots,e2];simp)
noncomputable def dL (s:SP) (t:TB) (cw:List Int) (c:Int):(Int × Int) × SP × TB :=
 if (s.array (cw++[c])).1.2≠0 then ((0,(s.array (cw++[c])).1.2),(s.array (cw++[c])).2,t)
 else ((c / 4,0),((s.array (cw++[c])).2.setRoot 0 (s.array (cw++[c])).1.1).2,t)
def cL (n:Int) (up l:Int) (k:Nat):List Int:=[n,4*up,l,72,72,1,2*((k:Int)+1)+1]
noncomputable def fI (s:SP) (t:TB) (cw:List Int) (n up l:Int):(Int × Int) × SP × TB :=
 if (s.make 12 (cL n up l cw.length)).1.2≠0 then ((0,(s.make 12 (cL n up l cw.length)).1.2),(s.make 12 (cL n up l cw.length)).2,t)
 else dL (s.make 12 (cL n up l cw.length)).2 t cw (s.make 12 (cL n up l cw.length)).1.1
noncomputable def gY (s:SP) (t:TB) (cw:List Int) (n up:Int) (names:List Int):(Int × Int) × SP × TB :=
 if (s.array names).1.2≠0 then ((0,(s.array names).1.2),(s.array names).2,t)
 else fI (s.array names).2 t cw n up (s.array names).1.1
noncomputable def dR (s:SP) (t:TB) (cw:List Int) (name:ByteArray) (up:Int) (own:List ByteArray):(Int × Int) × SP × TB :=
 if (t.add name).1.2≠0 then ((0,(t.add name).1.2),s,(t.add name).2)
 else if ((t.add name).2.addAll [] own).1.2≠0 then ((0,((t.add name).2.addAll [] own).1.2),s,((t.add name).2.addAll [] own).2)
 else gY s ((t.add name).2.addAll [] own).2 cw (4*(t.add name).1.1+2) up ((t.add name).2.addAll [] own).1.1
def lP (s:SP) (t:TB) (mark cnt kept e:Int):SP × TB :=
 if e=0 then ((s.drop ((s.stack.length:Int)-kept)).2,t)
 else ({ (s.drop ((s.stack.length:Int)-kept)).2 with h:=if e=24 then s.h else (s.h.marks mark).2 },(t.back cnt).2)
noncomputable def bM (s:SP) (t:TB) (cw:List Int) (name:ByteArray) (up:Int) (own:List ByteArray):(Int × Int) × SP × TB :=
 ((if (dR s t cw name up own).1.2=0 then (dR s t cw name up own).1.1 else 0,(dR s t cw name up own).1.2),lP (dR s t cw name up own).2.1 (dR s t cw name up own).2.2 s.h.mark t.texts.length s.stack.length (dR s t cw name up own).1.2)
theorem ud {v:KV}{r:RH} (hv:eB r v) (hs:HG v):∀ p∈(v.clsA,v.clsW) :: (v.globA,fV v.glob) :: (1,[]) :: (18,[]) :: fg v.cls 0,p.1≠19:=by
 intro p hp he;have h:=(Vg.1 hs).1 p hp he.symm;simp [KV.rootW] at h
theorem qF {s:SP}{v:KV} (hk:KS s v){i w:Int} (h0:0<=i) (h1:i<8) (hw:cP w) :
  gd (s.setRoot i w).2.h 19 (v.rootW.set i.toNat w)∧bT s.h (s.setRoot i w).2.h (fun k=>k≠19)∧WFS (s.setRoot i w).2∧(s.setRoot i w).2.king=19∧(s.setRoot i w).2.op=false∧(s.setRoot i w).2.stack=s.stack∧gW (s.setRoot i w).2.h:=by
 unfold SP.setRoot;have hl:v.rootW.length=8:=by simp [KV.rootW,hk.shape.rest]
 refine ⟨?_,by have:=qO (r:=s.h) s.king i w;rw [hk.king] at this ⊢;exact this,{ hk.wf with h:=mN hk.wf.h _ _ _ },hk.king,hk.op,rfl,vR hk.gc _ _ _⟩
 have:=(xP hk.view.root h0 (by rw [hl];exact h1) hw).1;simp only [hk.king];exact this
def KV.addC (v:KV) (c:CV) (d:Int):KV:={ v with cls:=v.cls++[c],clsA:=d }
theorem KS.fresh {s:SP}{v:KV} (h:KS s v){o:Int} (hn:¬ Reaches s.h s.roots o):∀ p∈v.roles,p.1≠o:=fun p hp he=>hn (he ▸ h.reach p hp)
theorem om {s s':SP}{v:KV} (h:KS s v) (h':KS s' v){l:List Int} (e:s'.stack=s.stack++l):∀ w∈s.roots,w∈s'.roots:=by
 intro w hw;rw [h.roots] at hw;rw [h'.roots,e];simp only [Us,Uz] at hw ⊢;rcases hw with h | h
 ·exact .inl h
 ·exact .inr (.inl h)
theorem rZ {s:SP}{v:KV} (h:KS s v){j:Nat} (hj:j<v.cls.length):1<=(v.cls[j]).oop∧(v.cls[j]).oop<=65536:=by
 have:=(h.view.cls hj).bnd h.wf.h;exact ⟨this.1,this.2.1⟩
theorem fX {n up l:Int}{k:Nat} (hn:cP n) (hu:cP (4*up)) (hl:cP l) (hk:k<=1000):∀ w∈cL n up l k,cP w:=by
 intro w hw;simp only [cL,Us,UO,U5] at hw;rcases hw with rfl | rfl | rfl | rfl | rfl | rfl | rfl
 ·exact hn
 ·exact hu
 ·exact hl
 ·decide
 ·decide
 ·decide
 ·unfold cP;have:=bl (2*((k:Int)+1)+1);omega
theorem js {s:SP}{v:KV} (h:KS s v):∀ w∈v.clsW,cP w:=fun w hw=>(h.view.all.bnd h.wf.h).2.2.2 w hw
theorem zT {s:SP}{v:KV}{t:TB} (hk:KS s v) (ci:s.stack.length<65000){c l:Int}{n:Nat}{ns:List Nat}{j:Nat} (hj:j<v.cls.length) (aa:v.cls.length<256)
  (na:1<=c) (nq:c<=65536) (MC:Reaches s.h s.roots c) (M3:Reaches s.h s.roots l) (NT:gd s.h c (cL (fJ n) (v.cls[j]).oop (4*l) v.cls.length)) (M4:gd s.h l (ns.map fJ))
  (M5:∀ p∈v.roles,p.1≠c) (NU:ns=[]∧l=18∨∀ p∈v.roles,p.1≠l) (r0:c≠l) :
  bT s.h (dL s t v.clsW (4*c)).2.1.h (fun k=>Reaches s.h s.roots k∧k≠19)∧(dL s t v.clsW (4*c)).2.2=t∧(∃ m,(dL s t v.clsW (4*c)).2.1.stack=s.stack++m∧m.length<=1) ∧
  ((dL s t v.clsW (4*c)).1.2≠0->KS (dL s t v.clsW (4*c)).2.1 v∧bT s.h (dL s t v.clsW (4*c)).2.1.h (Reaches s.h s.roots)) ∧
  ((dL s t v.clsW (4*c)).1.2=0->(dL s t v.clsW (4*c)).1.1=c∧∃ d,KS (dL s t v.clsW (4*c)).2.1 (v.addC ⟨c,n,(v.cls[j]).oop,ns,l,18,18,[],[],0⟩ d)):=by
 have hZ:∀ w∈v.clsW++[4*c],cP w:=fun w hw=>by
  rcases Uz.1 hw with hw | hw
  ·exact js hk w hw
  ·simp only [Uu] at hw;rw [hw];exact cH na nq
 obtain ⟨h1,h2,⟨m,h3,s5⟩,h4⟩:=iv hk (by omega) hZ;unfold dL;by_cases he:(s.array (v.clsW++[4*c])).1.2=0
 ·rw [Uq (by simpa using he)];obtain ⟨d,e1,d1,d2,SX,Md,Ms⟩:=h4 he;have Ms:¬ Reaches s.h s.roots d:=by
   rcases Ms with h | h
   ·simp at h
   ·exact h
  rw [e1];generalize (s.array (v.clsW++[4*c])).2=s1 at *;obtain ⟨g1,g2,g3,g4,g5,g6,g7⟩:=qF h1 (i:=0) (w:=4*d) (by decide) (by decide) (cH d1 d2);generalize (s1.setRoot 0 (4*d)).2=s2 at *;have M6:∀ p∈v.roles,p.1≠d:=hk.fresh Ms;have r19:((19,v.rootW):kO)∈v.roles:=by simp [KV.roles]
  have r18:((18,[]):kO)∈v.roles:=by simp [KV.roles]
  have NV:c≠19:=fun e=>M5 _ r19 e.symm;have NW:d≠19:=fun e=>M6 _ r19 e.symm;have NX:l≠19:=by
   rcases NU with ⟨_,h⟩ | h
   ·omega
   ·exact fun e=>h _ r19 e.symm
  have NY:c≠18:=fun e=>M5 _ r18 e.symm;have SY:d≠c:=fun e=>Ms (e ▸ MC);have Lz:d≠l:=fun e=>Ms (e ▸ M3);have h2k:bT s.h s2.h fun k=>Reaches s.h s.roots k∧k≠19:=(h2.mono fun k hk=>hk.1).trans (g2.mono fun k hk=>hk.2);have b9:=ud hk.view hk.sep;refine ⟨h2k,rfl,⟨m,by rw [g6,h3],s5⟩,fun h=>absurd rfl h,fun _=>⟨by show 4*c / 4=c;omega,d,g3,g7,g5,g4,?_,?_,?_⟩⟩
  ·
   refine eB.of ?_ ?_ ?_ ?_ ?_ ?_
   ·simpa [KV.rootW,KV.addC] using g1
   ·have:=SX.keep g2 NW;simpa [KV.addC,KV.clsW] using this
   ·exact (h1.view.globs).keep g2 (b9 (v.globA,fV v.glob) (by simp))
   ·exact (h1.view.nil).keep g2 (by decide)
   ·exact (h1.view.empty).keep g2 (by decide)
   ·intro p hp;simp only [KV.addC,kV,Uz,UE,fg,VJ] at hp;rcases hp with hp | hp
    ·exact (h1.view p (by simp [KV.roles,hp])).keep g2 (b9 p (by simp [hp]))
    ·simp only [crole,Us,UO,U5] at hp;rcases hp with rfl | rfl | rfl | rfl
     ·have:=NT.keep h2k ⟨MC,NV⟩;simpa [CV.slots,cL] using this
     ·exact M4.keep h2k ⟨M3,NX⟩
     ·exact (h1.view.empty).keep g2 (by decide)
     ·exact (h1.view.empty).keep g2 (by decide)
  ·
   have hs:=hk.sep;unfold HG at hs ⊢;simp only [KV.roles,KV.addC,kV,fg,VJ,UE] at hs ⊢;rw [Vg,Vg] at hs;obtain ⟨ic,us,OO⟩:=hs;have new:∀ q∈crole ⟨c,n,(v.cls[j]).oop,ns,l,18,18,[],[],0⟩ v.cls.length,q.1=c∨q.1=l∨q.1=18:=by
    intro q hq;simp only [crole,Us,UO,U5] at hq;rcases hq with rfl | rfl | rfl | rfl <;> simp
   refine Vg.2 ⟨fun q hq he=>?_,Vg.2 ⟨fun q hq he=>?_,?_⟩⟩
   ·
    exfalso;simp only [Us,Uz] at hq;rcases hq with rfl | rfl | rfl | rfl | hq | hq
    ·exact NW he.symm
    ·exact b9 (v.globA,fV v.glob) (by simp) he.symm
    ·simp at he
    ·simp at he
    ·exact b9 q (by simp [hq]) he.symm
    ·rcases new q hq with h | h | h
     ·exact NV (by rw [←h];exact he.symm)
     ·exact NX (by rw [←h];exact he.symm)
     ·rw [h] at he;simp at he
   ·exfalso;simp only [Us,Uz] at hq;rcases hq with rfl | rfl | rfl | hq | hq
    ·exact M6 (v.globA,fV v.glob) (by simp [KV.roles]) he.symm
    ·exact M6 (1,[]) (by simp [KV.roles]) he.symm
    ·exact M6 (18,[]) (by simp [KV.roles]) he.symm
    ·exact M6 q (by simp [KV.roles,hq]) he.symm
    ·rcases new q hq with h | h | h
     ·exact SY (by rw [←h];exact he)
     ·exact Lz (by rw [←h];exact he)
     ·exact M6 (18,[]) r18 (by rw [←h];exact he.symm)
   ·show ((v.globA,fV v.glob) :: (1,[]) :: (18,[]) :: (fg v.cls 0++_)).Pairwise _;rw [←We,←We,←We];refine VH.2 ⟨OO,?_,fun p hp q hq he=>?_⟩
    ·simp only [crole];refine Vg.2 ⟨fun q hq he=>?_,Vg.2 ⟨fun q hq he=>?_,Vg.2 ⟨fun q hq he=>rfl,Vg.2 ⟨fun q hq he=>rfl,List.Pairwise.nil⟩⟩⟩⟩
     ·exfalso;simp only [Us,UO,U5] at hq;rcases hq with rfl | rfl | rfl
      ·exact r0 he
      ·exact NY he
      ·exact NY he
     ·rcases NU with ⟨h,_⟩ | h
      ·simp [h]
      ·exfalso;simp only [Us,UO,U5] at hq;rcases hq with rfl | rfl
       ·exact h _ r18 he.symm
       ·exact h _ r18 he.symm
    ·have M7:p∈v.roles:=by
      simp only [KV.roles];exact Vb _ (Vb _ hp)
     have em:p.1=18->p.2=[]:=fun h=>by
      have:=hk.view p M7;rw [h] at this;exact this.uniq hk.view.empty
     rcases new q hq with h | h | h
     ·exact absurd (he.trans h) (M5 p M7)
     ·rcases NU with ⟨_,h'⟩ | h'
      ·exact em (by rw [he,h,h'])
      ·exact absurd (he.trans h) (h' p M7)
     ·exact em (he.trans h)
  ·
   have ll:=hk.shape;have Rs:=ll.many0;constructor
   ·exact ll.rest
   ·simp only [KV.addC,UP];omega
   ·simp only [KV.addC,UP,US,Vi];omega
   ·exact ll.globs
   ·intro h0;have Jm:0<v.cls.length:=by omega
    simp only [KV.addC,VR Jm];exact ll.up0 Jm
   ·intro i hi ly;simp only [KV.addC,UP,US,Vi] at hi;by_cases dq:i<v.cls.length
    ·obtain ⟨j',Lj,h5,h6⟩:=ll.ups i dq ly;refine ⟨j',by simp only [KV.addC,UP];omega,h5,?_⟩;simp only [KV.addC,VR dq,VR Lj];exact h6
    ·have KU:i=v.cls.length:=by omega
     subst KU;refine ⟨j,by simp only [KV.addC,UP];omega,hj,?_⟩;simp only [KV.addC,VR hj];rw [List.getElem_append_right (UI _)];simp
   ·intro i hi In;have dq:i<v.cls.length:=by omega
    simp only [KV.addC,VR dq];exact ll.kern i dq In
   ·intro x hx;simp only [KV.addC,Uz,Uu] at hx;rcases hx with hx | rfl
    ·exact ll.lay x hx
    ·simp
 ·rw [Ur (by simpa using he)];exact ⟨h2.mono fun k hk=>hk.1,rfl,⟨m,h3,s5⟩,fun _=>⟨h1,h2⟩,fun h=>absurd h he⟩
structure DefR (s:SP) (v:KV) (t:TB) (j:Nat) (name:ByteArray) (own:List ByteArray) (R:(Int × Int) × SP × TB):Prop where
 wft:WFT R.2.2
 most:R.2.2.most=t.most
 pre:∃ l,R.2.2.texts=t.texts++l
 stack:∃ m,R.2.1.stack=s.stack++m∧m.length<=3
 bad:R.1.2≠0->KS R.2.1 v∧bT s.h R.2.1.h (Reaches s.h s.roots)
 good:R.1.2=0->∃ c n ns l d,∃ hj:j<v.cls.length,R.1.1=c∧KS R.2.1 (v.addC ⟨c,n,(v.cls[j]).oop,ns,l,18,18,[],[],0⟩ d)∧R.2.2.texts[n]?=some name∧ns.map (fun n=>R.2.2.texts[n]?)=own.map some
 keep:bT s.h R.2.1.h (fun k=>Reaches s.h s.roots k∧k≠19)
theorem AB {s:SP}{v:KV}{t:TB} (hk:KS s v) (ci:s.stack.length<60000){n:Nat}{ns:List Nat}{j:Nat} (hj:j<v.cls.length) (aa:v.cls.length<256) (J1:WFT t) (hn:n<t.texts.length) (Je:∀ n∈ns,n<t.texts.length)
  {name:ByteArray}{own:List ByteArray} (e1:t.texts[n]?=some name) (e2:ns.map (fun n=>t.texts[n]?)=own.map some) :
  DefR s v t j name own (gY s t v.clsW (fJ n) (v.cls[j]).oop (ns.map fJ)):=by
 have hZ:∀ w∈ns.map fJ,cP w:=fun w hw=>by
  obtain ⟨x,hx,rfl⟩:=UM.1 hw;exact oD J1 (Je x hx)
 obtain ⟨a1,a2,⟨m1,a3,a3'⟩,a4⟩:=iv hk (by omega) hZ;unfold gY;by_cases he:(s.array (ns.map fJ)).1.2=0
 ·rw [Uq (by simpa using he)];obtain ⟨l,el,l1,l2,M4,M3,NU⟩:=a4 he;rw [el];generalize (s.array (ns.map fJ)).2=s1 at *;have Lv:s1.stack.length<64000:=by rw [a3,UP];omega
  have cx:=rZ hk hj;have Jf:v.clsW.length=v.cls.length:=by simp [KV.clsW]
  obtain ⟨b1,b2,b3,b4⟩:=kN a1 (by omega) (cls:=12) (by decide) (ws:=cL (fJ n) (v.cls[j]).oop (4*l) v.clsW.length) (fX (oD J1 hn) (cH cx.1 cx.2) (cH l1 l2) (by omega));have M8:∀ k,Reaches s.h s.roots k->Reaches s1.h s1.roots k:=fun k dn=>Reaches.mono hk.wf.h a2 (om hk a1 a3) dn;unfold fI;by_cases hf:(s1.make 12 (cL (fJ n) (v.cls[j]).oop (4*l) v.clsW.length)).1.2=0
  ·rw [Uq (by simpa using hf)];obtain ⟨c,ec,est,c1,c2,NT,RJ⟩:=b4 hf;rw [ec];generalize (s1.make 12 (cL (fJ n) (v.cls[j]).oop (4*l) v.clsW.length)).2=s2 at *;have ME:∀ k,Reaches s1.h s1.roots k->Reaches s2.h s2.roots k:=fun k dn=>Reaches.mono a1.wf.h b2 (om a1 b1 est) dn;have MC:Reaches s2.h s2.roots c:=Reaches.of_root c1 c2 NT.there (by rw [b1.roots,est];simp);have Qk:ns=[]∧l=18∨∀ p∈v.roles,p.1≠l:=by
    rcases NU with h | h
    ·have Ql:ns=[]:=by simpa using h
     subst Ql;left;refine ⟨rfl,?_⟩
     have:(s.array (([]:List Nat).map fJ)).1.1=72:=by simp [SP.array]
     omega
    ·exact .inr (hk.fresh h)
   obtain ⟨d1,d2,⟨m,d3,d3'⟩,d4,d5⟩:=zT (t:=t) b1 (by rw [est,UP];simp;omega) (c:=c) (l:=l) (n:=n) (ns:=ns) hj aa c1 c2 MC (ME l M3) (by rw [Jf] at NT;exact NT) (M4.keep b2 M3) (a1.fresh RJ) Qk (fun e=>RJ (e ▸ M3));generalize dL s2 t v.clsW (4*c)=R at *;refine ⟨by rw [d2];exact J1,by rw [d2],⟨[],by rw [d2];simp⟩,⟨m1++[4*c]++m,by rw [d3,est,a3];simp,by simp;omega⟩,fun h=>?_,fun h=>?_,((a2.trans (b2.mono M8)).mono fun k dn=>dn.1).trans (d1.mono fun k dn=>⟨ME k (M8 k dn.1),dn.2⟩)⟩
   ·exact ⟨(d4 h).1,(a2.trans (b2.mono M8)).trans ((d4 h).2.mono fun k dn=>ME k (M8 k dn))⟩
   ·obtain ⟨e3,d,e4⟩:=d5 h;rw [d2];exact ⟨c,n,ns,l,d,hj,e3,e4,e1,e2⟩
  ·rw [Ur (by simpa using hf)];exact ⟨J1,rfl,⟨[],by simp⟩,⟨m1,by rw [(b3 hf).1,a3],by omega⟩,fun _=>⟨b1,a2.trans (b2.mono M8)⟩,fun h=>absurd h hf,(a2.trans (b2.mono M8)).mono fun k dn=>dn.1⟩
 ·rw [Ur (by simpa using he)];exact ⟨J1,rfl,⟨[],by simp⟩,⟨m1,a3,by omega⟩,fun _=>⟨a1,a2⟩,fun h=>absurd h he,a2.mono fun k dn=>dn.1⟩
theorem oR {s:SP}{v:KV}{t:TB} (hk:KS s v) (ci:s.stack.length<60000){j:Nat} (hj:j<v.cls.length) (aa:v.cls.length<256) (J1:WFT t) (name:ByteArray) (own:List ByteArray) :
  DefR s v t j name own (dR s t v.clsW name (v.cls[j]).oop own):=by
 unfold dR;have p1:=tj t name;have w1:=fO J1 name;by_cases h1:(t.add name).1.2=0
 ·rw [Uq (by simpa using h1)];obtain ⟨n,e1,e2,_⟩:=lC name h1;generalize (t.add name).2=t1 at *;have p2:=jv t1 [] own;have w2:=vJ w1 [] own;have pre:∃ l,(t1.addAll [] own).2.texts=t.texts++l:=by
   obtain ⟨l,e⟩:=p1.2;obtain ⟨l',e'⟩:=p2.2;exact ⟨l++l',by rw [e',e];simp⟩
  by_cases h2:(t1.addAll [] own).1.2=0
  ·rw [Uq (by simpa using h2)];obtain ⟨ns,e3,e4⟩:=mS [] own h2;rw [e3,e1];generalize (t1.addAll [] own).2=t2 at *;have e5:t2.texts[n]?=some name:=by
    obtain ⟨l',e'⟩:=p2.2;rw [e',VN (ij e2).2,e2]
   have Je:∀ n∈ns,n<t2.texts.length:=fun n hn=>by
    have:t2.texts[n]?∈own.map some:=by rw [←e4];exact UM.2 ⟨n,hn,rfl⟩
    obtain ⟨s,_,hs⟩:=UM.1 this;exact (ij hs.symm).2
   have:=AB hk ci hj aa w2 (ij e5).2 Je e5 e4;have Qm:∃ l,(gY s t2 v.clsW (fJ n) (v.cls[j]).oop (ns.map fJ)).2.2.texts=t.texts++l:=by
    obtain ⟨l,e⟩:=pre;obtain ⟨l',e'⟩:=this.pre;exact ⟨l++l',e'.trans (by rw [e];simp)⟩
   exact { this with most:=this.most.trans (p2.1.trans p1.1),pre:=Qm }
  ·rw [Ur (by simpa using h2)];exact ⟨w2,p2.1.trans p1.1,pre,⟨[],by simp,by simp⟩,fun _=>⟨hk,bT.refl _ _⟩,fun h=>absurd h h2,bT.refl _ _⟩
 ·rw [Ur (by simpa using h1)];exact ⟨w1,p1.1,p1.2,⟨[],by simp,by simp⟩,fun _=>⟨hk,bT.refl _ _⟩,fun h=>absurd h h1,bT.refl _ _⟩
structure KAll (s:SP) (t:TB) (v:KV):Prop where
 ks:KS s v
 names:KNames v t
 stack:s.stack=[]
structure KAllW (s:SP) (t:TB) (v:KV):Prop where
 ks:KS s v
 names:KNames v t
 top:s.stack.length<=65536
theorem KAll.w {s:SP}{t:TB}{v:KV} (h:KAll s t v):KAllW s t v:=⟨h.ks,h.names,by rw [h.stack];decide⟩
theorem Ay {s:SP}{m:List Int} (h:s.stack=m):(s.drop ((s.stack.length:Int)-0)).2={ s with stack:=[] }:=by
 unfold SP.drop;rw [Uq (by omega)];simp
theorem KS.nostack {s:SP}{v:KV} (h:KS s v):KS { s with stack:=[] } v:=⟨{ h.wf with many:=by simp,words:=by simp },h.gc,h.op,h.king,h.view,h.sep,h.shape⟩
theorem KS.marks {s:SP}{v:KV} (h:KS s v) (k:Int):KS { s with h:=(s.h.marks k).2 } v :=
 ⟨{ h.wf with h:=Ai h.wf.h k },AC h.gc k,h.op,h.king,h.view.keep (gN k) fun _ _=>trivial,h.sep,h.shape⟩
theorem lB {s:SP}{v:KV}{t:TB} (h:KAll s t v){j:Nat} (hj:j<v.cls.length) (aa:v.cls.length<256){name:ByteArray}{own:List ByteArray} (hf:∀ c∈v.cls,tx t c.name≠name) :
  ((bM s t v.clsW name (v.cls[j]).oop own).1.2≠0->(bM s t v.clsW name (v.cls[j]).oop own).1.1=0∧KAll (bM s t v.clsW name (v.cls[j]).oop own).2.1 (bM s t v.clsW name (v.cls[j]).oop own).2.2 v∧(bM s t v.clsW name (v.cls[j]).oop own).2.2=t ∧
   bT s.h (bM s t v.clsW name (v.cls[j]).oop own).2.1.h (Reaches s.h s.roots)) ∧
  ((bM s t v.clsW name (v.cls[j]).oop own).1.2=0->∃ n ns l d,KAll (bM s t v.clsW name (v.cls[j]).oop own).2.1 (bM s t v.clsW name (v.cls[j]).oop own).2.2 (v.addC ⟨(bM s t v.clsW name (v.cls[j]).oop own).1.1,n,(v.cls[j]).oop,ns,l,18,18,[],[],0⟩ d) ∧
   (∃ m,(bM s t v.clsW name (v.cls[j]).oop own).2.2.texts=t.texts++m)∧tx (bM s t v.clsW name (v.cls[j]).oop own).2.2 n=name∧ns.map (tx (bM s t v.clsW name (v.cls[j]).oop own).2.2)=own):=by
 obtain ⟨hk,hn,ci⟩:=h;have D:=oR hk (by rw [ci];simp) hj aa hn.wf name own;unfold bM;generalize dR s t v.clsW name (v.cls[j]).oop own=R at D ⊢;obtain ⟨m,hm,w7⟩:=D.stack;have hd:=Ay (s:=R.2.1) (m:=R.2.1.stack) rfl;simp only [ci,Vi];by_cases he:R.1.2=0
 ·refine ⟨fun h=>absurd he h,fun _=>?_⟩;obtain ⟨c,n,ns,l,d,_,e1,e2,e3,e4⟩:=D.good he;unfold lP;rw [Ur he,Ur he];simp only [Int.natCast_zero,hd];have hg:=hn.grow D.wft D.pre;have t1:=ij e3;have t2:ns.map (tx R.2.2)=own:=by
   have h2:∀ (ns:List Nat) (own:List ByteArray),ns.map (fun n=>R.2.2.texts[n]?)=own.map some->ns.map (tx R.2.2)=own:=by
    intro ns
    induction ns with
    | nil=>intro own h;simp only [VP] at h;simpa using h.symm
    | cons a ns ih =>
     intro own h;cases own with
     | nil=>simp at h
     | cons b own =>
      simp only [U8,List.cons.injEq] at h;rw [U8,(ij h.1).1,ih own h.2]
   exact h2 ns own e4
  have t3:∀ x∈ns,x<R.2.2.texts.length:=fun x hx=>by
   have:R.2.2.texts[x]?∈own.map some:=by rw [←e4];exact UM.2 ⟨x,hx,rfl⟩
   obtain ⟨_,_,hs⟩:=UM.1 this;exact (ij hs.symm).2
  refine ⟨n,ns,l,d,⟨by rw [e1];exact e2.nostack,?_,rfl⟩,D.pre,t1.1,t2⟩;refine ⟨D.wft,fun x hx=>?_,fun x hx=>?_,hg.glob,?_⟩
  ·simp only [KV.addC,Uz,Uu] at hx;rcases hx with hx | rfl
   ·exact hg.name x hx
   ·exact t1.2
  ·simp only [KV.addC,Uz,Uu] at hx;rcases hx with hx | rfl
   ·exact hg.own x hx
   ·exact t3
  ·simp only [KV.addC,Vf,U8,VP];rw [VI];refine ⟨hg.nodup,by simp,fun a ha b hb LK=>?_⟩;simp only [Uu] at hb;subst hb;subst LK;obtain ⟨x,hx,OP⟩:=UM.1 ha
   have:=hf x hx;rw [←GF D.pre (hn.name x hx),OP] at this;exact this t1.1
 ·refine ⟨fun _=>?_,fun h=>absurd h he⟩;obtain ⟨b1,b2⟩:=D.bad he;unfold lP;rw [Uq he,Uq he];simp only [Int.natCast_zero,hd];have hb:=Az D.most D.pre;rw [hb];by_cases Jn:R.1.2=24
  ·rw [Ur Jn];exact ⟨trivial,⟨b1.nostack,hn,rfl⟩,rfl,b2⟩
  ·rw [Uq Jn];exact ⟨trivial,⟨b1.nostack.marks _,hn,rfl⟩,rfl,b2.trans ((gN _).mono fun _ _=>trivial)⟩
theorem KAll.marks {s:SP}{t:TB}{v:KV} (h:KAll s t v) (k:Int):KAll { s with h:=(s.h.marks k).2 } t v:=⟨h.ks.marks k,h.names,h.stack⟩
theorem KAll.collect {s:SP}{t:TB}{v:KV} (h:KAll s t v):KAll s.collect.2 t v:=by
 have hr:=ia s;exact ⟨⟨qq h.ks.wf,pW h.ks.gc,hr.2.2.trans h.ks.op,hr.1.trans h.ks.king,h.ks.view.keep (gH h.ks.wf.h) h.ks.reach,h.ks.sep,h.ks.shape⟩,h.names,hr.2.1.trans h.stack⟩
end Kw
namespace Kw
open Go
def jN (w:Int):Int:=if aA w=3 then w / 4 else 0
def dp (w:Int):Int:=if aA w=1 then w / 2 else 0
def wR (t:TB) (w:Int):ByteArray:=if aA w=2 then tx t (w / 4).toNat else ⟨#[]⟩
def kslot (r:RH) (o i:Int):Int:=(r.at o i).1
def jQ (r:RH) (o i:Int):Int:=jN (kslot r o i)
def sJ (r:RH) (o i:Int):Int:=dp (kslot r o i)
def kQ (r:RH) (t:TB) (o i:Int):ByteArray:=wR t (kslot r o i)
def ksize (r:RH) (o:Int):Int:=(r.size o).1
theorem dP {o:Int} (h0:1<=o) (h1:o<=65536):jN (4*o)=o:=by
 unfold jN
 have:=bl (4*o);rw [Ur (by omega)];omega
theorem AE {n:Int} (h0:-1073741824<=n) (h1:n<=1073741823):dp (2*n+1)=n:=by
 unfold dp
 have:=bl (2*n+1);rw [Ur (by omega)];omega
theorem nG {t:TB} (hw:WFT t){n:Nat} (h:n<t.texts.length):wR t (fJ n)=tx t n:=by
 unfold wR fJ;have h1:=hw.m1;have h2:=hw.len
 have:=bl (4*(n:Int)+2);rw [Ur (by omega)]
 congr 1;omega
theorem gd.kslot {r:RH}{o:Int}{ws:List Int} (h:gd r o ws){i:Nat} (hi:i<ws.length):kslot r o i=ws[i]:=by
 unfold Kw.kslot;rw [h.at (by omega) (by omega)];simp
theorem gd.ksize {r:RH}{o:Int}{ws:List Int} (h:gd r o ws):ksize r o=ws.length:=by unfold Kw.ksize;rw [h.size]
theorem nS {r:RH} (o:Int):0<=ksize r o:=by
 unfold ksize RH.size;cases aG r.objs o with
 | none=>exact Vo 0
 | some x=>exact Int.natCast_nonneg _
theorem xc {r:RH} (hw:WFH r) (o:Int):ksize r o<=8192:=by
 unfold ksize RH.size;cases ho:aG r.objs o with
 | none=>exact Int.le_of_lt (by decide)
 | some x=>have:=(hw.objs.good x (aD ho).1).many;simp only;omega
def kwords (r:RH) (o:Int):List Int:=(List.range (ksize r o).toNat).map fun i:Nat=>kslot r o i
theorem gd.kwords {r:RH}{o:Int}{ws:List Int} (h:gd r o ws):kwords r o=ws:=by
 unfold Kw.kwords;rw [h.ksize,Uy];apply VM (by simp);intro i h1 h2;simp only [VT,Wm];exact h.kslot h2
section
variable {s:SP}{v:KV}{t:TB}
theorem KS.root0 (h:KS s v):jQ s.h 19 0=v.clsA:=by
 have hb:=h.view.all.bnd h.wf.h;have hr:=h.view.root;unfold jQ;rw [show (0:Int)=((0:Nat):Int) from rfl,hr.kslot (by simp [KV.rootW])];exact dP hb.1 hb.2.1
theorem KS.root1 (h:KS s v):jQ s.h 19 1=v.globA:=by
 have hb:=h.view.globs.bnd h.wf.h;have hr:=h.view.root;unfold jQ;rw [show (1:Int)=((1:Nat):Int) from rfl,hr.kslot (by simp [KV.rootW])];exact dP hb.1 hb.2.1
theorem KS.size0 (h:KS s v):ksize s.h v.clsA=v.cls.length:=by rw [h.view.all.ksize];simp [KV.clsW]
theorem KS.size1 (h:KS s v):ksize s.h v.globA=2*v.glob.length:=by rw [h.view.globs.ksize,qN];simp
theorem KS.clsAt (h:KS s v){i:Nat} (hi:i<v.cls.length):kslot s.h v.clsA i=4*(v.cls[i]).oop∧jQ s.h v.clsA i=(v.cls[i]).oop:=by
 have hb:=(h.view.cls hi).bnd h.wf.h;have e:kslot s.h v.clsA i=4*(v.cls[i]).oop:=by rw [h.view.all.kslot (by simpa [KV.clsW] using hi)];simp [KV.clsW]
 exact ⟨e,by unfold jQ;rw [e];exact dP hb.1 hb.2.1⟩
theorem KS.globAt (h:KS s v){i:Nat} (hi:i<v.glob.length):kslot s.h v.globA (2*i:Nat)=fJ v.glob[i].1∧kslot s.h v.globA (2*i+1:Nat)=v.glob[i].2:=by
 have hg:=yg hi;have hl:=qN v.glob;refine ⟨?_,?_⟩
 ·rw [h.view.globs.kslot (by omega)]
  have:=hg.1;rw [UF (by omega)] at this;simpa using this
 ·rw [h.view.globs.kslot (by omega)]
  have:=hg.2;rw [UF (by omega)] at this;simpa using this
theorem KS.c0 (h:KS s v){i:Nat} (hi:i<v.cls.length):kslot s.h (v.cls[i]).oop 0=fJ (v.cls[i]).name:=(h.view.cls hi).kslot (i:=0) (by simp [CV.slots])
theorem KS.c1 (h:KS s v){i:Nat} (hi:i<v.cls.length):kslot s.h (v.cls[i]).oop 1=4*(v.cls[i]).up:=(h.view.cls hi).kslot (i:=1) (by simp [CV.slots])
theorem KS.c2 (h:KS s v){i:Nat} (hi:i<v.cls.length):kslot s.h (v.cls[i]).oop 2=4*(v.cls[i]).ownA:=(h.view.cls hi).kslot (i:=2) (by simp [CV.slots])
theorem KS.c3 (h:KS s v){i:Nat} (hi:i<v.cls.length):kslot s.h (v.cls[i]).oop 3=4*(v.cls[i]).selA:=(h.view.cls hi).kslot (i:=3) (by simp [CV.slots])
theorem KS.c4 (h:KS s v){i:Nat} (hi:i<v.cls.length):kslot s.h (v.cls[i]).oop 4=4*(v.cls[i]).metA:=(h.view.cls hi).kslot (i:=4) (by simp [CV.slots])
theorem KS.c5 (h:KS s v){i:Nat} (hi:i<v.cls.length):kslot s.h (v.cls[i]).oop 5=2*(v.cls[i]).lay+1:=(h.view.cls hi).kslot (i:=5) (by simp [CV.slots])
theorem KS.c6 (h:KS s v){i:Nat} (hi:i<v.cls.length):kslot s.h (v.cls[i]).oop 6=2*((i:Int)+1)+1:=(h.view.cls hi).kslot (i:=6) (by simp [CV.slots])
theorem KS.upB (h:KS s v){i:Nat} (hi:i<v.cls.length):1<=(v.cls[i]).up∧(v.cls[i]).up<=65536:=by
 by_cases h0:i=0
 ·subst h0;rw [(h.shape.up0 hi).1];decide
 ·obtain ⟨j,hj,_,e⟩:=h.shape.ups i hi (by omega);rw [←e]
  have:=(h.view.cls hj).bnd h.wf.h;exact ⟨this.1,this.2.1⟩
theorem KS.up (h:KS s v){i:Nat} (hi:i<v.cls.length):jQ s.h (v.cls[i]).oop 1=(v.cls[i]).up:=by
 unfold jQ;rw [h.c1 hi];exact dP (h.upB hi).1 (h.upB hi).2
theorem KS.up1 (h:KS s v){i:Nat} (hi:i<v.cls.length):(v.cls[i]).up=1↔i=0:=by
 constructor
 ·intro e;by_cases h0:i=0
  ·exact h0
  ·obtain ⟨j,hj,_,e'⟩:=h.shape.ups i hi (by omega);exact absurd (e'.trans e) (h.view.ne1 hj)
 ·rintro rfl;exact (h.shape.up0 hi).1
theorem KS.ownO (h:KS s v){i:Nat} (hi:i<v.cls.length):jQ s.h (v.cls[i]).oop 2=(v.cls[i]).ownA:=by
 have hb:=(h.view.own hi).bnd h.wf.h;unfold jQ;rw [h.c2 hi];exact dP hb.1 hb.2.1
theorem KS.num (h:KS s v){i:Nat} (hi:i<v.cls.length):sJ s.h (v.cls[i]).oop 6=(i:Int)+1:=by
 have:=h.shape.many1;unfold sJ;rw [h.c6 hi];exact AE (by omega) (by omega)
theorem KAllW.name (h:KAllW s t v){i:Nat} (hi:i<v.cls.length):kQ s.h t (v.cls[i]).oop 0=tx t (v.cls[i]).name:=by
 unfold kQ;rw [h.ks.c0 hi];exact nG h.names.wf (h.names.name _ (UQ hi))
theorem KAllW.gname (h:KAllW s t v){i:Nat} (hi:i<v.glob.length):kQ s.h t v.globA (2*i:Nat)=tx t v.glob[i].1:=by
 unfold kQ;rw [(h.ks.globAt hi).1];exact nG h.names.wf (h.names.glob _ (UQ hi))
theorem KAllW.ownT (h:KAllW s t v){i:Nat} (hi:i<v.cls.length){j:Nat} (hj:j<(v.cls[i]).own.length):kQ s.h t (v.cls[i]).ownA j=tx t (v.cls[i]).own[j]:=by
 unfold kQ;rw [(h.ks.view.own hi).kslot (i:=j) (by simpa using hj)];simp only [VT];exact nG h.names.wf (h.names.own _ (UQ hi) _ (UQ hj))
theorem KS.ownL (h:KS s v){i:Nat} (hi:i<v.cls.length):ksize s.h (v.cls[i]).ownA=(v.cls[i]).own.length:=by rw [(h.view.own hi).ksize];simp
end
def eK (v:KV) (o:Int):Option Nat:=v.cls.findIdx? fun c=>decide (c.oop=o)
theorem dE {v:KV}{o:Int}{i:Nat} (h:eK v o=some i):∃ hi:i<v.cls.length,(v.cls[i]).oop=o:=by
 unfold eK at h;rw [V3] at h;obtain ⟨hi,h1,_⟩:=h;exact ⟨hi,by simpa using h1⟩
theorem tI {v:KV}{o:Int} (h:eK v o=none):∀ i (hi:i<v.cls.length),(v.cls[i]).oop≠o:=by
 unfold eK at h;rw [Wi] at h;intro i hi;simpa using h _ (UQ hi)
theorem KS.idx {s:SP}{v:KV} (h:KS s v){i:Nat} (hi:i<v.cls.length):eK v (v.cls[i]).oop=some i:=by
 cases hx:eK v (v.cls[i]).oop with
 | none=>exact absurd rfl (tI hx i hi)
 | some j =>
  obtain ⟨hj,e⟩:=dE hx;rw [h.view.inj hj hi e]
def fE (v:KV) (t:TB) (name:ByteArray):Int × Int:=match v.cls.findIdx? (fun c=>decide (tx t c.name=name)) with
 | some i=>((v.cls.getD i ⟨0,0,0,[],0,0,0,[],[],0⟩).oop,0)
 | none=>(0,130)
def dt (v:KV) (i:Nat):Int:=match v.cls[i]? with
 | some c=>if c.up=1 then 0 else c.up
 | none=>0
def upIdx (v:KV) (i:Nat):Option Nat:=eK v (dt v i)
def cF (v:KV) (i:Nat):List Nat:=match v.cls[i]? with
 | none=>[]
 | some c=>match upIdx v i with
  | some j=>if j<i then cF v j++c.own else c.own
  | none=>c.own
termination_by i
theorem KS.upI {s:SP}{v:KV} (h:KS s v){i:Nat} (hi:i<v.cls.length):(i=0∧dt v i=0∧upIdx v i=none)∨(∃ j,∃ hj:j<v.cls.length,j<i∧dt v i=(v.cls[j]).oop∧(v.cls[i]).up=(v.cls[j]).oop∧upIdx v i=some j):=by
 have e:dt v i=if (v.cls[i]).up=1 then 0 else (v.cls[i]).up:=by unfold dt;rw [UF hi]
 by_cases h0:i=0
 ·left;have hu:(v.cls[i]).up=1:=(h.up1 hi).2 h0;rw [Ur hu] at e;refine ⟨h0,e,?_⟩;unfold Kw.upIdx;rw [e];cases hx:eK v 0 with
  | none=>rfl
  | some j =>
   obtain ⟨hj,e'⟩:=dE hx
   have:=((h.view.cls hj).bnd h.wf.h).1;omega
 ·right;obtain ⟨j,hj,aa,e'⟩:=h.shape.ups i hi (by omega);have hu:(v.cls[i]).up≠1:=fun hx=>h0 ((h.up1 hi).1 hx);rw [Uq hu] at e;refine ⟨j,hj,aa,by rw [e,e'],e'.symm,?_⟩;unfold Kw.upIdx;rw [e,←e'];exact h.idx hj
theorem KS.fields0 {s:SP}{v:KV} (h:KS s v) (h0:0<v.cls.length):cF v 0=(v.cls[0]).own:=by
 rw [cF,UF h0];rcases h.upI h0 with ⟨_,_,e⟩ | ⟨j,_,aa,_⟩
 ·simp only [e]
 ·omega
theorem KS.fieldsS {s:SP}{v:KV} (h:KS s v){i j:Nat} (hi:i<v.cls.length) (hj:j<i) (e:Kw.upIdx v i=some j):cF v i=cF v j++(v.cls[i]).own:=by
 rw [cF,UF hi];simp only [e,Ur hj]
def iA (v:KV) (t:TB):List ByteArray:=v.glob.map fun p=>tx t p.1
end Kw
namespace Kw
open Go
def qQ (r:RH) (w:Int):Int × Int :=
 if aA w=1 then (8,0) else if aA w=2 then (9,0) else if aA w=3 then
  match r.clsAt (w / 4) with
  | (c,e)=>if e=0 then (jN c,0) else (0,e)
 else (0,10)
theorem py {s:SP}{v:KV} (h:KS s v):∀ i:Nat,i<v.cls.length->(cF v i).length<=8192*(i+1):=by
 intro i
 induction i using Nat.strongRecOn with
 | ind i ih =>
  intro hi;have hb:(v.cls[i]).own.length<=8192:=by have:=((h.view.own hi).bnd h.wf.h).2.2.1;simpa using this
  rcases h.upI hi with ⟨h0,_,_⟩ | ⟨j,hj,aa,_,_,e⟩
  ·subst h0;rw [h.fields0 hi];omega
  ·rw [h.fieldsS hi aa e,UP]
   have:=ih j aa hj;omega
end Kw
namespace Kw
open Go
def gB (s:ByteArray) (i:Nat):Nat:=(s[i]?.getD 0).toNat
theorem Eo {s:ByteArray}{i:Nat}{u:UInt8} (h:s[i]?=some u):gB s i=u.toNat:=by unfold gB;rw [h];rfl
def eS (n:Nat):Prop:=(97<=n∧n<=122)∨(65<=n∧n<=90)∨(48<=n∧n<=57)
instance (n:Nat):Decidable (eS n):=inferInstanceAs (Decidable (_∨_∨_))
def jM (lo hi:Nat) (s:ByteArray):Prop:=1<=s.size∧s.size<=32∧lo<=gB s 0∧gB s 0<=hi∧∀ i,i<s.size->eS (gB s i)
noncomputable instance (lo hi:Nat) (s:ByteArray):Decidable (jM lo hi s):=Classical.propDecidable _
def zv (s:ByteArray):Prop:=s=⟨#[115,101,108,102]⟩∨s=⟨#[115,117,112,101,114]⟩∨s=⟨#[110,105,108]⟩∨s=⟨#[116,114,117,101]⟩∨s=⟨#[102,97,108,115,101]⟩
instance (s:ByteArray):Decidable (zv s):=inferInstanceAs (Decidable (_∨_))
def iJ (s:ByteArray):Prop:=¬ zv s∧jM 97 122 s
noncomputable instance (s:ByteArray):Decidable (iJ s):=Classical.propDecidable _
noncomputable instance memBA (s:ByteArray) (l:List ByteArray):Decidable (s∈l):=Classical.propDecidable _
noncomputable def mh (inh pre:List ByteArray):List ByteArray->Int
 | []=>0
 | s :: l=>if ¬ iJ s then 133 else if s∈pre then 134 else if s∈inh then 135 else mh inh (pre++[s]) l
def kn (v:KV) (t:TB) (name:ByteArray):Prop:=(fE v t name).2=0∨name∈iA v t
noncomputable instance (v:KV) (t:TB) (name:ByteArray):Decidable (kn v t name):=Classical.propDecidable _
noncomputable def jL (v:KV) (t:TB) (name sup:ByteArray) (own:List ByteArray):Int × Int :=
 if ¬ jM 65 90 name then (0,133)
 else if kn v t name then (0,131)
 else if (fE v t sup).2≠0 then (0,(fE v t sup).2)
 else match eK v (fE v t sup).1 with
  | none=>(0,130)
  | some j=>if 1<=j∧j<14 then (0,132)
   else if mh ((cF v j).map (tx t)) [] own≠0 then (0,mh ((cF v j).map (tx t)) [] own)
   else if 32<(cF v j).length+own.length then (0,137)
   else if 256<=v.cls.length then (0,138)
   else ((fE v t sup).1,0)
theorem iD (v:KV) (t:TB) (name:ByteArray):(fE v t name=(0,130)∧∀ c∈v.cls,tx t c.name≠name)∨∃ i,∃ hi:i<v.cls.length,fE v t name=((v.cls[i]).oop,0)∧tx t (v.cls[i]).name=name:=by
 unfold fE;cases hx:v.cls.findIdx? (fun c=>decide (tx t c.name=name)) with
 | none =>
  left;rw [Wi] at hx;exact ⟨rfl,fun c hc=>by simpa using hx c hc⟩
 | some i =>
  right;rw [V3] at hx;obtain ⟨hi,h1,_⟩:=hx;exact ⟨i,hi,by simp [hi],by simpa using h1⟩
noncomputable def aO (s:SP) (v:KV) (t:TB) (name sup:ByteArray) (own:List ByteArray):(Int × Int) × SP × TB :=
 if (jL v t name sup own).2≠0 then ((0,(jL v t name sup own).2),s,t) else bM s t v.clsW name (jL v t name sup own).1 own
theorem sH {s:SP}{v:KV}{t:TB} (hv:KAllW s t v){name sup:ByteArray}{own:List ByteArray} (h:(jL v t name sup own).2=0) :
  ∃ j,∃ hj:j<v.cls.length,(jL v t name sup own).1=(v.cls[j]).oop∧v.cls.length<256∧(∀ c∈v.cls,tx t c.name≠name)∧fE v t sup=((v.cls[j]).oop,0)∧eK v (v.cls[j]).oop=some j:=by
 unfold jL at h ⊢;split at h
 ·cases h
 rename_i h1;split at h
 ·cases h
 rename_i h2;split at h
 ·rename_i h3;exact absurd h h3
 rename_i h3;rw [Uq h1,Uq h2,Uq h3];rcases iD v t sup with ⟨e,_⟩ | ⟨j,hj,e,_⟩
 ·rw [e] at h3;simp at h3
 rw [e] at h ⊢;have hp:=hv.ks.idx hj;simp only [hp] at h ⊢;split at h
 ·cases h
 rename_i h4;split at h
 ·rename_i h5;exact absurd h h5
 rename_i h5;split at h
 ·cases h
 rename_i h6;split at h
 ·cases h
 rename_i h7;rw [Uq h4,Uq h5,Uq h6,Uq h7];refine ⟨j,hj,rfl,by omega,?_,rfl,hp⟩;rcases iD v t name with ⟨_,h8⟩ | ⟨i,hi,e',_⟩
 ·exact h8
 ·exact absurd (.inl (by rw [e'])) h2
theorem Aw {v:KV}{t:TB}{name sup:ByteArray}{own:List ByteArray} (h:(jL v t name sup own).2=0):own.length<=32:=by
 unfold jL at h;split at h
 ·cases h
 split at h
 ·cases h
 split at h
 ·rename_i h3;exact absurd h h3
 split at h
 ·cases h
 split at h
 ·cases h
 split at h
 ·rename_i h5;exact absurd h h5
 split at h
 ·cases h
 ·omega
section
def aQ:List (Int × Int):=[(5,0),(6,0),(7,0),(12,7),(12,7),(12,7),(12,7),(12,7),(12,7),(12,7),(12,7),(12,7),(12,7),(12,7),(12,7),(12,7),(12,7),(11,0),(11,8),(11,14)]
def RH.allocAll (r:RH):List (Int × Int)->Int × RH
 | []=>(0,r)
 | (c,n) :: l=>if (r.alloc (4*c) n 0).1.2≠0 then ((r.alloc (4*c) n 0).1.2,(r.alloc (4*c) n 0).2) else RH.allocAll (r.alloc (4*c) n 0).2 l
def xq (p:List RO × Int) (x:Int × Int):List RO × Int:=(p.1++[⟨cM p.1,0,bx p.1,p.2,4*x.1,List.replicate x.2.toNat 4⟩],IntKind.wrap .i64 (p.2+1))
def oU (p:List RO × Int):List (Int × Int)->List RO × Int
 | []=>p
 | x :: l=>oU (xq p x) l
theorem wG {r:RH} (hm:r.mark=0){c n:Int} (h:(r.alloc (4*c) n 0).1.2=0):(r.alloc (4*c) n 0).2={ r with objs:=(xq (r.objs,r.born) (c,n)).1,born:=(xq (r.objs,r.born) (c,n)).2 }:=by
 unfold RH.alloc at h ⊢;split at h
 ·cases h
 rename_i g1;split at h
 ·cases h
 rename_i g2;split at h
 ·cases h
 rename_i g3;split at h
 ·cases h
 rename_i g4;rw [Uq g1,Uq g2,Uq g3,Uq g4];simp [xq,dM,hm]
theorem iS (l:List (Int × Int)):∀ {r:RH},r.mark=0->(r.allocAll l).1=0->(r.allocAll l).2={ r with objs:=(oU (r.objs,r.born) l).1,born:=(oU (r.objs,r.born) l).2 }:=by
 induction l with
 | nil=>intro r _ _;rfl
 | cons x l ih =>
  intro r hm h;obtain ⟨c,n⟩:=x;unfold RH.allocAll at h ⊢;split at h
  ·rename_i hn;exact absurd h hn
  rename_i hn;rw [Uq hn];have e:=wG hm (Uv hn)
  have:=ih (r:=(r.alloc (4*c) n 0).2) (by rw [e];exact hm) h;rw [this,e];rfl
theorem tB (l:List (Int × Int)):∀ {r:RH},WFH r->WFH (r.allocAll l).2:=by
 induction l with
 | nil=>intro r h;exact h
 | cons x l ih =>
  intro r h;obtain ⟨c,n⟩:=x;unfold RH.allocAll;split
  ·exact kC h _ _ _
  ·exact ih (kC h _ _ _)
def cQ:List ByteArray:=[⟨#[79,98,106,101,99,116]⟩,⟨#[85,110,100,101,102,105,110,101,100,79,98,106,101,99,116]⟩,⟨#[70,97,108,115,101]⟩,⟨#[84,114,117,101]⟩,⟨#[73,110,116,101,103,101,114]⟩,⟨#[83,121,109,98,111,108]⟩,⟨#[83,116,114,105,110,103]⟩,⟨#[65,114,114,97,121]⟩,⟨#[67,108,97,115,115]⟩,⟨#[77,101,116,104,111,100]⟩,⟨#[66,108,111,99,107]⟩,⟨#[67,111,110,116,101,120,116]⟩,⟨#[80,114,111,99,101,115,115]⟩,⟨#[77,101,115,115,97,103,101]⟩]
def fC (i:Nat):List Int:=[4*(i:Int)+2,if i=0 then 4 else 16,72,72,72,1,2*((i:Int)+1)+1]
def EW (i:Nat) (r:RH):RH:=((r.lay (4+i) 0 (fC i)).put 20 i (4*(4+i))).2
def kR (r:RH):Nat->RH
 | 0=>r
 | n+1=>EW n (kR r n)
def ut:List Int:=[80,72,72,72,4,8,12]
def bQ (r:RH):RH:=(kR r 14).lay 19 0 ut
def bS:List RO:=(oU ([],0) aQ).1
def cD (words oops:Int):RH:=⟨words,oops,0,0,0,[]⟩
def ba (words oops:Int):RH:=bQ (((cD words oops).allocAll aQ).2)
def ce (words oops:Int):SP:=⟨ba words oops,19,[],false,0,0,0⟩
def bZ:TB:=⟨4096,cQ⟩
def bt:KV:=⟨(List.range 14).map fun i:Nat=>⟨4+i,i,if i=0 then 1 else 4,[],18,18,18,[],[],0⟩,20,[],18,[72,72,4,8,12,4]⟩
def tC:List (Int × List Int):=[(1,[]),(2,[]),(3,[])]++(List.range 14).map (fun i:Nat=>((4+i:Int),fC i))++[(18,[]),(19,[80,72,72,72,4,8,12,4]),(20,(List.range 14).map fun i:Nat=>4*(4+(i:Int)))]
theorem vF (w o m b t:Int):((bQ ⟨w,o,m,b,t,bS⟩).objs.map fun x=>(x.oop,x.slots))=tC:=by kernel_rfl
theorem qU (w o m b t:Int):((bQ ⟨w,o,m,b,t,bS⟩).objs.all fun x=>decide (x.fmt=0) && decide (aA x.cls=3))=true:=by kernel_rfl
theorem yC:(bS.all fun x=>decide (x.fmt=0))=true:=by kernel_rfl
theorem oh:(cQ.all fun s=>decide (cN s))=true:=by kernel_rfl
theorem mi:cQ.Nodup:=by decide +kernel
theorem yY {words oops:Int} (h0:0<=words) (h1:words<=1048576) (h2:0<=oops) (h3:oops<=65536):WFH (cD words oops) :=
 ⟨h0,h1,h2,h3,Vo _,by simp [cD],⟨by simp [cD],by simp [cD]⟩⟩
theorem AH {r:RH} (h:WFH r) (n:Nat):WFH (kR r n):=by
 induction n with
 | zero=>exact h
 | succ n ih=>exact mN (vX ih _ _ _) _ _ _
theorem A4 {r:RH} (h:WFH r):WFH (bQ r):=vX (AH h 14) _ _ _
theorem zH:WFT bZ:=⟨by decide,by decide,by decide,mi,fun s hs=>by simpa using VA.1 oh s hs⟩
theorem Bs {i:Nat} (hi:i<cQ.length):TB.add ⟨4096,cQ.take i⟩ cQ[i]=(((i:Int),0),⟨4096,cQ.take (i+1)⟩):=by
 have hg:cN cQ[i]:=by simpa using VA.1 oh _ (UQ hi)
 have hn:dj (cQ.take i) cQ[i]=none:=li.2 fun hm=>by
  obtain ⟨j,hj,e⟩:=VK hm;rw [Wt] at e
  have:=(List.getElem_inj mi).1 e;simp only [U4] at hj;omega
 have In:cQ.length=14:=rfl;unfold TB.add;rw [Uq (by simpa using hg)];simp only [hn];rw [Uq (by simp only [U4];omega)];have e1:(cQ.take i).length=i:=by rw [U4];omega
 rw [e1,Vj,UF hi];rfl
theorem yp:(bt.roles.all fun p=>decide (p∈tC))=true:=by kernel_rfl
theorem BV:HG bt:=by unfold HG;decide +kernel
theorem lX {words oops:Int} (h:((cD words oops).allocAll aQ).1=0):(ba words oops).objs=(bQ ⟨words,oops,0,20,0,bS⟩).objs:=by
 have e:((cD words oops).allocAll aQ).2=⟨words,oops,0,20,0,bS⟩:=by
  rw [iS aQ (r:=cD words oops) rfl h]
  kernel_rfl
 unfold ba;rw [e]
theorem oL {words oops:Int} (hw:WFH (ba words oops)) (h:((cD words oops).allocAll aQ).1=0){p:kO} (hp:p∈tC):gd (ba words oops) p.1 p.2:=by
 have e:=lX h;rw [←vF words oops 0 20 0,←e] at hp;obtain ⟨x,hx,rfl⟩:=UM.1 hp;have hf:=qU words oops 0 20 0;rw [←e] at hf
 have:=VA.1 hf x hx;simp only [U3,decide_eq_true_eq] at this;exact ⟨x,cY hw.objs hx,this.1,rfl⟩
theorem gu (i:Nat) (hi:i<bt.cls.length):bt.cls[i]=⟨4+i,i,if i=0 then 1 else 4,[],18,18,18,[],[],0⟩:=by simp [bt]
theorem rM {words oops:Int} (h0:0<=words) (h1:words<=1048576) (h2:0<=oops) (h3:oops<=65536):WFH (ba words oops):=by
 unfold ba;exact A4 (tB _ (yY h0 h1 h2 h3))
attribute [local irreducible] ba
theorem mB {words oops:Int} (h0:0<=words) (h1:words<=1048576) (h2:0<=oops) (h3:oops<=65536) (h:((cD words oops).allocAll aQ).1=0):KAll (ce words oops) bZ bt:=by
 have hw:WFH (ba words oops):=rM h0 h1 h2 h3;have hl:bt.cls.length=14:=rfl;refine ⟨⟨⟨hw,(by decide:(0:Int)<=19),(by decide:(19:Int)<=65536),(U7 _:([]:List Int).length<=65536),fun w hw=>by cases hw⟩,?_,rfl,rfl,?_,BV,?_⟩,⟨zH,?_,?_,?_,?_⟩,rfl⟩
 ·intro x hx;have hf:=qU words oops 0 20 0;rw [←lX h] at hf
  have:=VA.1 hf x hx;simp only [U3,decide_eq_true_eq] at this;exact this.2
 ·intro p hp;exact oL hw h (of_decide_eq_true (VA.1 yp p hp))
 ·refine ⟨rfl,by rw [hl];decide,by rw [hl];decide,by decide,fun _=>?_,fun i hi ly=>?_,fun i hi In=>?_,fun c hc=>?_⟩
  ·rw [gu];exact ⟨rfl,rfl⟩
  ·refine ⟨0,by decide,ly,?_⟩;rw [gu,gu];simp only;rw [Uq (by omega)];rfl
  ·rw [gu]
  ·obtain ⟨i,hi,rfl⟩:=VK hc;rw [gu];simp
 ·intro c hc;obtain ⟨i,hi,rfl⟩:=VK hc;rw [gu];show i<14;rw [hl] at hi;exact hi
 ·intro c hc n hn;obtain ⟨i,hi,rfl⟩:=VK hc;rw [gu] at hn;cases hn
 ·intro p hp;cases hp
 ·have:bt.cls.map (·.name)=List.range 14:=by kernel_rfl
  rw [this];exact List.nodup_range
end
structure RoomyK (r:RH) (k:Nat) (m:Int):Prop where
 mark:r.mark=0
 objs:(r.objs.length:Int)+k<=r.oops
 words:bx r.objs+m<=r.words
theorem RoomyK.less {r:RH}{k k':Nat}{m m':Int} (h:RoomyK r k m) (hk:k'<=k) (hm:m'<=m):RoomyK r k' m':=⟨h.mark,by have:=h.objs;omega,by have:=h.words;omega⟩
theorem qb {r:RH}{k:Nat}{m cls n f:Int} (h:RoomyK r (k+1) (m+lenOf n f)) (hm:0<=m) (hc:cP cls) (hf:f=0∨f=1) (hn:0<=n) (Fd:n<=8192) :
  (r.alloc cls n f)=((cM r.objs,0),{ r with born:=IntKind.wrap .i64 (r.born+1),objs:=r.objs++[dM r cls n f] })∧RoomyK (r.alloc cls n f).2 k m:=by
 have h1:=h.objs;have h2:=h.words;have e:(r.alloc cls n f)=((cM r.objs,0),{ r with born:=IntKind.wrap .i64 (r.born+1),objs:=r.objs++[dM r cls n f] }):=by
  unfold RH.alloc;rw [Uq (by rintro (h3 | h3 | h3 | h3);exact h3 hc;all_goals omega),Uq (by omega),Uq (by omega),Uq (by rw [h.mark];decide),h.mark];rfl
 refine ⟨e,?_⟩;rw [e];refine ⟨h.mark,by simp only [UP,US,Vi];omega,?_⟩;show bx (r.objs++[dM r cls n f])+m<=r.words;rw [dD]
 have:(dM r cls n f).place+(dM r cls n f).len=bx r.objs+lenOf n f:=by
  unfold dM RO.len;simp only [VG];rw [Vh hn]
 rw [this];omega
theorem qr {r:RH}{k:Nat}{m:Int} (h:RoomyK r k m) (o i w:Int):RoomyK (r.put o i w).2 k m:=by
 unfold RH.put;split
 ·exact h
 split
 ·exact h
 split
 ·exact h
 ·refine ⟨h.mark,by simp only [iq,UZ];exact h.objs,?_⟩;show bx (iq r.objs o (eC i w))+m<=r.words;rw [nF (f:=eC i w) (fun _=>rfl) (jg i w)];exact h.words
theorem qk {r:RH}{k:Nat}{m:Int} (h:RoomyK r k m) (o i:Int) (l:List Int):RoomyK (r.lay o i l) k m:=by
 induction l generalizing r i with
 | nil=>exact h
 | cons w l ih=>exact ih (qr h _ _ _) _
theorem tG {s:SP}{k:Nat}{m cls n f:Int} (h:RoomyK s.h (k+1) (m+lenOf n f)) (hm:0<=m) (hc:cP cls) (hf:f=0∨f=1) (hn:0<=n) (Fd:n<=8192) :
  s.alloc cls n f=((4*(s.h.alloc cls n f).1.1,0),{ s with h:=(s.h.alloc cls n f).2 })∧(s.h.alloc cls n f).1.2=0∧RoomyK (s.h.alloc cls n f).2 k m:=by
 obtain ⟨e,hr⟩:=qb h hm hc hf hn Fd;have e0:(s.h.alloc cls n f).1.2=0:=by rw [e]
 refine ⟨?_,e0,hr⟩;unfold SP.alloc;rw [Ur (.inl (by rw [e0];decide)),e0]
theorem qJ {s:SP}{v:KV} (hk:KS s v) (ci:s.stack.length<65536){k:Nat}{m cls:Int}{ws:List Int} (h:RoomyK s.h (k+1) (m+(2+(ws.length:Int)))) (hm:0<=m) (hc:1<=cls∧cls<=65536) (hZ:∀ w∈ws,cP w) (hl:ws.length<=8192) :
  (s.make cls ws).1.2=0∧RoomyK (s.make cls ws).2.h k m:=by
 have hi:cP (4*cls):=by
  unfold cP
  have:=bl (4*cls);omega
 have ai:lenOf (ws.length:Int) 0=2+(ws.length:Int):=by unfold lenOf;rw [Uq (by decide)]
 obtain ⟨e1,e2,hr⟩:=tG (s:=s) (cls:=4*cls) (n:=ws.length) (f:=0) (by rw [ai];exact h) hm hi (.inl rfl) (by omega) (by omega);have ha:=ky hk.wf.h e2;unfold SP.make;rw [e1];simp only [ne_eq,not_true_eq_false,if_false];have hw:cP (4*(s.h.alloc (4*cls) (ws.length:Int) 0).1.1):=by
  unfold cP
  have:=bl (4*(s.h.alloc (4*cls) (ws.length:Int) 0).1.1);omega
 unfold SP.keepW;rw [Uq (by simpa using hw),Uq (by simp only [US,Vi];omega)];exact ⟨rfl,qk hr _ _ _⟩
theorem pq {s:SP}{v:KV} (hk:KS s v) (ci:s.stack.length<65536){k:Nat}{m:Int}{ws:List Int} (h:RoomyK s.h (k+1) (m+(2+(ws.length:Int)))) (hm:0<=m) (hZ:∀ w∈ws,cP w) (hl:ws.length<=8192) :
  (s.array ws).1.2=0∧RoomyK (s.array ws).2.h k m:=by
 unfold SP.array;split
 ·exact ⟨rfl,h.less (by omega) (by omega)⟩
 ·exact qJ hk ci h hm (by decide) hZ hl
theorem sn {s:SP}{k:Nat}{m:Int} (h:RoomyK s.h k m) (i w:Int):RoomyK (s.setRoot i w).2.h k m:=qr h _ _ _
theorem lT (t:TB) (s:ByteArray):(t.add s).2.texts.length<=t.texts.length+1∧(t.add s).2.most=t.most:=by
 unfold TB.add;split
 ·exact ⟨VO _,rfl⟩
 split
 ·exact ⟨VO _,rfl⟩
 ·split
  ·exact ⟨VO _,rfl⟩
  ·exact ⟨by simp,rfl⟩
theorem uA {t:TB}{s:ByteArray} (hg:cN s) (h:(t.texts.length:Int)<t.most):(t.add s).1.2=0:=by
 unfold TB.add;rw [Uq (fun e=>e hg)];split
 ·rfl
 ·rw [Uq (by omega)]
theorem uf {t:TB}{acc:List Int}{l:List ByteArray} (hg:∀ s∈l,cN s) (h:(t.texts.length:Int)+l.length<=t.most):(t.addAll acc l).1.2=0∧(t.addAll acc l).2.texts.length<=t.texts.length+l.length:=by
 induction l generalizing t acc with
 | nil=>exact ⟨rfl,by simp [TB.addAll]⟩
 | cons s l ih =>
  have h1:(t.add s).1.2=0:=uA (hg s (by simp)) (by simp only [US] at h;omega);have h2:=lT t s;unfold TB.addAll;rw [Uq (by rw [h1];simp)]
  have:=ih (t:=(t.add s).2) (acc:=acc++[4*(t.add s).1.1+2]) (fun x hx=>hg x (by simp [hx])) (by simp only [US] at h;rw [h2.2];omega);exact ⟨this.1,by simp only [US];omega⟩
theorem AM {l:List ByteArray}{s:ByteArray}{n:Nat} (h:dj l s=some n):n<l.length:=by
 induction l generalizing n with
 | nil=>cases h
 | cons x l ih =>
  unfold dj at h;split at h
  ·cases h;simp
  ·cases hx:dj l s with
   | none=>rw [hx] at h;cases h
   | some m =>
    rw [hx] at h;cases h
    have:=ih hx;simp only [US];omega
theorem fH {t:TB} (hw:WFT t){acc:List Int}{l:List ByteArray} (ha:∀ w∈acc,cP w):∀ w∈(t.addAll acc l).1.1,cP w:=by
 induction l generalizing t acc with
 | nil=>exact ha
 | cons s l ih =>
  unfold TB.addAll;split
  ·simp
  ·rename_i h0;refine ih (fO hw s) fun w lr=>?_;rcases Uz.1 lr with h1 | h1
   ·exact ha w h1
   ·rw [Uu.1 h1];have h2:=hw.m1;have h3:=hw.len
    have:0<=(t.add s).1.1∧(t.add s).1.1<4096:=by
     unfold TB.add at h0 ⊢;by_cases hg:cN s
     ·rw [Uq (fun e=>e hg)] at h0 ⊢;cases hn:dj t.texts s with
      | some n =>
       have aa:n<t.texts.length:=AM hn;simp only;omega
      | none =>
       rw [hn] at h0;simp only at h0 ⊢;by_cases hm:t.most<=(t.texts.length:Int)
       ·rw [Ur hm] at h0;simp at h0
       ·rw [Uq hm];simp only;omega
     ·rw [Ur hg] at h0;simp at h0
    unfold cP
    have:=bl (4*(t.add s).1.1+2);omega
theorem vA {s:SP}{v:KV}{t:TB} (hk:KS s v) (ci:s.stack.length<65000){c:Int} (hc:1<=c∧c<=65536) (aa:v.cls.length<256){k:Nat}{m:Int} (h:RoomyK s.h (k+1) (m+(2+(v.cls.length+1:Nat)))) (hm:0<=m) :
  (dL s t v.clsW (4*c)).1.2=0∧RoomyK (dL s t v.clsW (4*c)).2.1.h k m∧(dL s t v.clsW (4*c)).2.2=t:=by
 have hZ:∀ w∈v.clsW++[4*c],cP w:=fun w hw=>by
  rcases Uz.1 hw with hw | hw
  ·exact js hk w hw
  ·simp only [Uu] at hw;rw [hw];exact cH hc.1 hc.2
 have hl:(v.clsW++[4*c]).length=v.cls.length+1:=by simp [KV.clsW]
 obtain ⟨e,hr⟩:=pq hk (by omega) (ws:=v.clsW++[4*c]) (by rw [hl];exact h) hm hZ (by omega);unfold dL;rw [Uq (by rw [e];simp)];exact ⟨rfl,sn hr _ _,rfl⟩
theorem vu {s:SP}{v:KV}{t:TB} (hk:KS s v) (ci:s.stack.length<64000){n up l:Int} (hn:cP n) (cx:1<=up∧up<=65536) (hl:cP l) (aa:v.cls.length<256){k:Nat}{m:Int} (h:RoomyK s.h (k+2) (m+(2+(v.cls.length+1:Nat))+9)) (hm:0<=m) :
  (fI s t v.clsW n up l).1.2=0∧RoomyK (fI s t v.clsW n up l).2.1.h k m∧(fI s t v.clsW n up l).2.2=t:=by
 have r0:v.clsW.length=v.cls.length:=by simp [KV.clsW]
 have hZ:=fX (n:=n) (up:=up) (l:=l) (k:=v.clsW.length) hn (cH cx.1 cx.2) hl (by omega);have hsl:(cL n up l v.clsW.length).length=7:=rfl;obtain ⟨e,hr⟩:=qJ hk (by omega) (cls:=12) (ws:=cL n up l v.clsW.length) (k:=k+1) (m:=m+(2+(v.cls.length+1:Nat))) (by rw [hsl];exact h) (by omega) (by decide) hZ (by rw [hsl];decide);obtain ⟨g1,_,_,g4⟩:=kN hk (by omega) (cls:=12) (by decide) hZ;obtain ⟨o,eo,es,o1,o2,_⟩:=g4 e;unfold fI;rw [Uq (by rw [e];simp),eo];exact vA g1 (by rw [es];simp;omega) ⟨o1,o2⟩ aa hr hm
theorem vH {s:SP}{v:KV}{t:TB} (hk:KS s v) (ci:s.stack.length<60000){n up:Int}{ns:List Int} (hn:cP n) (cx:1<=up∧up<=65536) (Je:∀ w∈ns,cP w) (MW:ns.length<=64) (aa:v.cls.length<256){k:Nat}{m:Int} (h:RoomyK s.h (k+3) (m+(2+(v.cls.length+1:Nat))+9+(2+(ns.length:Int)))) (hm:0<=m) :
  (gY s t v.clsW n up ns).1.2=0∧RoomyK (gY s t v.clsW n up ns).2.1.h k m∧(gY s t v.clsW n up ns).2.2=t:=by
 obtain ⟨e,hr⟩:=pq hk (by omega) (ws:=ns) (k:=k+2) (m:=m+(2+(v.cls.length+1:Nat))+9) h (by omega) Je (by omega);obtain ⟨g1,_,⟨l,gl,gl1⟩,g4⟩:=iv hk (by omega) Je;obtain ⟨o,eo,o1,o2,_⟩:=g4 e;unfold gY;rw [Uq (by rw [e];simp),eo];exact vu g1 (by rw [gl];simp;omega) hn cx (cH o1 o2) aa hr hm
theorem yM {s:SP}{v:KV}{t:TB} (hk:KS s v) (ci:s.stack.length<60000) (J1:WFT t){up:Int} (cx:1<=up∧up<=65536) (aa:v.cls.length<256){name:ByteArray}{own:List ByteArray} (hg:cN name) (Ly:∀ s∈own,cN s) (RK:own.length<=32) (ht:(t.texts.length:Int)+1+own.length<=t.most)
  {k:Nat}{m:Int} (h:RoomyK s.h (k+3) (m+(2+(v.cls.length+1:Nat))+9+(2+(own.length:Int)))) (hm:0<=m) :
  (dR s t v.clsW name up own).1.2=0∧RoomyK (dR s t v.clsW name up own).2.1.h k m∧(dR s t v.clsW name up own).2.2.texts.length<=t.texts.length+1+own.length∧(dR s t v.clsW name up own).2.2.most=t.most:=by
 have a1:=uA hg (t:=t) (by omega);have a2:=lT t name;obtain ⟨b1,b2⟩:=uf (t:=(t.add name).2) (acc:=[]) Ly (by rw [a2.2];omega);have b3:=(jv (t.add name).2 [] own).1;have w1:=fO J1 name;have Je:=fH w1 (acc:=[]) (l:=own) (by simp);obtain ⟨ns,c1,c2⟩:=mS (t:=(t.add name).2) [] own b1;have MW:((t.add name).2.addAll [] own).1.1.length=own.length:=by
  have:=congrArg List.length c2;simp only [UZ] at this;rw [c1];simpa using this
 have hn:cP (4*(t.add name).1.1+2):=by
  have:=fH J1 (acc:=[]) (l:=[name]) (by simp) (4*(t.add name).1.1+2) (by simp [TB.addAll,a1]);exact this
 unfold dR;rw [Uq (by rw [a1];simp),Uq (by rw [b1];simp)];obtain ⟨d1,d2,d3⟩:=vH (t:=((t.add name).2.addAll [] own).2) hk ci hn cx Je (by rw [MW];omega) aa (by rw [MW];exact h) hm;exact ⟨d1,d2,by rw [d3];omega,by rw [d3,b3,a2.2]⟩
theorem sN {s:SP}{v:KV}{t:TB} (hk:KS s v) (ci:s.stack.length<60000) (J1:WFT t){up:Int} (cx:1<=up∧up<=65536) (aa:v.cls.length<256){name:ByteArray}{own:List ByteArray} (hg:cN name) (Ly:∀ s∈own,cN s) (RK:own.length<=32) (ht:(t.texts.length:Int)+1+own.length<=t.most)
  {k:Nat}{m:Int} (h:RoomyK s.h (k+3) (m+(2+(v.cls.length+1:Nat))+9+(2+(own.length:Int)))) (hm:0<=m) :
  (bM s t v.clsW name up own).1.2=0∧RoomyK (bM s t v.clsW name up own).2.1.h k m∧(bM s t v.clsW name up own).2.2.texts.length<=t.texts.length+1+own.length∧(bM s t v.clsW name up own).2.2.most=t.most:=by
 obtain ⟨e1,e2,e3,e4⟩:=yM hk ci J1 cx aa hg Ly RK ht h hm;unfold bM lP;simp only [e1,if_true];refine ⟨trivial,?_,e3,e4⟩;unfold SP.drop;split
 ·exact e2
 ·exact e2
end Kw
namespace Kw
open Go
def bV (r:RH) (w:Int):Int:=if (qQ r w).2≠0 then 0 else (qQ r w).1
def nZ (v:KV) (c:Int):Nat->Int->Bool
 | 0,_=>false
 | n+1,o=>if o=0 then false else if o=c then true else match eK v o with
  | some i=>nZ v c n (dt v i)
  | none=>false
def fc (v:KV) (c o:Int):Bool:=nZ v c (v.cls.length+3) o
def cq (r:RH) (w:Int):Int × Int:=if aA w=3 then ((r.size (w / 4)).1,(r.size (w / 4)).2.1) else (0,0)
def dQ (r:RH) (w i:Int):Int:=(r.at (jN w) i).1
def dz (r:RH) (c w:Int):Bool:=if c=12 then decide ((cq r w).1=7) else if c=14 then decide ((cq r w).1=6) && decide (aA (dQ r w 4)=1) else if c=17 then decide ((cq r w).1=2) else true
def tw (x:Bool):Int:=if x then 12 else 8
def kY (v:KV) (o:Int):Nat:=if o=0 then 0 else match eK v o with
 | some i=>i+2
 | none=>1
theorem BC {s:SP}{v:KV} (h:KS s v){o:Int} (ho:o≠0){i:Nat} (hi:eK v o=some i):kY v (dt v i)<kY v o:=by
 obtain ⟨aa,_⟩:=dE hi;have e:kY v o=i+2:=by unfold kY;rw [Uq ho,hi]
 rw [e];rcases h.upI aa with ⟨_,h1,_⟩ | ⟨j,hj,D4,_,_,h2⟩
 ·unfold kY;rw [Ur h1];omega
 ·unfold kY;split
  ·omega
  ·have SZ:eK v (dt v i)=some j:=h2;rw [SZ];simp only;omega
def SP.putW (s:SP) (w i x:Int):Int × SP:=((s.h.put (jN w) i x).1,{ s with h:=(s.h.put (jN w) i x).2 })
def fe (n:Int):Int × Int:=if -1073741824<=n∧n<=1073741823 then (2*n+1,0) else (0,1)
theorem CS {n:Int} (h:-1073741824<=n∧n<=1073741823):fe n=(2*n+1,0):=Ur h
def aV (n x:Int):Int × Int:=if aA x≠1 then (0,170) else if x / 2<1∨n<x / 2 then (0,171) else (x / 2-1,0)
def oa (r:RH) (w x:Int):Int × Int:=if (aV (cq r w).1 x).2≠0 then (0,(aV (cq r w).1 x).2) else fe (dQ r w (aV (cq r w).1 x).1)
def SP.layE (s:SP) (w:Int):Int->List Int->Int × SP
 | _,[]=>(0,s)
 | i,x :: xs=>if (SP.putW s w i x).1≠0 then SP.putW s w i x else SP.layE (SP.putW s w i x).2 w (i+1) xs
noncomputable def SP.makeP (s:SP) (cls fmt:Int) (xs:List Int):(Int × Int) × SP :=
 if (s.alloc (4*cls) xs.length fmt).1.2≠0 then ((0,(s.alloc (4*cls) xs.length fmt).1.2),(s.alloc (4*cls) xs.length fmt).2)
 else ((if ((s.alloc (4*cls) xs.length fmt).2.layE (s.alloc (4*cls) xs.length fmt).1.1 0 xs).1=0 then (s.alloc (4*cls) xs.length fmt).1.1 else 0,((s.alloc (4*cls) xs.length fmt).2.layE (s.alloc (4*cls) xs.length fmt).1.1 0 xs).1),((s.alloc (4*cls) xs.length fmt).2.layE (s.alloc (4*cls) xs.length fmt).1.1 0 xs).2)
def bL (x:ByteArray):List Int:=x.data.toList.map fun u=>(u.toNat:Int)
theorem gz (x:ByteArray):(bL x).length=x.size:=by unfold bL;simp
theorem fB (x:ByteArray):∀ w∈bL x,0<=w∧w<=255:=by
 intro w hw;obtain ⟨u,_,rfl⟩:=UM.1 hw
 have:=u.toNat_lt;omega
def ou (r:RH) (k:Int) (xs:List Int):Prop:=∃ o,aG r.objs k=some o∧o.fmt=1∧o.cls=40∧o.slots=xs
def pg (r r':RH) (k:Int):Prop:=∀ j,j≠k->aG r'.objs j=aG r.objs j
theorem pg.trans {r r' r'':RH}{k:Int} (h:pg r r' k) (h':pg r' r'' k):pg r r'' k:=fun j hj=>(h' j hj).trans (h j hj)
theorem rj (r:RH) (k i w:Int):pg r (r.put k i w).2 k:=by
 intro j hj;unfold RH.put;split
 ·rfl
 split
 ·rfl
 split
 ·rfl
 ·show aG (iq r.objs k (eC i w)) j=_;rw [dG (f:=eC i w) fun _=>rfl];cases ha:aG r.objs j with
  | none=>rfl
  | some a =>
   simp only [Vw]
   have:=(aD ha).2;rw [Uq (by omega)]
theorem eB.same1 {r r':RH}{v:KV} (h:eB r v){k:Int} (hs:pg r r' k) (hk:∀ p∈v.roles,p.1≠k):eB r' v:=fun p hp=>by
 obtain ⟨x,h1,h2,h3⟩:=h p hp;exact ⟨x,by rw [hs _ (hk p hp)];exact h1,h2,h3⟩
end Kw
namespace Kw
open Go
end Kw
namespace Kw
open Go
def jY (l:List (Int × Int)):Int:=(l.map fun p=>2+p.2).sum
theorem qt:∀ (l:List (Int × Int)){r:RH}{k:Nat}{m:Int},RoomyK r (k+l.length) (m+jY l)->0<=m->(∀ p∈l,1<=p.1∧p.1<=65536∧0<=p.2∧p.2<=8192)->(r.allocAll l).1=0∧RoomyK (r.allocAll l).2 k m:=by
 intro l
 induction l with
 | nil=>intro r k m h _ _;exact ⟨rfl,h.less (by simp) (by simp [jY])⟩
 | cons p l ih =>
  intro r k m h hm hp;obtain ⟨c,n⟩:=p;obtain ⟨h1,h2,h3,h4⟩:=hp (c,n) (by simp);simp only at h1 h2 h3 h4;have hi:cP (4*c):=cH h1 h2;have ly:0<=jY l:=by
   have:∀ l:List (Int × Int),(∀ p∈l,0<=p.2)->0<=jY l:=by
    intro l
    induction l with
    | nil=>intro _;simp [jY]
    | cons q l ih2 =>
     intro h;have a1:=h q (by simp);have a2:=ih2 fun x hx=>h x (by simp [hx]);unfold jY at a2 ⊢;simp only [U8,Ww];omega
   exact this l fun q hq=>(hp q (by simp [hq])).2.2.1
  have ai:lenOf n 0=2+n:=by unfold lenOf;rw [Uq (by decide)]
  have hR:RoomyK r ((k+l.length)+1) ((m+jY l)+lenOf n 0):=by
   rw [ai];refine h.less (by simp only [US];omega) ?_;unfold jY;simp only [U8,Ww];omega
  obtain ⟨e1,hr⟩:=qb (cls:=4*c) hR (by omega) hi (.inl rfl) h3 h4;unfold RH.allocAll;have e0:(r.alloc (4*c) n 0).1.2=0:=by rw [e1]
  rw [Uq (by rw [e0];simp)];exact ih hr hm fun q hq=>hp q (by simp [hq])
theorem vS {k:Nat}{m:Int}:∀ (n:Nat){r:RH},RoomyK r k m->RoomyK (kR r n) k m:=by
 intro n
 induction n with
 | zero=>intro r h;exact h
 | succ n ih =>
  intro r h;unfold kR EW;exact qr (qk (ih h) _ _ _) _ _ _
theorem nh {words oops:Int}{k:Nat}{m:Int} (hw:words=160+m) (ho:oops=20+k) (hm:0<=m):((cD words oops).allocAll aQ).1=0∧RoomyK (ba words oops) k m:=by
 have h0:RoomyK (cD words oops) (k+aQ.length) (m+jY aQ):=by
  refine ⟨rfl,?_,?_⟩
  ·show ((0:Nat):Int)+((k+20:Nat):Int)<=oops;omega
  ·show (0:Int)+(m+jY aQ)<=words
   have:jY aQ=160:=by decide
   omega
 obtain ⟨e1,e2⟩:=qt aQ h0 hm (by decide);refine ⟨e1,?_⟩;unfold ba bQ;exact qk (vS 14 e2) _ _ _
abbrev cn:ByteArray:=⟨#[80,97,105,114]⟩
abbrev fy:ByteArray:=⟨#[79,98,106,101,99,116]⟩
abbrev xB:ByteArray:=⟨#[120]⟩
abbrev yB:ByteArray:=⟨#[121]⟩
theorem nE {lo hi:Nat}{s:ByteArray} (h1:1<=s.size) (h2:s.size<=32) (h3:lo<=gB s 0) (h4:gB s 0<=hi) (h:(List.range s.size).all (fun i=>decide (eS (gB s i)))=true):jM lo hi s :=
 ⟨h1,h2,h3,h4,fun i hi=>by simpa using VA.1 h i (Wo.2 hi)⟩
theorem wV {words oops:Int} (hb:KAll (ce words oops) bZ bt):jL bt bZ cn fy [xB,yB]=(4,0):=by
 have hf:cF bt 0=[]:=hb.ks.fields0 (by decide);have n1:jM 65 90 cn:=nE (by decide) (by decide) (by decide) (by decide) (by decide);have f1:iJ xB:=⟨by decide,nE (by decide) (by decide) (by decide) (by decide) (by decide)⟩;have f2:iJ yB:=⟨by decide,nE (by decide) (by decide) (by decide) (by decide) (by decide)⟩;have e1:fE bt bZ cn=(0,130):=by decide
 have e2:fE bt bZ fy=(4,0):=by decide
 have e3:eK bt 4=some 0:=by decide
 have t1:¬ kn bt bZ cn:=by
  unfold kn;rw [e1];rintro (h | h)
  ·simp at h
  ·simp [iA,bt] at h
 have o1:mh ([]:List ByteArray) [] [xB,yB]=0:=by
  unfold mh mh mh;rw [Uq (fun h=>h f1),Uq (by simp),Uq (by simp),Uq (fun h=>h f2),Uq (by simp),Uq (by simp)]
 unfold jL;rw [Uq (fun h=>h n1),Uq t1,e2,Uq (by simp)];simp only [e3];rw [Uq (by omega),hf];simp only [VP,o1];rw [Uq (by simp),Uq (by simp),Uq (by decide)]
end Kw
namespace Kw
open Go
attribute [local irreducible] ba bQ bS
theorem rC {words oops:Int}{k:Nat}{m:Int} (hw:words=160+(m+30)) (ho:oops=20+((k+3:Nat):Int)) (hm:0<=m) (h1:words<=1048576) (h2:oops<=65536) :
  (aO (ce words oops) bt bZ cn fy [xB,yB]).1.2=0∧RoomyK (aO (ce words oops) bt bZ cn fy [xB,yB]).2.1.h k m∧(aO (ce words oops) bt bZ cn fy [xB,yB]).2.2.texts.length<=17∧(aO (ce words oops) bt bZ cn fy [xB,yB]).2.2.most=4096 ∧
  ∃ n ns l d,KAll (aO (ce words oops) bt bZ cn fy [xB,yB]).2.1 (aO (ce words oops) bt bZ cn fy [xB,yB]).2.2 (bt.addC ⟨(aO (ce words oops) bt bZ cn fy [xB,yB]).1.1,n,4,ns,l,18,18,[],[],0⟩ d):=by
 obtain ⟨e0,hR⟩:=nh (k:=k+3) (m:=m+30) hw ho (by omega);have hb:=mB (words:=words) (oops:=oops) (by omega) h1 (by omega) h2 e0;have hd:=wV hb;have e:aO (ce words oops) bt bZ cn fy [xB,yB]=bM (ce words oops) bZ bt.clsW cn 4 [xB,yB]:=by
  unfold aO;rw [Uq (by rw [hd];simp),hd]
 rw [e];have g1:cN cn:=by decide
 have g2:∀ s∈[xB,yB],cN s:=by
  intro s hs;simp only [Us,UO,U5] at hs;rcases hs with rfl | rfl <;> decide
 obtain ⟨a1,a2,a3,a4⟩:=sN (k:=k) (m:=m) hb.ks (by rw [hb.stack];decide) hb.names.wf (up:=4) (by decide) (by decide) g1 g2 (by decide) (by decide) (by
  have:bt.cls.length=14:=rfl;rw [this];have h2l:([xB,yB]:List ByteArray).length=2:=rfl;rw [h2l];exact hR.less (by omega) (by omega)) hm
 have tc:∀ c∈bt.cls,tx bZ c.name≠cn:=by decide
 have hk:=(lB hb (j:=0) (by decide) (by decide) (name:=cn) (own:=[xB,yB]) tc).2;have e4:(bt.cls[0]'(by decide)).oop=4:=rfl;rw [e4] at hk;obtain ⟨n,ns,l,d,al,_⟩:=hk a1;exact ⟨a1,a2,a3,a4,n,ns,l,d,al⟩
end Kw
namespace Kw
open Go
section
structure Tight (W O:Int) (r:RH):Prop where
 words:r.words=W
 oops:r.oops=O
 cls:∀ x∈r.objs,∃ c:Int,4<=c∧c<=17∧x.cls=4*c
theorem nV {W O:Int}{r:RH} (h:Tight W O r){c:Int} (hc:4<=c∧c<=17) (n f:Int):Tight W O (r.alloc (4*c) n f).2:=by
 unfold RH.alloc;split
 ·exact h
 split
 ·exact h
 split
 ·exact h
 split
 ·exact ⟨h.words,h.oops,h.cls⟩
 ·refine ⟨h.words,h.oops,fun o ho=>?_⟩;simp only [Uz,Uu] at ho;rcases ho with ho | rfl
  ·exact h.cls o ho
  ·exact ⟨c,hc.1,hc.2,rfl⟩
theorem rv {W O:Int}{r:RH} (h:Tight W O r) (k i w:Int):Tight W O (r.put k i w).2:=by
 unfold RH.put;split
 ·exact h
 split
 ·exact h
 split
 ·exact h
 ·refine ⟨h.words,h.oops,fun o ho=>?_⟩;simp only [iq,UM] at ho;obtain ⟨x,hx,rfl⟩:=ho;split
  ·exact h.cls x hx
  ·exact h.cls x hx
theorem ol {W O:Int}{r:RH} (h:Tight W O r) (k:Int):Tight W O (r.marks k).2:=by
 unfold RH.marks;split
 ·exact ⟨h.words,h.oops,h.cls⟩
 ·exact h
theorem wi {W O:Int}{r:RH} (h:Tight W O r) (l:List Int):Tight W O (r.keep l).2:=by
 unfold RH.keep;split
 ·exact h
 ·refine ⟨h.words,h.oops,fun o ho=>?_⟩;obtain ⟨x,hx,e,_⟩:=gn ho
  have:=h.cls x (U6.1 hx).1;rw [e];exact this
theorem ze {W O:Int}{r:RH} (h:Tight W O r) (o i:Int) (l:List Int):Tight W O (r.lay o i l):=by
 induction l generalizing r i with
 | nil=>exact h
 | cons w l ih=>exact ih (rv h _ _ _) _
theorem tf {W O:Int}{s:SP} (h:Tight W O s.h){c:Int} (hc:4<=c∧c<=17) (n f:Int):Tight W O (s.alloc (4*c) n f).2.h:=by
 unfold SP.alloc;split
 ·exact nV h hc _ _
 ·exact nV (wi h _) hc _ _
theorem wQ (s:SP) (ws:List Int):(s.keepW ws).2.h=s.h:=by
 unfold SP.keepW;split
 ·rfl
 split <;> rfl
theorem vC (s:SP) (n:Int):(s.drop n).2.h=s.h:=by
 unfold SP.drop;split <;> rfl
theorem jt {W O:Int}{s:SP} (h:Tight W O s.h){c:Int} (hc:4<=c∧c<=17) (ws:List Int):Tight W O (s.make c ws).2.h:=by
 have ha:=tf h hc ws.length 0;unfold SP.make;split
 ·exact ha
 ·rw [wQ];exact ze ha _ _ _
theorem fG {W O:Int}{s:SP} (h:Tight W O s.h) (ws:List Int):Tight W O (s.array ws).2.h:=by
 unfold SP.array;split
 ·exact h
 ·exact jt h ⟨by decide,by decide⟩ _
theorem qu {W O:Int}{s:SP} (h:Tight W O s.h) (i w:Int):Tight W O (s.setRoot i w).2.h:=rv h _ _ _
theorem vW {W O:Int}{s:SP} (h:Tight W O s.h) (t:TB) (cw:List Int) (name:ByteArray) (up:Int) (own:List ByteArray):Tight W O (dR s t cw name up own).2.1.h:=by
 unfold dR;split
 ·exact h
 split
 ·exact h
 unfold gY;split
 ·exact fG h _
 unfold fI;split
 ·exact jt (fG h _) ⟨by decide,by decide⟩ _
 unfold dL;split
 ·exact fG (jt (fG h _) ⟨by decide,by decide⟩ _) _
 ·exact qu (fG (jt (fG h _) ⟨by decide,by decide⟩ _) _) _ _
theorem wh {W O:Int}{s:SP} (h:Tight W O s.h) (t:TB) (m c k e:Int):Tight W O (lP s t m c k e).1.h:=by
 unfold lP;split
 ·rw [vC];exact h
 ·show Tight W O (if e=24 then s.h else (s.h.marks m).2);split
  ·exact h
  ·exact ol h _
theorem rO (t:TB) (x:ByteArray):(t.add x).1.2≠24:=by
 unfold TB.add;split
 ·simp
 split
 ·simp
 split <;> simp
theorem se (own:List ByteArray):∀ (t:TB) (ns:List Int),(t.addAll ns own).1.2≠24:=by
 induction own with
 | nil=>intro t ns;unfold TB.addAll;simp
 | cons x l ih =>
  intro t ns;unfold TB.addAll;split
  ·exact rO t x
  ·exact ih _ _
theorem vf {r:RH}{c n f:Int} (h:(r.alloc c n f).1.2=24):(r.alloc c n f).2.mark=0:=by
 unfold RH.alloc at h ⊢;split
 ·rename_i h1;rw [Ur h1] at h;cases h
 rename_i h1;rw [Uq h1] at h;split
 ·rename_i h2;rw [Ur h2] at h;cases h
 rename_i h2;rw [Uq h2] at h;split
 ·rename_i h3;rw [Ur h3] at h;cases h
 rename_i h3;rw [Uq h3] at h;split
 ·rfl
 ·rename_i h4;rw [Uq h4] at h;cases h
theorem ya {s:SP}{c n f:Int} (h:(s.alloc c n f).1.2=24):(s.alloc c n f).2.h.mark=0:=by
 unfold SP.alloc at h ⊢;split
 ·rename_i h1;rw [Ur h1] at h;exact vf h
 ·rename_i h1;rw [Uq h1] at h;exact vf h
theorem tA (s:SP) (ws:List Int):(s.keepW ws).1≠24:=by
 unfold SP.keepW;split
 ·simp
 split <;> simp
theorem xg {s:SP}{c:Int}{ws:List Int} (h:(s.make c ws).1.2=24):(s.make c ws).2.h.mark=0:=by
 unfold SP.make at h ⊢;split
 ·rename_i h1;rw [Ur h1] at h;exact ya h
 ·rename_i h1;rw [Uq h1] at h;exact absurd h (tA _ _)
theorem uj {s:SP}{ws:List Int} (h:(s.array ws).1.2=24):(s.array ws).2.h.mark=0:=by
 unfold SP.array at h ⊢;split
 ·rename_i h1;rw [Ur h1] at h;cases h
 ·rename_i h1;rw [Uq h1] at h;exact xg h
theorem CD {s:SP}{t:TB}{cw:List Int}{name:ByteArray}{up:Int}{own:List ByteArray} (h:(dR s t cw name up own).1.2=24):(dR s t cw name up own).2.1.h.mark=0:=by
 unfold dR at h ⊢;split
 ·rename_i h1;rw [Ur h1] at h;exact absurd h (rO _ _)
 rename_i h1;rw [Uq h1] at h;split
 ·rename_i h2;rw [Ur h2] at h;exact absurd h (se _ _ _)
 rename_i h2;rw [Uq h2] at h;unfold gY at h ⊢;split
 ·rename_i h3;rw [Ur h3] at h;exact uj h
 rename_i h3;rw [Uq h3] at h;unfold fI at h ⊢;split
 ·rename_i h4;rw [Ur h4] at h;exact xg h
 rename_i h4;rw [Uq h4] at h;unfold dL at h ⊢;split
 ·rename_i h5;rw [Ur h5] at h;exact uj h
 ·rename_i h5;rw [Uq h5] at h;cases h
theorem vY {r:RH} (h:WFH r) (r':RH):(r'.marks r.mark).2.mark=r.mark:=by
 unfold RH.marks;rw [Ur ⟨h.m0,h.m1⟩]
structure Tame (v:KV):Prop where
 rest:v.rest=[72,72,4,8,12,4]
 glob:∀ p∈v.glob,p.2=4
 cls:∀ c∈v.cls,c.selA=18∧c.metA=18∧c.sels=[]∧c.mets=[]
def KV.roles2 (v:KV):List kO:=(2,[]) :: (3,[]) :: v.roles
structure K2 (W O:Int) (s:SP) (t:TB) (v:KV):Prop where
 all:KAll s t v
 tame:Tame v
 tight:Tight W O s.h
 o2:gd s.h 2 []
 o3:gd s.h 3 []
theorem K2.view {W O:Int}{s:SP}{t:TB}{v:KV} (h:K2 W O s t v):∀ p∈v.roles2,gd s.h p.1 p.2:=fun p hp=>by
 simp only [KV.roles2,Us] at hp;rcases hp with rfl | rfl | hp
 ·exact h.o2
 ·exact h.o3
 ·exact h.all.ks.view p hp
theorem iX {v:KV}{i:Nat} (hi:i<v.cls.length):((v.cls[i]).oop,(v.cls[i]).slots i)∈v.roles2:=by
 simp only [KV.roles2,KV.roles,Us];exact .inr (.inr (.inr (.inr (.inr (.inr (.inr (fw hi (by simp [crole]))))))))
theorem zK {v:KV}{i:Nat} (hi:i<v.cls.length):((v.cls[i]).ownA,(v.cls[i]).own.map fJ)∈v.roles2:=by
 simp only [KV.roles2,KV.roles,Us];exact .inr (.inr (.inr (.inr (.inr (.inr (.inr (fw hi (by simp [crole]))))))))
theorem pA (n:Nat):aA (fJ n)≠3:=by
 unfold fJ;have:=bl (4*(n:Int)+2);omega
theorem yQ {l:List (Nat × Int)}{w:Int} (h:w∈fV l):(∃ n,w=fJ n)∨∃ p∈l,w=p.2:=by
 induction l with
 | nil=>cases h
 | cons p l ih =>
  obtain ⟨n,x⟩:=p;simp only [fV,Us] at h;rcases h with rfl | rfl | h
  ·exact .inl ⟨n,rfl⟩
  ·exact .inr ⟨(n,w),by simp,rfl⟩
  ·rcases ih h with h | ⟨p,hp,e⟩
   ·exact .inl h
   ·exact .inr ⟨p,by simp [hp],e⟩
theorem sQ {v:KV} (hs:KShape v) (ht:Tame v){p:kO} (hp:p∈v.roles2){w:Int} (hw:w∈p.2) (hk:aA w=3):∃ q∈v.roles2,q.1=w / 4:=by
 have r1:((1,[]):kO)∈v.roles2:=by simp [KV.roles2,KV.roles]
 have r18:((18,[]):kO)∈v.roles2:=by simp [KV.roles2,KV.roles]
 have r2:((2,[]):kO)∈v.roles2:=by simp [KV.roles2]
 have r3:((3,[]):kO)∈v.roles2:=by simp [KV.roles2]
 simp only [KV.roles2,KV.roles,Us] at hp;rcases hp with rfl | rfl | rfl | rfl | rfl | rfl | rfl | hp
 ·cases hw
 ·cases hw
 ·simp only [KV.rootW,ht.rest,Us,UO,U5] at hw;rcases hw with rfl | rfl | rfl | rfl | rfl | rfl | rfl | rfl
  ·exact ⟨(v.clsA,v.clsW),by simp [KV.roles2,KV.roles],by show v.clsA=_;omega⟩
  ·exact ⟨(v.globA,fV v.glob),by simp [KV.roles2,KV.roles],by show v.globA=_;omega⟩
  ·exact ⟨_,r18,rfl⟩
  ·exact ⟨_,r18,rfl⟩
  ·exact ⟨_,r1,rfl⟩
  ·exact ⟨_,r2,rfl⟩
  ·exact ⟨_,r3,rfl⟩
  ·exact ⟨_,r1,rfl⟩
 ·simp only [KV.clsW,UM] at hw;obtain ⟨c,hc,rfl⟩:=hw;obtain ⟨i,hi,rfl⟩:=VK hc;exact ⟨_,iX hi,by show (v.cls[i]).oop=_;omega⟩
 ·rcases yQ hw with ⟨n,rfl⟩ | ⟨p,hp,rfl⟩
  ·exact absurd hk (pA n)
  ·rw [ht.glob p hp];exact ⟨_,r1,rfl⟩
 ·cases hw
 ·cases hw
 ·obtain ⟨i,hi,hp⟩:=rP hp;rw [UE] at hp;obtain ⟨t1,t2,t3,t4⟩:=ht.cls _ (UQ hi);simp only [crole,Us,UO,U5] at hp;rcases hp with rfl | rfl | rfl | rfl
  ·simp only [CV.slots,Us,UO,U5] at hw;rcases hw with rfl | rfl | rfl | rfl | rfl | rfl | rfl
   ·exact absurd hk (pA _)
   ·by_cases h0:0<i
    ·obtain ⟨j,hj,_,e⟩:=hs.ups i hi h0;exact ⟨_,iX hj,by show (v.cls[j]).oop=_;omega⟩
    ·have S0:i=0:=by omega
     subst S0;refine ⟨_,r1,?_⟩
     have:=(hs.up0 hi).1;show (1:Int)=_;omega
   ·exact ⟨_,zK hi,by show (v.cls[i]).ownA=_;omega⟩
   ·rw [t1];exact ⟨_,r18,rfl⟩
   ·rw [t2];exact ⟨_,r18,rfl⟩
   ·exfalso
    have:=bl (2*(v.cls[i]).lay+1);omega
   ·exfalso
    have:=bl (2*((i:Int)+1)+1);omega
  ·simp only [UM] at hw;obtain ⟨n,_,rfl⟩:=hw;exact absurd hk (pA n)
  ·rw [t3] at hw;cases hw
  ·rw [t4] at hw;cases hw
theorem qj {W O:Int}{s:SP}{t:TB}{v:KV} (h:K2 W O s t v){p:kO} (hp:p∈v.roles2):Reaches s.h s.roots p.1:=by
 have hr:=h.all.ks.reach;have LY:=hr (19,v.rootW) (by simp [KV.roles]);simp only [KV.roles2,Us] at hp;rcases hp with rfl | rfl | hp
 ·exact LY.arr h.all.ks.view.root (by decide) (by decide) h.o2.there (by simp [KV.rootW,h.tame.rest])
 ·exact LY.arr h.all.ks.view.root (by decide) (by decide) h.o3.there (by simp [KV.rootW,h.tame.rest])
 ·exact hr p hp
theorem K2.marks {W O:Int}{s:SP}{t:TB}{v:KV} (h:K2 W O s t v) (k:Int):K2 W O { s with h:=(s.h.marks k).2 } t v :=
 ⟨h.all.marks k,h.tame,ol h.tight k,h.o2.keep (gN k) trivial,h.o3.keep (gN k) trivial⟩
theorem K2.both {W O:Int}{s:SP}{t:TB}{v:KV} (h:K2 W O s t v){r':RH} (hk:bT s.h r' fun k=>Reaches s.h s.roots k∧k≠19):gd r' 2 []∧gd r' 3 [] :=
 ⟨h.o2.keep hk ⟨qj h (p:=(2,[])) (by simp [KV.roles2]),by decide⟩,h.o3.keep hk ⟨qj h (p:=(3,[])) (by simp [KV.roles2]),by decide⟩⟩
theorem iY {s:SP}{r:RH}{P:Int->Prop} (h:bT r s.h P) (t:TB) (m c k e:Int):bT r (lP s t m c k e).1.h P:=by
 unfold lP;split
 ·rw [vC];exact h
 ·show bT r (if e=24 then s.h else (s.h.marks m).2) P;split
  ·exact h
  ·exact h.trans ((gN m).mono fun _ _=>trivial)
theorem vT (inh:List ByteArray) (own:List ByteArray):∀ pre,mh inh pre own≠24:=by
 induction own with
 | nil=>intro pre;unfold mh;decide
 | cons x l ih =>
  intro pre;unfold mh;split
  ·decide
  split
  ·decide
  split
  ·decide
  ·exact ih _
theorem vO {s:SP}{v:KV}{t:TB} (name sup:ByteArray) (own:List ByteArray):(jL v t name sup own).2≠24:=by
 unfold jL;split
 ·decide
 split
 ·decide
 split
 ·rcases iD v t sup with ⟨e,_⟩ | ⟨j,hj,e,_⟩ <;> rw [e] <;> simp
 split
 ·decide
 split
 ·decide
 split
 ·exact vT _ _ _
 split
 ·decide
 split <;> simp
theorem we {W O:Int}{s:SP}{t:TB}{v:KV} (h:K2 W O s t v) (name sup:ByteArray) (own:List ByteArray) :
  ((aO s v t name sup own).1.2≠0->(aO s v t name sup own).1.1=0∧K2 W O (aO s v t name sup own).2.1 t v∧(aO s v t name sup own).2.2=t ∧
   ((aO s v t name sup own).1.2≠24->(aO s v t name sup own).2.1.h.mark=s.h.mark)∧((aO s v t name sup own).1.2=24->(aO s v t name sup own).2.1.h.mark=0)) ∧
  ((aO s v t name sup own).1.2=0->∃ j,∃ hj:j<v.cls.length,∃ n ns l d,fE v t sup=((v.cls[j]).oop,0) ∧
   K2 W O (aO s v t name sup own).2.1 (aO s v t name sup own).2.2 (v.addC ⟨(aO s v t name sup own).1.1,n,(v.cls[j]).oop,ns,l,18,18,[],[],0⟩ d) ∧
   (∃ m,(aO s v t name sup own).2.2.texts=t.texts++m)∧tx (aO s v t name sup own).2.2 n=name∧ns.map (tx (aO s v t name sup own).2.2)=own):=by
 unfold aO;by_cases hd:(jL v t name sup own).2=0
 ·rw [Uq (by simpa using hd)];obtain ⟨j,hj,ej,aa,tc,hf,_⟩:=sH h.all.w hd;rw [ej];have D:=oR h.all.ks (by rw [h.all.stack];simp) hj aa h.all.names.wf name own;have A:=lB h.all hj aa (name:=name) (own:=own) tc;have T:=vW h.tight t v.clsW name (v.cls[j]).oop own;have M:=@CD s t v.clsW name (v.cls[j]).oop own;have e2:(bM s t v.clsW name (v.cls[j]).oop own).1.2=(dR s t v.clsW name (v.cls[j]).oop own).1.2:=rfl;have ht:Tight W O (bM s t v.clsW name (v.cls[j]).oop own).2.1.h:=wh T _ _ _ _ _;have hb:=h.both (r':=(bM s t v.clsW name (v.cls[j]).oop own).2.1.h) (iY D.keep _ _ _ _ _);refine ⟨fun he=>?_,fun he=>?_⟩
  ·obtain ⟨a1,a2,a3,_⟩:=A.1 he;have a2':=a2;rw [a3] at a2';refine ⟨a1,⟨a2',h.tame,ht,hb.1,hb.2⟩,a3,fun Jn=>?_,fun Jn=>?_⟩
   ·rw [e2] at he Jn;unfold bM lP;simp only;rw [Uq he,Uq Jn];exact vY h.all.ks.wf.h _
   ·rw [e2] at he Jn
    have:=M Jn;unfold bM lP;simp only;rw [Uq he,Ur Jn];exact this
  ·obtain ⟨n,ns,l,d,a1,a2,a3,a4⟩:=A.2 he;refine ⟨j,hj,n,ns,l,d,hf,⟨a1,⟨h.tame.rest,h.tame.glob,fun c hc=>?_⟩,ht,hb.1,hb.2⟩,a2,a3,a4⟩;simp only [KV.addC,Uz,Uu] at hc;rcases hc with hc | rfl
   ·exact h.tame.cls c hc
   ·exact ⟨rfl,rfl,rfl,rfl⟩
 ·rw [Ur hd];exact ⟨fun _=>⟨rfl,h,rfl,fun _=>rfl,fun Jn=>absurd Jn (vO (s:=s) _ _ _)⟩,fun he=>absurd he hd⟩
theorem zl (w o m b t:Int):((bQ ⟨w,o,m,b,t,bS⟩).objs.all fun x=>decide (4<=x.cls / 4) && decide (x.cls / 4<=17) && decide (x.cls=4*(x.cls / 4)))=true:=by kernel_rfl
theorem wA (w o m b t:Int):(bQ ⟨w,o,m,b,t,bS⟩).words=w∧(bQ ⟨w,o,m,b,t,bS⟩).oops=o:=⟨by kernel_rfl,by kernel_rfl⟩
theorem vx {words oops:Int} (h:((cD words oops).allocAll aQ).1=0):Tight words oops (ba words oops):=by
 have e:((cD words oops).allocAll aQ).2=⟨words,oops,0,20,0,bS⟩:=by
  rw [iS aQ (r:=cD words oops) rfl h]
  kernel_rfl
 unfold ba;rw [e];have hs:=wA words oops 0 20 0;refine ⟨hs.1,hs.2,fun x hx=>?_⟩
 have:=VA.1 (zl words oops 0 20 0) x hx;simp only [U3,decide_eq_true_eq] at this;exact ⟨x.cls / 4,this.1.1,this.1.2,this.2⟩
attribute [local irreducible] ba
theorem zS {words oops:Int} (h0:0<=words) (h1:words<=1048576) (h2:0<=oops) (h3:oops<=65536) (h:((cD words oops).allocAll aQ).1=0):K2 words oops (ce words oops) bZ bt:=by
 have hw:WFH (ba words oops):=rM h0 h1 h2 h3;refine ⟨mB h0 h1 h2 h3 h,⟨rfl,fun p hp=>(by cases hp),fun c hc=>?_⟩,vx h,oL hw h (p:=(2,[])) (by simp [tC]),oL hw h (p:=(3,[])) (by simp [tC])⟩;simp only [bt,UM] at hc;obtain ⟨i,_,rfl⟩:=hc;exact ⟨rfl,rfl,rfl,rfl⟩
end
section
attribute [local irreducible] ba bQ bS
section
attribute [local semireducible] ba bQ bS
end
theorem ou.same1 {r r':RH}{k j:Int}{xs:List Int} (h:ou r j xs) (hs:pg r r' k) (hk:j≠k):ou r' j xs:=by
 obtain ⟨o,h1,h2⟩:=h;exact ⟨o,by rw [hs j hk];exact h1,h2⟩
theorem ou.at {r:RH}{k:Int}{xs:List Int} (h:ou r k xs):aG r.objs k≠none:=by
 obtain ⟨o,h1,_⟩:=h;rw [h1];simp
theorem ou.uniq {r:RH}{k:Int}{xs ys:List Int} (h:ou r k xs) (h':ou r k ys):xs=ys:=by
 obtain ⟨o,h1,_,_,rfl⟩:=h;obtain ⟨o',h2,_,_,rfl⟩:=h';rw [h1] at h2;cases h2;rfl
abbrev IK:=Int × Int × List Int
def ob (r:RH) (k:Int):Option IK:=(aG r.objs k).map fun o=>(o.cls,o.fmt,o.slots)
theorem bO {r:RH}{k c f:Int}{l:List Int}:ob r k=some (c,f,l)↔∃ o,aG r.objs k=some o∧o.cls=c∧o.fmt=f∧o.slots=l:=by
 unfold ob;constructor
 ·intro h;obtain ⟨o,h1,h2⟩:=V9.1 h;simp only [Prod.mk.injEq] at h2;exact ⟨o,h1,h2⟩
 ·rintro ⟨o,h1,rfl,rfl,rfl⟩;rw [h1];rfl
theorem kI {r:RH}{k:Int}:ob r k=none↔aG r.objs k=none:=by
 unfold ob;simp
theorem bT.ob {r r':RH}{P:Int->Prop} (h:bT r r' P){k:Int} (hp:P k){x:IK} (hx:ob r k=some x):ob r' k=some x:=by
 obtain ⟨c,f,l⟩:=x;obtain ⟨o,h1,rfl,rfl,rfl⟩:=bO.1 hx;obtain ⟨y,g1,g2,g3,g4⟩:=h k hp o h1;exact bO.2 ⟨y,g1,g2,g3,g4⟩
theorem uQ:∀ (l:List RO) (a k:Int),((aG (cz a l) k).map fun o=>(o.cls,o.fmt,o.slots))=(aG l k).map fun o=>(o.cls,o.fmt,o.slots)
 | [],_,_=>rfl
 | o :: l,a,k=>by
  have ih:=uQ l (a+o.len) k;unfold aG at ih ⊢;simp only [cz,V8];split
  ·rename_i h
   have:decide (o.oop=k)=true:=h;simp [this]
  ·rename_i h
   have:decide (o.oop=k)=false:=h;simp only [this];exact ih
theorem jj {r:RH}{l:List Int} (al:∀ k∈l,aG r.objs k≠none){k:Int}{x:IK} (h:ob (r.keep l).2 k=some x):ob r k=some x∧k∈l:=by
 unfold RH.keep at h;rw [Uq (by rintro ⟨k,h1,h2⟩;exact al k h1 h2)] at h;unfold ob at h;simp only [RH.keepO] at h;rw [uQ] at h;obtain ⟨o,h1,h2⟩:=V9.1 h;have hm:=aD h1;have hf:=U6.1 hm.1;have hk:k∈l:=by have:=of_decide_eq_true hf.2;rw [hm.2] at this;exact this
 refine ⟨?_,hk⟩;unfold ob
 have:aG r.objs k=some o:=by
  unfold aG at h1 ⊢;rw [List.find?_filter] at h1;rw [←h1]
  congr 1
  funext a
  by_cases ha:a.oop=k
  ·simp [ha,hk]
  ·simp [ha]
 rw [this,←h2];rfl
theorem dW {r:RH} (hw:WFH r) (c n f:Int):(∀ k x,ob r k=some x->ob (r.alloc c n f).2 k=some x) ∧
  ((r.alloc c n f).1.2≠0->∀ k x,ob (r.alloc c n f).2 k=some x->ob r k=some x) ∧
  ((r.alloc c n f).1.2=0->ob r (r.alloc c n f).1.1=none∧1<=(r.alloc c n f).1.1∧(r.alloc c n f).1.1<=65536∧ob (r.alloc c n f).2 (r.alloc c n f).1.1=some (c,f,List.replicate n.toNat (if f=1 then 0 else 4))∧∀ k x,k≠(r.alloc c n f).1.1->ob (r.alloc c n f).2 k=some x->ob r k=some x):=by
 refine ⟨fun k x h=>(kB hw c n f).ob trivial h,fun he=>?_,fun he=>?_⟩
 ·unfold RH.alloc at he ⊢;split
  ·exact fun _ _ h=>h
  split
  ·exact fun _ _ h=>h
  split
  ·exact fun _ _ h=>h
  split
  ·exact fun _ _ h=>h
  ·rename_i g1 g2 g3 g4;rw [Uq g1,Uq g2,Uq g3,Uq g4] at he;exact absurd rfl he
 ·obtain ⟨a1,a2,a3,_⟩:=ky hw he;refine ⟨kI.2 a1,a2,a3,?_⟩;unfold RH.alloc at he a1 ⊢;split at he
  ·cases he
  rename_i g1;split at he
  ·cases he
  rename_i g2;split at he
  ·cases he
  rename_i g3;split at he
  ·cases he
  rename_i g4;rw [Uq g1,Uq g2,Uq g3,Uq g4] at a1 ⊢;simp only at a1 ⊢;refine ⟨bO.2 ⟨dM r c n f,?_,rfl,rfl,rfl⟩,fun k x hk h=>?_⟩
  ·rw [eZ,a1];simp [dM]
  ·unfold ob at h ⊢;simp only at h;rw [eZ] at h;cases ho:aG r.objs k with
   | some o=>rw [ho] at h;exact h
   | none =>
    rw [ho] at h
    have:¬ (dM r c n f).oop=k:=fun e=>hk e.symm;simp only [Uq this] at h;cases h
structure AllocR (s:SP) (c n f:Int) (res:Int × Int) (s':SP):Prop where
 stk:s'.stack=s.stack
 keep:∀ k,Reaches s.h s.roots k->∀ x,ob s.h k=some x->ob s'.h k=some x
 bad:res.2≠0->∀ k x,ob s'.h k=some x->ob s.h k=some x
 good:res.2=0->∃ o,res.1=4*o∧1<=o∧o<=65536∧ob s'.h o=some (c,f,List.replicate n.toNat (if f=1 then 0 else 4))∧¬ Reaches s.h s.roots o∧∀ k x,k≠o->ob s'.h k=some x->ob s.h k=some x
 surv:(∀ k x,ob s.h k=some x->ob s'.h k=some x)∨(∀ k x,ob s'.h k=some x->(res.2=0∧res.1=4*k)∨Reaches s.h s.roots k)
theorem jC {s:SP}{t:TB}{v:KV} (hv:KAllW s t v){c:Int} (hc:aA c=3) (n f:Int):AllocR s c n f (s.alloc c n f).1 (s.alloc c n f).2∧KAllW (s.alloc c n f).2 t v:=by
 have hw:=hv.ks.wf;have hr:=nM s c n f;have hk:=lO hw c n f;refine ⟨?_,⟨⟨ri hw c n f,rN hv.ks.gc hc n f,hr.2.2.trans hv.ks.op,hr.1.trans hv.ks.king,hv.ks.view.keep hk hv.ks.reach,hv.ks.sep,hv.ks.shape⟩,hv.names,by rw [hr.2.1];exact hv.top⟩⟩;refine { stk:=hr.2.1,keep:=fun k h x hx=>hk.ob h hx,bad:=?_,good:=?_,surv:=?_ }
 all_goals unfold SP.alloc
 all_goals split
 ·exact (dW hw.h c n f).2.1
 ·have al:∀ k∈s.reach,aG s.h.objs k≠none:=fun k hk=>((RH.mem_reach hw.h).1 hk).there;exact fun he k x h=>(jj al ((dW (fY hw.h _) c n f).2.1 he k x h)).1
 ·intro he;obtain ⟨a1,a2,a3,a4,a5⟩:=(dW hw.h c n f).2.2 he;exact ⟨_,rfl,a2,a3,a4,fun h=>h.there (kI.1 a1),a5⟩
 ·intro he;have al:∀ k∈s.reach,aG s.h.objs k≠none:=fun k hk=>((RH.mem_reach hw.h).1 hk).there;obtain ⟨a1,a2,a3,a4,a5⟩:=(dW (fY hw.h _) c n f).2.2 he;refine ⟨_,rfl,a2,a3,a4,fun h=>?_,fun k x hk h=>(jj al (a5 k x hk h)).1⟩;cases hx:ob s.h ((s.h.keep s.reach).2.alloc c n f).1.1 with
  | none=>exact h.there (kI.1 hx)
  | some x =>
   have:=(jz s.reach).ob ((RH.mem_reach hw.h).2 h) hx;rw [a1] at this;cases this
 ·exact .inl (dW hw.h c n f).1
 ·refine .inr fun k x h=>?_;have al:∀ k∈s.reach,aG s.h.objs k≠none:=fun k hk=>((RH.mem_reach hw.h).1 hk).there;by_cases he:((s.h.keep s.reach).2.alloc c n f).1.2=0
  ·obtain ⟨a1,a2,a3,a4,a5⟩:=(dW (fY hw.h _) c n f).2.2 he;by_cases hk:k=((s.h.keep s.reach).2.alloc c n f).1.1
   ·exact .inl ⟨he,by rw [hk]⟩
   ·exact .inr ((RH.mem_reach hw.h).1 (jj al (a5 k x hk h)).2)
  ·exact .inr ((RH.mem_reach hw.h).1 (jj al ((dW (fY hw.h _) c n f).2.1 he k x h)).2)
def cy (v:KV):List (Int × Int):=(1,20) :: (2,24) :: (3,28) :: (18,44) :: v.cls.map fun c=>(c.oop,48)
def ov (v:KV) (c:Int):Prop:=c=44∨∃ o i,c=4*o∧eK v o=some i∧(o=4∨14<=i)
theorem bX {w:Int} (h:aA w=3):w=4*(w / 4)∧1<=w / 4∧w / 4<=65536:=by
 have:=bl w;omega
theorem mz {r:RH}{w:Int} (h:aA w=3) (ho:ob r (w / 4)≠none):bm r w=w / 4:=by
 have:=bX h;unfold bm;have hn:(aG r.objs (w / 4)).isSome:=by
  cases hx:aG r.objs (w / 4) with
  | none=>exact absurd (kI.2 hx) ho
  | some o=>rfl
 rw [Ur ⟨h,hn⟩]
theorem pi {r:RH}{ws:List Int}{k c w:Int}{l:List Int} (hr:Reaches r ws k) (hx:ob r k=some (c,0,l)) (hw:w∈l) (hk:aA w=3) (hn:ob r (w / 4)≠none):Reaches r ws (w / 4):=by
 obtain ⟨o,h1,h2,h3,h4⟩:=bO.1 hx;have hm:=aD h1
 have:=bX hk
 have:=Reaches.slot (o:=o) (w:=w) (by rw [hm.2];exact hr) hm.1 h3 (by rw [h4];exact hw) (by rw [mz hk hn];omega);rw [mz hk hn] at this;exact this
section
variable {s s':SP}{t:TB}{v:KV}{G:Int->Prop}{res:Int × Int}{c n f:Int}
end
theorem jo {r:RH} (k i w:Int):∀ j,j≠k->ob (r.put k i w).2 j=ob r j:=fun j hj=>by
 unfold ob;rw [rj r k i w j hj]
theorem jw {r:RH}{k c f i w:Int}{l:List Int} (hx:ob r k=some (c,f,l)) (hi:0<=i∧i<l.length) (hw:dY f w):(r.put k i w).1=0∧ob (r.put k i w).2 k=some (c,f,l.set i.toNat w):=by
 obtain ⟨o,h1,rfl,rfl,rfl⟩:=bO.1 hx;unfold RH.put;rw [h1];simp only;rw [Uq (by omega),Uq (fun e=>e hw)];refine ⟨rfl,bO.2 ⟨eC i w o,?_,rfl,rfl,rfl⟩⟩;show aG (iq r.objs k (eC i w)) k=_;rw [dG (f:=eC i w) fun _=>rfl,h1]
 have:=(aD h1).2;simp [this]
theorem KS.putN {s:SP}{v:KV} (h:KS s v){k:Int} (hk:∀ p∈v.roles,p.1≠k) (i w:Int):KS { s with h:=(s.h.put k i w).2 } v :=
 ⟨{ h.wf with h:=mN h.wf.h k i w },vR h.gc k i w,h.op,h.king,h.view.same1 (rj _ _ _ _) hk,h.sep,h.shape⟩
section
variable {s s':SP}{t:TB}{v:KV}{G:Int->Prop}
end
def WR (ρ:Int->Int->Prop) (w w':Int):Prop:=(aA w≠3∧w'=w)∨(aA w=3∧aA w'=3∧ρ (w / 4) (w' / 4))
structure RL (r r':RH) (ρ:Int->Int->Prop):Prop where
 fn:∀ k a b,ρ k a->ρ k b->a=b
 inj:∀ a b k,ρ a k->ρ b k->a=b
 ob:∀ k k',ρ k k'->∃ c f l c' l',ob r k=some (c,f,l)∧ob r' k'=some (c',f,l')∧WR ρ c c'∧l.length=l'.length∧(f=1->l=l')∧(f=0->∀ i,i<l.length->WR ρ (l.getD i 0) (l'.getD i 0))
theorem WR.symm {ρ:Int->Int->Prop}{w w':Int} (h:WR ρ w w'):WR (fun a b=>ρ b a) w' w:=by
 rcases h with ⟨h,rfl⟩ | ⟨h1,h2,h3⟩
 ·exact .inl ⟨h,rfl⟩
 ·exact .inr ⟨h2,h1,h3⟩
theorem WR.mono {ρ σ:Int->Int->Prop} (hm:∀ k k',ρ k k'->σ k k'){w w':Int} (h:WR ρ w w'):WR σ w w':=h.imp id fun ⟨h1,h2,h3⟩=>⟨h1,h2,hm _ _ h3⟩
theorem RL.symm {r r':RH}{ρ:Int->Int->Prop} (h:RL r r' ρ):RL r' r (fun a b=>ρ b a):=by
 refine ⟨fun k a b h1 h2=>h.inj _ _ _ h1 h2,fun a b k h1 h2=>h.fn _ _ _ h1 h2,fun k k' hk=>?_⟩;obtain ⟨c,f,l,c',l',e1,e2,e3,e4,e5,e6⟩:=h.ob _ _ hk;exact ⟨c',f,l',c,l,e2,e1,e3.symm,e4.symm,fun h=>(e5 h).symm,fun h i hi=>(e6 h i (by omega)).symm⟩
theorem kx {r:RH}{w c f:Int}{l:List Int} (h3:aA w=3) (h:ob r (w / 4)=some (c,f,l)):bm r w=w / 4:=mz h3 (by rw [h];simp)
theorem zy {r:RH}{w:Int} (h:bm r w≠0):aA w=3∧bm r w=w / 4:=by
 unfold bm at h ⊢;split
 ·rename_i hc;exact ⟨hc.1,rfl⟩
 ·rename_i hc;rw [Uq hc] at h;exact absurd rfl h
theorem RL.named {r r':RH}{ρ:Int->Int->Prop} (h:RL r r' ρ){w w':Int} (hw:WR ρ w w') (hn:bm r w≠0):ρ (bm r w) (bm r' w')∧bm r' w'≠0:=by
 obtain ⟨h3,e⟩:=zy hn;rcases hw with ⟨h1,_⟩ | ⟨_,s5,hr⟩
 ·exact absurd h3 h1
 ·obtain ⟨c,f,l,c',l',e1,e2,_⟩:=h.ob _ _ hr;have e':=kx s5 e2;rw [e,e'];refine ⟨hr,?_⟩
  have:=bX s5;omega
theorem RL.reach {r r':RH}{ρ:Int->Int->Prop} (h:RL r r' ρ) (hw:WFH r){ws ws':List Int} (hZ:∀ w∈ws,∃ w'∈ws',WR ρ w w'){k:Int} (hk:Reaches r ws k):∃ k',ρ k k'∧Reaches r' ws' k':=by
 induction hk with
 | @root w hm hn =>
  obtain ⟨w',w7,hr⟩:=hZ w hm;obtain ⟨g1,g2⟩:=h.named hr hn;exact ⟨_,g1,.root w7 g2⟩
 | @cls o ho hm hn ih =>
  obtain ⟨k',dn,MU⟩:=ih;obtain ⟨c,f,l,c',l',e1,e2,e3,_⟩:=h.ob _ _ dn;obtain ⟨x,hx,rfl,rfl,rfl⟩:=bO.1 e1;obtain ⟨y,hy,rfl,_,_⟩:=bO.1 e2;have Qn:x=o:=by
   have:=cY hw.objs hm;rw [this] at hx;exact (Option.some.inj hx).symm
  subst Qn;obtain ⟨g1,g2⟩:=h.named e3 hn;obtain ⟨M9,LZ⟩:=aD hy;refine ⟨_,g1,.cls (o:=y) ?_ M9 g2⟩;rw [LZ];exact MU
 | @slot o w ho hm hf hs hn ih =>
  obtain ⟨k',dn,MU⟩:=ih;obtain ⟨c,f,l,c',l',e1,e2,e3,e4,e5,e6⟩:=h.ob _ _ dn;obtain ⟨x,hx,rfl,rfl,rfl⟩:=bO.1 e1;obtain ⟨y,hy,rfl,NZ,rfl⟩:=bO.1 e2;have Qn:x=o:=by
   have:=cY hw.objs hm;rw [this] at hx;exact (Option.some.inj hx).symm
  subst Qn;obtain ⟨i,hi,rfl⟩:=Vc.1 hs;have k8:i<y.slots.length:=by omega
  have RM:=e6 hf i hi;rw [UD,UF hi,UD,UF k8] at RM;obtain ⟨g1,g2⟩:=h.named RM hn;obtain ⟨M9,LZ⟩:=aD hy;refine ⟨_,g1,.slot (o:=y) ?_ M9 (NZ.trans hf) (UQ k8) g2⟩;rw [LZ];exact MU
theorem RL.trim {r r':RH}{ρ:Int->Int->Prop} (h:RL r r' ρ){ws ws':List Int}:RL r r' (fun k k'=>ρ k k'∧Reaches r ws k∧Reaches r' ws' k'):=by
 refine ⟨fun k a b h1 h2=>h.fn _ _ _ h1.1 h2.1,fun a b k h1 h2=>h.inj _ _ _ h1.1 h2.1,fun k k' ⟨hk,r1,r2⟩=>?_⟩;obtain ⟨c,f,l,c',l',e1,e2,e3,e4,e5,e6⟩:=h.ob _ _ hk;have e1':=e1;have e2':=e2;obtain ⟨x,hx,rfl,rfl,rfl⟩:=bO.1 e1;obtain ⟨y,hy,rfl,NZ,rfl⟩:=bO.1 e2;obtain ⟨JL,qz⟩:=aD hx;obtain ⟨M9,LZ⟩:=aD hy;have go:∀ {w w'},WR ρ w w'->(bm r w≠0->Reaches r ws (bm r w))->(bm r' w'≠0->Reaches r' ws' (bm r' w'))->WR (fun k k'=>ρ k k'∧Reaches r ws k∧Reaches r' ws' k') w w':=fun {w w'} hw g1 g2=>by
  rcases hw with hw | ⟨h3,s5,hr⟩
  ·exact .inl hw
  ·obtain ⟨_,_,_,_,_,a1,a2,_⟩:=h.ob _ _ hr;have n1:=kx h3 a1;have n2:=kx s5 a2;have q1:=bX h3;have q2:=bX s5;rw [n1] at g1;rw [n2] at g2;exact .inr ⟨h3,s5,hr,g1 (by omega),g2 (by omega)⟩
 refine ⟨_,_,_,_,_,e1',e2',go e3 (fun hn=>.cls (o:=x) (by rw [qz];exact r1) JL hn) (fun hn=>.cls (o:=y) (by rw [LZ];exact r2) M9 hn),e4,e5,fun hf i hi=>go (e6 hf i hi) (fun hn=>?_) fun hn=>?_⟩
 ·have em:x.slots.getD i 0∈x.slots:=by rw [UD,UF hi];exact UQ hi
  exact .slot (o:=x) (by rw [qz];exact r1) JL hf em hn
 ·have k8:i<y.slots.length:=by omega
  have em:y.slots.getD i 0∈y.slots:=by rw [UD,UF k8];exact UQ k8
  exact .slot (o:=y) (by rw [LZ];exact r2) M9 (NZ.trans hf) em hn
theorem xi {ρ:Int->Int->Prop} (fn:∀ k a b,ρ k a->ρ k b->a=b) (inj:∀ a b k,ρ a k->ρ b k->a=b){F F':Int->Int} (hF:∀ k k',ρ k k'->F k=F' k'):∀ {L L':List Int},L.Nodup->L'.Nodup->(∀ k∈L,∃ k'∈L',ρ k k')->(∀ k'∈L',∃ k∈L,ρ k k')->L.length=L'.length∧(L.map F).sum=(L'.map F').sum
 | [],L',_,_,_,t'=>by
  cases L' with
  | nil=>exact ⟨rfl,rfl⟩
  | cons a l =>
   obtain ⟨k,hk,_⟩:=t' a (by simp);cases hk
 | k :: L,L',n,n',t,t'=>by
  obtain ⟨k',dn,hr⟩:=t k (by simp);obtain ⟨p,q,rfl⟩:=Wn dn;have hn:=Vl.1 n;have hp:(p++q).Nodup∧k'∉p++q:=by
   have h1:=(Wy (a:=k') (l₁:=p) (l₂:=q)).nodup_iff.1 n';exact ⟨(Vl.1 h1).2,(Vl.1 h1).1⟩
  have ih:=xi fn inj hF (L:=L) (L':=p++q) hn.2 hp.1 (fun a ha=>by
   obtain ⟨a',h1,h2⟩:=t a (by simp [ha]);refine ⟨a',?_,h2⟩;have b9:a'≠k':=fun e=>by
    have:=inj a k a' h2 (e ▸ hr);exact hn.1 (this ▸ ha)
   simp only [Uz,Us] at h1 ⊢;rcases h1 with h1 | h1 | h1
   ·exact .inl h1
   ·exact absurd h1 b9
   ·exact .inr h1) (fun a' Ja=>by
   obtain ⟨a,h1,h2⟩:=t' a' (by
    simp only [Uz,Us] at Ja ⊢;rcases Ja with h | h
    ·exact .inl h
    ·exact .inr (.inr h))
   rcases Us.1 h1 with rfl | h1
   ·exact absurd (fn _ _ _ h2 hr ▸ Ja) hp.2
   ·exact ⟨a,h1,h2⟩)
  obtain ⟨i1,i2⟩:=ih;have hf:=hF _ _ hr;simp only [UP] at i1;simp only [Vf,List.sum_append] at i2;refine ⟨by simp only [US,UP];omega,?_⟩;simp only [U8,Ww,Vf,List.sum_append];omega
end
end Kw
namespace Go.Proofs.YtgjfejoohojokaaGreatDoor
open Kw
section
attribute [local irreducible] ba bQ bS
noncomputable def sZ (s:SP):Int:=((s.h.objs.filter fun o=>decide (o.oop∈s.reach)).map RO.len).sum
theorem nK:∀ (l:List RO) (a:Int),bW a l=a+(l.map RO.len).sum
 | [],a=>by simp [bW]
 | o :: l,a=>by
  unfold bW;rw [nK l];simp only [U8,Ww];omega
theorem qo {words oops:Int} (p:RO->Bool):∀ (l:List RO) (a:Int),WFO words oops l->(∀ o∈l,a<=o.place)->l≠[]->a+((l.filter p).map RO.len).sum<=bx l
 | [],_,_,_,h=>absurd rfl h
 | [o],a,h,ha,_=>by
  have h1:=ha o (by simp);have h2:=o.len_pos;have e:bx [o]=o.place+o.len:=dD [] o;rw [e,WY];split
  ·simp;omega
  ·simp;omega
 | o :: q :: l,a,h,ha,_=>by
  have hp:=Vg.1 h.pw;have ih:=qo p (q :: l) (o.place+o.len) ⟨fun y hy=>h.good y (Vb _ hy),hp.2⟩ (fun y hy=>(hp.1 y hy).2) (by simp);have h1:=ha o (by simp);have h2:=o.len_pos;have e:bx (o :: q :: l)=bx (q :: l):=by unfold bx;rw [List.getLast?_cons_cons]
  rw [e,WY];split
  ·simp only [U8,Ww];omega
  ·omega
theorem o7 {r:RH} (hm:r.mark=0){c n f:Int} (hc:cP c) (hf:f=0∨f=1) (hn:0<=n) (Fd:n<=8192):(r.alloc c n f).1.2=if r.oops<=(r.objs.length:Int)∨r.words<bx r.objs+lenOf n f then 23 else 0:=by
 unfold RH.alloc;rw [Uq (by rintro (h | h | h | h);exact h hc;all_goals omega),Uq (by omega)];split
 ·rfl
 ·rw [Uq (by omega)]
theorem nW {s:SP} (hw:WFH s.h):(s.h.objs.filter fun o=>decide (o.oop∈s.reach)).length=s.reach.length:=by
 have h1:((s.h.objs.filter fun o=>decide (o.oop∈s.reach)).map (·.oop)).Perm s.reach:=by
  rw [VX]
  ·intro k;simp only [UM,U6,decide_eq_true_eq];constructor
   ·rintro ⟨o,⟨_,h2⟩,rfl⟩;exact h2
   ·intro hk
    have:=((RH.mem_reach hw).1 hk).there;cases ho:aG s.h.objs k with
    | none=>exact absurd ho this
    | some o=>exact ⟨o,⟨(aD ho).1,by rw [(aD ho).2];exact hk⟩,(aD ho).2⟩
  ·rw [Vv,VE];exact (hw.objs.pw.filter _).imp fun h=>h.1
  ·exact (jy s.roots).imp fun h e=>by omega
 have:=h1.length_eq;simpa using this
theorem nT {s:SP} (hw:WFS s) (sa:s.op=false) (hm:s.h.mark=0){c n f:Int} (hc:cP c) (hf:f=0∨f=1) (hn:0<=n) (Fd:n<=8192) :
  (s.alloc c n f).1.2=if s.h.oops<=(s.reach.length:Int)∨s.h.words<sZ s+lenOf n f then 23 else 0:=by
 have al:∀ k∈s.reach,aG s.h.objs k≠none:=fun k hk=>((RH.mem_reach hw.h).1 hk).there;have ek:(s.h.keep s.reach).2={ s.h with objs:=s.h.keepO s.reach,turn:=IntKind.wrap .i64 (s.h.turn+1) }:=by
  unfold RH.keep;rw [Uq (by rintro ⟨k,h1,h2⟩;exact al k h1 h2)]
 have ai:((s.h.keepO s.reach).length:Int)=(s.reach.length:Int):=by
  unfold RH.keepO;rw [mP,nW hw.h]
 have F6:bx (s.h.keepO s.reach)=sZ s:=by
  unfold RH.keepO;rw [jq,nK,Int.zero_add];rfl
 have pp:sZ s<=bx s.h.objs:=by
  by_cases h0:s.h.objs=[]
  ·unfold sZ;rw [h0];exact Vo _
  ·have:=qo (fun o=>decide (o.oop∈s.reach)) s.h.objs 0 hw.h.objs (fun o ho=>(hw.h.objs.good o ho).pl) h0;unfold sZ;omega
 have PA:(s.reach.length:Int)<=(s.h.objs.length:Int):=by
  rw [←nW hw.h]
  have:=VW (fun o:RO=>decide (o.oop∈s.reach)) s.h.objs;omega
 have c1:=o7 hm (c:=c) (n:=n) (f:=f) hc hf hn Fd;have c2:((s.h.keep s.reach).2.alloc c n f).1.2=if s.h.oops<=(s.reach.length:Int)∨s.h.words<sZ s+lenOf n f then 23 else 0:=by
  rw [ek,o7 (r:={ s.h with objs:=s.h.keepO s.reach,turn:=IntKind.wrap .i64 (s.h.turn+1) }) hm hc hf hn Fd];simp only;rw [ai,F6]
 unfold SP.alloc;split
 ·rename_i h;have N0:(s.h.alloc c n f).1.2≠23:=h.resolve_right (by rw [sa];decide);show (s.h.alloc c n f).1.2=_;rw [c1] at N0 ⊢;split at N0
  ·exact absurd rfl N0
  ·rename_i S1;rw [Uq S1,Uq (by omega)]
 ·exact c2
structure SRel (s s':SP) (v:KV) (ρ:Int->Int->Prop):Prop where
 rl:RL s.h s'.h ρ
 len:s.stack.length=s'.stack.length
 stk:∀ i,i<s.stack.length->WR ρ (s.stack.getD i 0) (s'.stack.getD i 0)
 king:ρ 19 19
 base:∀ p∈cy v,ρ p.1 p.1
 words:s.h.words=s'.h.words
 oops:s.h.oops=s'.h.oops
 m1:s.h.mark=0
 m2:s'.h.mark=0
section
variable {s s':SP}{v:KV}{ρ:Int->Int->Prop}
theorem SRel.symm (h:SRel s s' v ρ):SRel s' s v (fun a b=>ρ b a) :=
 ⟨h.rl.symm,h.len.symm,fun i hi=>(h.stk i (by rw [h.len];exact hi)).symm,h.king,h.base,h.words.symm,h.oops.symm,h.m2,h.m1⟩
theorem SRel.roots (h:SRel s s' v ρ) (hk:KS s v) (dn:KS s' v):∀ w∈s.roots,∃ w'∈s'.roots,WR ρ w w':=by
 rw [hk.roots,dn.roots];intro w hw;rcases Us.1 hw with rfl | hw
 ·exact ⟨_,V6 ..,.inr ⟨by decide,by decide,h.king⟩⟩
 ·obtain ⟨i,hi,rfl⟩:=Vc.1 hw;have k8:i<s'.stack.length:=by rw [←h.len];exact hi
  have:=h.stk i hi;rw [UD,UF hi,UD,UF k8] at this;exact ⟨_,Vb _ (UQ k8),this⟩
theorem SRel.live (h:SRel s s' v ρ) (hk:KS s v) (dn:KS s' v){k:Int} (hr:Reaches s.h s.roots k):∃ k',ρ k k'∧Reaches s'.h s'.roots k':=h.rl.reach hk.wf.h (h.roots hk dn) hr
theorem SRel.counts (h:SRel s s' v ρ) (hk:KS s v) (dn:KS s' v):s.reach.length=s'.reach.length∧sZ s=sZ s':=by
 have nd:∀ s:SP,s.reach.Nodup:=fun s=>(jy s.roots).imp fun h e=>by omega
 have hF:∀ k k',ρ k k'->yj s.h k=yj s'.h k':=fun k k' hr=>by
  obtain ⟨c,f,l,c',l',e1,e2,_,e4,_⟩:=h.rl.ob _ _ hr;obtain ⟨x,hx,_,rfl,rfl⟩:=bO.1 e1;obtain ⟨y,hy,_,NZ,rfl⟩:=bO.1 e2;unfold yj;rw [hx,hy];show lenOf _ _=lenOf _ _;rw [e4,NZ]
 have:=xi h.rl.fn h.rl.inj hF (nd s) (nd s') (fun k AT=>by
  obtain ⟨k',h1,h2⟩:=h.live hk dn ((RH.mem_reach hk.wf.h).1 AT);exact ⟨k',(RH.mem_reach dn.wf.h).2 h2,h1⟩) (fun k' AT=>by
  obtain ⟨k,h1,h2⟩:=h.symm.live dn hk ((RH.mem_reach dn.wf.h).1 AT);exact ⟨k,(RH.mem_reach hk.wf.h).2 h2,h1⟩)
 refine ⟨this.1,?_⟩;unfold sZ;rw [show ((s.h.objs.filter fun o=>decide (o.oop∈s.reach)).map RO.len).sum=_ from rk hk.wf.h s.roots,show ((s'.h.objs.filter fun o=>decide (o.oop∈s'.reach)).map RO.len).sum=_ from rk dn.wf.h s'.roots];exact this.2
theorem SRel.code (h:SRel s s' v ρ) (hk:KS s v) (dn:KS s' v){c c' n f:Int} (hc:cP c) (OY:cP c') (hf:f=0∨f=1) (hn:0<=n) (Fd:n<=8192):(s.alloc c n f).1.2=(s'.alloc c' n f).1.2:=by
 rw [nT hk.wf hk.op h.m1 hc hf hn Fd,nT dn.wf dn.op h.m2 OY hf hn Fd,h.words,h.oops,(h.counts hk dn).1,(h.counts hk dn).2]
end
end
section
variable {Q:QT}{H:ag}
variable {a b c d A B D P:Option Addr}{i j k m n x y z I J K M N:Int}{l o r s u v L O R S U V:Nat}{t w T W:ByteArray}{e E g:Bool}{q:Option Nat}{p X Y Z:Value}{F G:Addr}
theorem AL (h:dd 7 #[am a] H fun c d=>ao (fi c) (Q (aF 0 2) d) (ax (ac i) fun c=>xT 85 #[c] d fun d e=>mH (Instr.lookup 135 (ga d) (aZ t) true) (fun d e=>∃ f:Int,ax (aY e.size 1) fun g=>ax (aF 0 1) fun i=>ax (some .nilFunc) fun k=>ax (au b l o) fun b=>ax (aK e.size) fun m=>ax (ac 0) fun n=>ax (aJ e #[n,.nilFunc] 133) fun e=>ax (ac j) fun j=>ax (aF 0 170) fun o=>ax (ac f) fun f=>(∃ p,∃ q r:Array Value,∃ s,d=bU #[aL #[f,.func (.func p) q r],bk s]∧bP e m f fun d=>bP d g (.func (.func p) q r) fun d=>ao (!s) (Q i d) (lE d g (fun _ _ _=>aB d m fun e=>ao ((l:Int) != e) (Q i d) (ax (aK d.size) fun e=>bP (aJ d #[am none,n,au none 0 0] 138) e (am a) fun a=>ax (aY d.size 1) fun f=>bP a f j fun a=>ax (aY d.size 2) fun d=>bP a d b fun a=>cC (Builtin.append_ #[30,30] 30 #[au (some (aK a.size)) 1 1,b]) (aJ a #[j] 26) fun a b _ l=>cX [n] l fun l m n p q=>ao (bv q (b:Int)) (bu q b a fun a=>aB p (bq a q 1) fun a=>aE p e fun b=>aB p f fun c=>aH p d fun d e f=>aT 86 #[aL #[am b,ac c,au d e f],ac a] p fun a b=>ao (a == 0) (Q i b) (ck l m [ac (bd (q+1))] b n p)) (aE p e fun a=>aB p f fun b=>aH p d fun i l m=>bJ 87 #[aL #[am a,ac b,au i l m],j,c] p fun a b=>ao (!a) (Q o b) (aE b e fun a=>aB b f fun i=>aH b d fun j l m=>bJ 88 #[aL #[am a,ac i,au j l m],c] b fun a b=>ao (!a) (Q o b) (lE b g (fun a c g=>aE b e fun e=>aB b f fun f=>aH b d fun d i j=>ak a (c++#[aL #[am e,ac f,au d i j]]++g) b fun a b c=>Q (aF a b) c)∨aq b g=k∧aE b e fun _=>aB b f fun _=>aH b d fun _ _ _=>False)))))∨aq d g=k∧Q i d))∨(∃ p,d=bU #[aL #[f,.nilFunc],bk p]∧bP e m f fun d=>bP d g .nilFunc fun d=>ao (!p) (Q i d) (lE d g (fun _ _ _=>aB d m fun e=>ao ((l:Int) != e) (Q i d) (ax (aK d.size) fun e=>bP (aJ d #[am none,n,au none 0 0] 138) e (am a) fun a=>ax (aY d.size 1) fun f=>bP a f j fun a=>ax (aY d.size 2) fun d=>bP a d b fun a=>cC (Builtin.append_ #[30,30] 30 #[au (some (aK a.size)) 1 1,b]) (aJ a #[j] 26) fun a b _ l=>cX [n] l fun l m n p q=>ao (bv q (b:Int)) (bu q b a fun a=>aB p (bq a q 1) fun a=>aE p e fun b=>aB p f fun c=>aH p d fun d e f=>aT 86 #[aL #[am b,ac c,au d e f],ac a] p fun a b=>ao (a == 0) (Q i b) (ck l m [ac (bd (q+1))] b n p)) (aE p e fun a=>aB p f fun b=>aH p d fun i l m=>bJ 87 #[aL #[am a,ac b,au i l m],j,c] p fun a b=>ao (!a) (Q o b) (aE b e fun a=>aB b f fun i=>aH b d fun j l m=>bJ 88 #[aL #[am a,ac i,au j l m],c] b fun a b=>ao (!a) (Q o b) (lE b g (fun a c g=>aE b e fun e=>aB b f fun f=>aH b d fun d i j=>ak a (c++#[aL #[am e,ac f,au d i j]]++g) b fun a b c=>Q (aF a b) c)∨aq b g=k∧aE b e fun _=>aB b f fun _=>aH b d fun _ _ _=>False)))))∨aq d g=k∧Q i d))) e)):ae PP 30 #[.pointer a,ac i,.string t,ac j,.slice b l o] Q H :=
 okL Tryz.func30 rfl (fun | 8=>some [(50,3)] | _=>none) h
theorem GH (h:ax (ac 1) fun a=>ax (ac 0) fun b=>ax (aL #[a,.func (.func 171) #[] #[]]) fun c=>ax (aZ (⟨#[61]⟩:ByteArray)) fun d=>ax (aL #[a,.func (.func 172) #[] #[]]) fun e=>ao (i == 4) (ax (ga (some H.size)) fun f=>cA (Instr.mapUpdate 135 f (aZ (⟨#[61,61]⟩:ByteArray)) c) (H.push (.map #[] 0)) fun g=>cA (Instr.mapUpdate 135 f d c) g fun c=>cA (Instr.mapUpdate 135 f (aZ (⟨#[126,126]⟩:ByteArray)) e) c fun c=>cA (Instr.mapUpdate 135 f (aZ (⟨#[99,108,97,115,115]⟩:ByteArray)) (aL #[b,.func (.func 173) #[] #[]])) c fun c=>cA (Instr.mapUpdate 135 f (aZ (⟨#[105,115,78,105,108]⟩:ByteArray)) (aL #[b,.func (.func 174) #[] #[]])) c fun c=>cA (Instr.mapUpdate 135 f (aZ (⟨#[110,111,116,78,105,108]⟩:ByteArray)) (aL #[b,.func (.func 175) #[] #[]])) c fun c=>cA (Instr.mapUpdate 135 f (aZ (⟨#[121,111,117,114,115,101,108,102]⟩:ByteArray)) (aL #[b,.func (.func 176) #[] #[]])) c fun c=>cA (Instr.mapUpdate 135 f (aZ (⟨#[105,115,75,105,110,100,79,102,58]⟩:ByteArray)) (aL #[a,.func (.func 177) #[] #[]])) c fun c=>cA (Instr.mapUpdate 135 f (aZ (⟨#[105,110,115,116,86,97,114,83,105,122,101]⟩:ByteArray)) (aL #[b,.func (.func 178) #[] #[]])) c fun c=>cA (Instr.mapUpdate 135 f (aZ (⟨#[105,110,115,116,86,97,114,65,116,58]⟩:ByteArray)) (aL #[a,.func (.func 179) #[] #[]])) c fun a=>cA (Instr.mapUpdate 135 f (aZ (⟨#[105,110,115,116,86,97,114,65,116,58,112,117,116,58]⟩:ByteArray)) (aL #[ac 2,.func (.func 179) #[] #[]])) a fun a=>cA (Instr.mapUpdate 135 f (aZ (⟨#[99,111,112,121]⟩:ByteArray)) (aL #[b,.func (.func 180) #[] #[]])) a fun a=>Q f a) (Bj (fun a=>ao (i == 7) (a [bk true] H) (a [bk (i == 6)] H)) fun f g=>ao f (xT 181 #[] g fun a b=>Q (ga a) b) (ax (ga (some g.size)) fun f=>ax (g.push (.map #[] 0)) fun j=>ax (aZ (⟨#[60]⟩:ByteArray)) fun k=>ao (i == 8) (g9 182 #[.func (.func 183) #[] #[]] j fun g i j l=>cA (Instr.mapUpdate 135 f (aZ (⟨#[43]⟩:ByteArray)) (aL #[a,.func (.func g) i j])) l fun g=>g9 182 #[.func (.func 184) #[] #[]] g fun g i j l=>cA (Instr.mapUpdate 135 f (aZ (⟨#[45]⟩:ByteArray)) (aL #[a,.func (.func g) i j])) l fun g=>g9 182 #[.func (.func 185) #[] #[]] g fun g i j l=>cA (Instr.mapUpdate 135 f (aZ (⟨#[42]⟩:ByteArray)) (aL #[a,.func (.func g) i j])) l fun g=>g9 182 #[.func (.func 186) #[] #[]] g fun g i j l=>cA (Instr.mapUpdate 135 f (aZ (⟨#[47,47]⟩:ByteArray)) (aL #[a,.func (.func g) i j])) l fun g=>g9 182 #[.func (.func 187) #[] #[]] g fun g i j l=>cA (Instr.mapUpdate 135 f (aZ (⟨#[92,92]⟩:ByteArray)) (aL #[a,.func (.func g) i j])) l fun g=>g9 182 #[.func (.func 188) #[] #[]] g fun g i j l=>cA (Instr.mapUpdate 135 f (aZ (⟨#[98,105,116,65,110,100,58]⟩:ByteArray)) (aL #[a,.func (.func g) i j])) l fun g=>g9 182 #[.func (.func 189) #[] #[]] g fun g i j l=>cA (Instr.mapUpdate 135 f (aZ (⟨#[98,105,116,79,114,58]⟩:ByteArray)) (aL #[a,.func (.func g) i j])) l fun g=>g9 182 #[.func (.func 190) #[] #[]] g fun g i j l=>cA (Instr.mapUpdate 135 f (aZ (⟨#[98,105,116,88,111,114,58]⟩:ByteArray)) (aL #[a,.func (.func g) i j])) l fun g=>g9 182 #[.func (.func 191) #[] #[]] g fun g i j l=>cA (Instr.mapUpdate 135 f (aZ (⟨#[98,105,116,83,104,105,102,116,58]⟩:ByteArray)) (aL #[a,.func (.func g) i j])) l fun g=>g9 192 #[.func (.func 193) #[] #[]] g fun g i j l=>cA (Instr.mapUpdate 135 f k (aL #[a,.func (.func g) i j])) l fun g=>g9 192 #[.func (.func 194) #[] #[]] g fun g i j k=>cA (Instr.mapUpdate 135 f (aZ (⟨#[62]⟩:ByteArray)) (aL #[a,.func (.func g) i j])) k fun g=>g9 192 #[.func (.func 195) #[] #[]] g fun g i j k=>cA (Instr.mapUpdate 135 f (aZ (⟨#[60,61]⟩:ByteArray)) (aL #[a,.func (.func g) i j])) k fun g=>g9 192 #[.func (.func 196) #[] #[]] g fun g i j k=>cA (Instr.mapUpdate 135 f (aZ (⟨#[62,61]⟩:ByteArray)) (aL #[a,.func (.func g) i j])) k fun g=>g9 182 #[.func (.func 197) #[] #[]] g fun g i j k=>cA (Instr.mapUpdate 135 f (aZ (⟨#[109,105,110,58]⟩:ByteArray)) (aL #[a,.func (.func g) i j])) k fun g=>g9 182 #[.func (.func 198) #[] #[]] g fun g i j k=>cA (Instr.mapUpdate 135 f (aZ (⟨#[109,97,120,58]⟩:ByteArray)) (aL #[a,.func (.func g) i j])) k fun a=>cA (Instr.mapUpdate 135 f d c) a fun a=>cA (Instr.mapUpdate 135 f (aZ (⟨#[126,61]⟩:ByteArray)) e) a fun a=>cA (Instr.mapUpdate 135 f (aZ (⟨#[110,101,103,97,116,101,100]⟩:ByteArray)) (aL #[b,.func (.func 199) #[] #[]])) a fun a=>cA (Instr.mapUpdate 135 f (aZ (⟨#[97,98,115]⟩:ByteArray)) (aL #[b,.func (.func 200) #[] #[]])) a fun a=>cA (Instr.mapUpdate 135 f (aZ (⟨#[101,118,101,110]⟩:ByteArray)) (aL #[b,.func (.func 201) #[] #[]])) a fun a=>cA (Instr.mapUpdate 135 f (aZ (⟨#[111,100,100]⟩:ByteArray)) (aL #[b,.func (.func 202) #[] #[]])) a fun a=>cA (Instr.mapUpdate 135 f (aZ (⟨#[112,114,105,110,116,83,116,114,105,110,103]⟩:ByteArray)) (aL #[b,.func (.func 203) #[] #[]])) a fun a=>Q f a) (ax (aZ (⟨#[115,105,122,101]⟩:ByteArray)) fun c=>ao (i == 9) (cA (Instr.mapUpdate 135 f c (aL #[b,.func (.func 204) #[] #[]])) j fun c=>cA (Instr.mapUpdate 135 f (aZ (⟨#[97,115,83,116,114,105,110,103]⟩:ByteArray)) (aL #[b,.func (.func 205) #[] #[]])) c fun b=>cA (Instr.mapUpdate 135 f k (aL #[a,.func (.func 206) #[] #[]])) b fun a=>Q f a) (ax (Instr.mapUpdate 135 f (aZ (⟨#[105,115,69,109,112,116,121]⟩:ByteArray)) (aL #[b,.func (.func 208) #[] #[]])) fun e=>ax (Instr.mapUpdate 135 f c (aL #[b,.func (.func 207) #[] #[]])) fun c=>ax (aZ (⟨#[97,116,58,112,117,116,58]⟩:ByteArray)) fun l=>ax (aZ (⟨#[97,116,58]⟩:ByteArray)) fun m=>ao (i == 10) (cA c j fun c=>cA e c fun c=>cA (Instr.mapUpdate 135 f m (aL #[a,.func (.func 209) #[] #[]])) c fun c=>cA (Instr.mapUpdate 135 f l (aL #[ac 2,.func (.func 210) #[] #[]])) c fun c=>cA (Instr.mapUpdate 135 f (aZ (⟨#[44]⟩:ByteArray)) (aL #[a,.func (.func 211) #[] #[]])) c fun c=>cA (Instr.mapUpdate 135 f d (aL #[a,.func (.func 212) #[] #[]])) c fun c=>cA (Instr.mapUpdate 135 f k (aL #[a,.func (.func 213) #[] #[]])) c fun a=>cA (Instr.mapUpdate 135 f (aZ (⟨#[97,115,83,121,109,98,111,108]⟩:ByteArray)) (aL #[b,.func (.func 214) #[] #[]])) a fun a=>Q f a) (ao (i == 11) (cA c j fun b=>cA e b fun b=>cA (Instr.mapUpdate 135 f m (aL #[a,.func (.func 215) #[] #[]])) b fun a=>cA (Instr.mapUpdate 135 f l (aL #[ac 2,.func (.func 215) #[] #[]])) a fun a=>Q f a) (ao (i == 12) (cA (Instr.mapUpdate 135 f (aZ (⟨#[110,101,119]⟩:ByteArray)) (aL #[b,.func (.func 216) #[] #[]])) j fun c=>cA (Instr.mapUpdate 135 f (aZ (⟨#[110,101,119,58]⟩:ByteArray)) (aL #[a,.func (.func 217) #[] #[]])) c fun c=>g9 218 #[b] c fun c d e g=>cA (Instr.mapUpdate 135 f (aZ (⟨#[110,97,109,101]⟩:ByteArray)) (aL #[b,.func (.func c) d e])) g fun c=>g9 218 #[a] c fun a c d e=>cA (Instr.mapUpdate 135 f (aZ (⟨#[115,117,112,101,114,99,108,97,115,115]⟩:ByteArray)) (aL #[b,.func (.func a) c d])) e fun a=>Q f a) (ao (i == 14) (xT 219 #[] g fun a b=>Q (ga a) b) (ao (i == 17) (g9 218 #[b] j fun c d e g=>cA (Instr.mapUpdate 135 f (aZ (⟨#[115,101,108,101,99,116,111,114]⟩:ByteArray)) (aL #[b,.func (.func c) d e])) g fun c=>g9 218 #[a] c fun a c d e=>cA (Instr.mapUpdate 135 f (aZ (⟨#[97,114,103,117,109,101,110,116,115]⟩:ByteArray)) (aL #[b,.func (.func a) c d])) e fun a=>Q f a) (Q (ga none) g)))))))))):ae PP 85 #[ac i] Q H :=
 okL Tryz.func85 rfl (fun | 1006=>some [(20,4)] | _=>none) h
theorem Fo (h:ax (aJ H #[am a,ac i,au b l o] 138) fun a=>aE a (aK H.size) fun b=>ak 220 #[am b,ac j] a fun a b c=>ao (b != 0) (Q (ac 0) c) (Q (ac a) c)):ae PP 86 #[.agg #[.pointer a,ac i,.slice b l o],ac j] Q H :=
 okF Tryz.func86 rfl h
theorem FW (h:ax (aJ H #[am a,ac i,au b l o] 138) fun a=>aE a (aK H.size) fun b=>aB a (aY H.size 1) fun c=>aH a (aY H.size 2) fun d e f=>aT 86 #[aL #[am b,ac c,au d e f],ac j] a fun a b=>cX [ac a] b fun a b c d e=>ao (e != 0) (ao (e == k) (Q (bk true) d) (aE d (aK H.size) fun f=>ak 221 #[am f,ac e] d fun e f g=>ao (f != 0) (Q (bk false) g) (ck a b [ac e] g c d))) (Q (bk false) d)):ae PP 87 #[.agg #[.pointer a,ac i,.slice b l o],ac j,ac k] Q H :=
 okL Tryz.func87 rfl (fun | 2=>some [(7,3)] | _=>none) h
theorem FZ (h:ax (aJ H #[am a,ac i,au b l o] 138) fun a=>aE a (aK H.size) fun b=>ax (aY H.size 1) fun c=>aB a c fun d=>aH a (aY H.size 2) fun e f g=>aB a c fun i=>ak 222 #[aL #[am b,ac d,au e f g],ac i] a fun a _ b=>ao (j == 12) (Q (bk (a == 7)) b) (ao (j == 14) (ao (a == 6) (aE b (aK H.size) fun a=>aB b c fun d=>aH b (aY H.size 2) fun e f g=>aB b c fun c=>aT 223 #[aL #[am a,ac d,au e f g],ac c,ac 4] b fun a b=>aT 13 #[ac a] b fun a b=>Q (bk (a == 1)) b) (Q (bk false) b)) (ao (j == 17) (Q (bk (a == 2)) b) (Q (bk true) b)))):ae PP 88 #[.agg #[.pointer a,ac i,.slice b l o],ac j] Q H :=
 okF Tryz.func88 rfl h
theorem Er (h:ax (aJ H #[am a,ac i,au b l o] 138) fun a=>aB a (aY H.size 1) fun b=>aH a (aY H.size 2) fun c d _=>bu 0 d c fun c=>aB a (bq c 0 1) fun c=>ak 286 #[bk (b == c)] a fun a b c=>True∧Q (aF a b) c):ae PP 171 #[.agg #[.pointer a,ac i,.slice b l o]] Q H :=
 okF Tryz.func171 rfl h
theorem Ca (h:ax (aJ H #[am a,ac i,au b l o] 138) fun a=>aB a (aY H.size 1) fun b=>aH a (aY H.size 2) fun c d _=>bu 0 d c fun c=>aB a (bq c 0 1) fun c=>ak 286 #[bk (b != c)] a fun a b c=>True∧Q (aF a b) c):ae PP 172 #[.agg #[.pointer a,ac i,.slice b l o]] Q H :=
 okF Tryz.func172 rfl h
theorem Dq (h:ax (aJ H #[am a,ac i,au b l o] 138) fun a=>aE a (aK H.size) fun b=>aB a (aY H.size 1) fun c=>aH a (aY H.size 2) fun d e f=>aB a (aY H.size 1) fun g=>aT 86 #[aL #[am b,ac c,au d e f],ac g] a fun a b=>ak 84 #[ac a] b fun a b c=>Q (aF a b) c):ae PP 173 #[.agg #[.pointer a,ac i,.slice b l o]] Q H :=
 okF Tryz.func173 rfl h
theorem Du (h:ax (aJ H #[am a,ac i,au b l o] 138) fun a=>aB a (aY H.size 1) fun b=>ak 286 #[bk (b == 4)] a fun a b c=>Q (aF a b) c):ae PP 174 #[.agg #[.pointer a,ac i,.slice b l o]] Q H :=
 okF Tryz.func174 rfl h
theorem EL (h:ax (aJ H #[am a,ac i,au b l o] 138) fun a=>aB a (aY H.size 1) fun b=>ak 286 #[bk (b != 4)] a fun a b c=>Q (aF a b) c):ae PP 175 #[.agg #[.pointer a,ac i,.slice b l o]] Q H :=
 okF Tryz.func175 rfl h
theorem Cr (h:ax (aJ H #[am a,ac i,au b l o] 138) fun a=>aB a (aY H.size 1) fun b=>Q (aF b 0) a):ae PP 176 #[.agg #[.pointer a,ac i,.slice b l o]] Q H :=
 okF Tryz.func176 rfl h
theorem DQ (h:ax (aJ H #[am a,ac i,au b l o] 138) fun a=>aE a (aK H.size) fun b=>ax (aY H.size 1) fun c=>aB a c fun d=>ax (aY H.size 2) fun e=>aH a e fun f g i=>aH a e fun j k _=>bu 0 k j fun j=>aB a (bq j 0 1) fun j=>aT 86 #[aL #[am b,ac d,au f g i],ac j] a fun a b=>True∧ao (a != 12) (Q (aF 0 170) b) (aH b e fun a d _=>bu 0 d a fun a=>aB b (bq a 0 1) fun a=>ak 89 #[ac a] b fun a _ b=>aE b (aK H.size) fun d=>aB b c fun f=>aH b e fun e g i=>aB b c fun c=>bJ 87 #[aL #[am d,ac f,au e g i],ac c,ac a] b fun a b=>ak 286 #[bk a] b fun a b c=>Q (aF a b) c)):ae PP 177 #[.agg #[.pointer a,ac i,.slice b l o]] Q H :=
 okF Tryz.func177 rfl h
theorem DW (h:ax (aJ H #[am a,ac i,au b l o] 138) fun a=>aE a (aK H.size) fun b=>aB a (aY H.size 1) fun c=>aH a (aY H.size 2) fun d e f=>aT 287 #[aL #[am b,ac c,au d e f]] a fun a b=>ak 268 #[ac a] b fun a b c=>Q (aF a b) c):ae PP 178 #[.agg #[.pointer a,ac i,.slice b l o]] Q H :=
 okF Tryz.func178 rfl h
theorem BG (h:ax (aJ H #[am a,ac i,au b l o] 138) fun a=>ax (aK H.size) fun b=>aE a b fun c=>ax (aY H.size 1) fun d=>aB a d fun e=>ax (aY H.size 2) fun f=>aH a f fun g i j=>aE a b fun k=>aB a d fun l=>aH a f fun m n o=>aT 287 #[aL #[am k,ac l,au m n o]] a fun a k=>((aq k b=some (am c)∧aq k d=some (ac e)∧aq k f=some (au g i j)∧True)∧True)∧ak 288 #[aL #[am c,ac e,au g i j],ac a] k fun a b c=>True∧Q (aF a b) c):ae PP 179 #[.agg #[.pointer a,ac i,.slice b l o]] Q H :=
 okF Tryz.func179 rfl h
theorem CU (h:ax (aJ H #[am a,ac i,au b l o] 138) fun a=>ax (aK H.size) fun b=>aE a b fun c=>ax (aY H.size 1) fun d=>aB a d fun e=>ax (aY H.size 2) fun f=>aH a f fun g i j=>aB a d fun k=>aT 86 #[aL #[am c,ac e,au g i j],ac k] a fun a c=>aE c b fun e=>aB c d fun g=>aH c f fun i j k=>aB c d fun l=>ak 222 #[aL #[am e,ac g,au i j k],ac l] c fun c e g=>ax (ac e) fun e=>ax (ac a) fun i=>ao (a == 10) (aE g b fun a=>aB g d fun c=>aH g f fun j k l=>aE g b fun m=>aB g d fun n=>aH g f fun o p q=>aB g d fun r=>dU 291 #[aL #[am m,ac n,au o p q],ac r] g fun g m n o=>((aq o b=some (am a)∧aq o d=some (ac c)∧aq o f=some (au j k l)∧True)∧True)∧ak 290 #[aL #[am a,ac c,au j k l],i,e,au g m n] o fun a b c=>True∧Q (aF a b) c) (ao (a == 11) (ao (cS c 0) (aE g b fun a=>aB g d fun c=>aH g f fun j k l=>aE g b fun m=>aB g d fun n=>aH g f fun o p q=>aB g d fun r=>dU 291 #[aL #[am m,ac n,au o p q],ac r] g fun g m n o=>((aq o b=some (am a)∧aq o d=some (ac c)∧aq o f=some (au j k l)∧True)∧True)∧ak 290 #[aL #[am a,ac c,au j k l],i,e,au g m n] o fun a b c=>True∧Q (aF a b) c) (aE g b fun a=>aB g d fun c=>aH g f fun j k l=>aB g d fun m=>bJ 289 #[aL #[am a,ac c,au j k l],ac m] g fun a c=>ao a (aE c b fun a=>aB c d fun g=>aH c f fun j k l=>aE c b fun m=>aB c d fun n=>aH c f fun o p q=>aB c d fun r=>dU 291 #[aL #[am m,ac n,au o p q],ac r] c fun c m n o=>((aq o b=some (am a)∧aq o d=some (ac g)∧aq o f=some (au j k l)∧True)∧True)∧ak 290 #[aL #[am a,ac g,au j k l],i,e,au c m n] o fun a b c=>True∧Q (aF a b) c) (aB c d fun a=>Q (aF a 0) c))) (aE g b fun a=>aB g d fun c=>aH g f fun j k l=>aB g d fun m=>bJ 289 #[aL #[am a,ac c,au j k l],ac m] g fun a c=>ao a (aE c b fun a=>aB c d fun g=>aH c f fun j k l=>aE c b fun m=>aB c d fun n=>aH c f fun o p q=>aB c d fun r=>dU 291 #[aL #[am m,ac n,au o p q],ac r] c fun c m n o=>((aq o b=some (am a)∧aq o d=some (ac g)∧aq o f=some (au j k l)∧True)∧True)∧ak 290 #[aL #[am a,ac g,au j k l],i,e,au c m n] o fun a b c=>True∧Q (aF a b) c) (aB c d fun a=>Q (aF a 0) c)))):ae PP 180 #[.agg #[.pointer a,ac i,.slice b l o]] Q H :=
 okF Tryz.func180 rfl h
theorem Ef (h:ax (ga (some H.size)) fun a=>cA (Instr.mapUpdate 135 a (aZ (⟨#[110,111,116]⟩:ByteArray)) (aL #[ac 0,.func (.func 292) #[] #[]])) (H.push (.map #[] 0)) fun b=>ax (aL #[ac 1,.func (.func 293) #[] #[]]) fun c=>cA (Instr.mapUpdate 135 a (aZ (⟨#[38]⟩:ByteArray)) c) b fun b=>cA (Instr.mapUpdate 135 a (aZ (⟨#[97,110,100,58]⟩:ByteArray)) c) b fun b=>cA (Instr.mapUpdate 135 a (aZ (⟨#[111,114,58]⟩:ByteArray)) (aL #[ac 1,.func (.func 294) #[] #[]])) b fun b=>Q a b):ae PP 181 #[] Q H :=
 okF Tryz.func181 rfl h
theorem Ej {g0:Array Value}{h0:Array Value}(h:Q (.func (.func 295) #[] #[am (some (aK H.size))]) (aJ H #[.func (.func l) g0 h0] 223)):ae PP 182 #[.func (.func l) g0 h0] Q H :=
 okF Tryz.func182 rfl h
theorem B0 {g0:Array Value}{h0:Array Value}(h:Q (.func (.func 299) #[] #[am (some (aK H.size))]) (aJ H #[.func (.func l) g0 h0] 53)):ae PP 192 #[.func (.func l) g0 h0] Q H :=
 okF Tryz.func192 rfl h
theorem Dj (h:Q (bk (bv i j)) H):ae PP 193 #[ac i,ac j] Q H :=
 okF Tryz.func193 rfl h
theorem Dr (h:Q (bk (cS i j)) H):ae PP 194 #[ac i,ac j] Q H :=
 okF Tryz.func194 rfl h
theorem EH (h:Q (bk (decide (i<=j))) H):ae PP 195 #[ac i,ac j] Q H :=
 okF Tryz.func195 rfl h
theorem Cm (h:Q (bk (decide (i≥j))) H):ae PP 196 #[ac i,ac j] Q H :=
 okF Tryz.func196 rfl h
theorem DG (h:Q (aF (if j<i then j else i) 0) H):ae PP 197 #[ac i,ac j] Q H :=
 okF Tryz.func197 rfl h
theorem DS (h:Q (aF (if i<j then j else i) 0) H):ae PP 198 #[ac i,ac j] Q H :=
 okF Tryz.func198 rfl h
theorem Bw (h:ax (aJ H #[am a,ac i,au b l o] 138) fun a=>aE a (aK H.size) fun b=>aB a (aY H.size 1) fun c=>aH a (aY H.size 2) fun d e f=>aT 300 #[aL #[am b,ac c,au d e f]] a fun a b=>ak 184 #[ac 0,ac a] b fun a b c=>ao (b != 0) (Q (aF 0 b) c) (ak 268 #[ac a] c fun a b c=>Q (aF a b) c)):ae PP 199 #[.agg #[.pointer a,ac i,.slice b l o]] Q H :=
 okF Tryz.func199 rfl h
theorem CH (h:ax (aJ H #[am a,ac i,au b l o] 138) fun a=>aE a (aK H.size) fun b=>ax (aY H.size 1) fun c=>aB a c fun d=>aH a (aY H.size 2) fun e f g=>aT 300 #[aL #[am b,ac d,au e f g]] a fun a b=>ao (bv a 0) (aE b (aK H.size) fun a=>aB b c fun c=>aH b (aY H.size 2) fun d e f=>ak 199 #[aL #[am a,ac c,au d e f]] b fun a b c=>Q (aF a b) c) (aB b c fun a=>Q (aF a 0) b)):ae PP 200 #[.agg #[.pointer a,ac i,.slice b l o]] Q H :=
 okF Tryz.func200 rfl h
theorem D8 (h:ax (aJ H #[am a,ac i,au b l o] 138) fun a=>aE a (aK H.size) fun b=>aB a (aY H.size 1) fun c=>aH a (aY H.size 2) fun d e f=>aT 300 #[aL #[am b,ac c,au d e f]] a fun a b=>ak 286 #[bk (ox .i64 a 1 == 0)] b fun a b c=>Q (aF a b) c):ae PP 201 #[.agg #[.pointer a,ac i,.slice b l o]] Q H :=
 okF Tryz.func201 rfl h
theorem Eg (h:ax (aJ H #[am a,ac i,au b l o] 138) fun a=>aE a (aK H.size) fun b=>aB a (aY H.size 1) fun c=>aH a (aY H.size 2) fun d e f=>aT 300 #[aL #[am b,ac c,au d e f]] a fun a b=>ak 286 #[bk (ox .i64 a 1 == 1)] b fun a b c=>Q (aF a b) c):ae PP 202 #[.agg #[.pointer a,ac i,.slice b l o]] Q H :=
 okF Tryz.func202 rfl h
theorem BT (h:ax (aJ H #[am a,ac i,au b l o] 138) fun a=>aE a (aK H.size) fun b=>aB a (aY H.size 1) fun c=>aH a (aY H.size 2) fun d e f=>aT 300 #[aL #[am b,ac c,au d e f]] a fun a b=>jm 301 #[ac a] b fun a _ b=>aE b (aK H.size) fun c=>aB b (aY H.size 1) fun d=>aH b (aY H.size 2) fun e f g=>ak 302 #[aL #[am c,ac d,au e f g],aZ a] b fun a b c=>Q (aF a b) c):ae PP 203 #[.agg #[.pointer a,ac i,.slice b l o]] Q H :=
 okF Tryz.func203 rfl h
theorem C9 (h:ax (aJ H #[am a,ac i,au b l o] 138) fun a=>aE a (aK H.size) fun b=>aB a (aY H.size 1) fun c=>aH a (aY H.size 2) fun d e f=>aB a (aY H.size 1) fun g=>gI 303 #[aL #[am b,ac c,au d e f],ac g] a fun a b=>ak 268 #[ac (a.size:Int)] b fun a b c=>Q (aF a b) c):ae PP 204 #[.agg #[.pointer a,ac i,.slice b l o]] Q H :=
 okF Tryz.func204 rfl h
theorem Ew (h:ax (aJ H #[am a,ac i,au b l o] 138) fun a=>ax (aK H.size) fun b=>aE a b fun c=>ax (aY H.size 1) fun d=>aB a d fun e=>ax (aY H.size 2) fun f=>aH a f fun g i j=>aE a b fun k=>aB a d fun l=>aH a f fun m n o=>aB a d fun p=>gI 303 #[aL #[am k,ac l,au m n o],ac p] a fun a k=>((aq k b=some (am c)∧aq k d=some (ac e)∧aq k f=some (au g i j)∧True)∧True)∧ak 302 #[aL #[am c,ac e,au g i j],aZ a] k fun a b c=>True∧Q (aF a b) c):ae PP 205 #[.agg #[.pointer a,ac i,.slice b l o]] Q H :=
 okF Tryz.func205 rfl h
theorem EC (h:ax (aJ H #[am a,ac i,au b l o] 138) fun a=>ax (aY H.size 2) fun b=>aH a b fun c d _=>bu 0 d c fun c=>aB a (bq c 0 1) fun c=>aT 13 #[ac c] a fun a c=>ao (a != 2) (Q (aF 0 170) c) (ax (aK H.size) fun a=>aE c a fun d=>ax (aY H.size 1) fun e=>aB c e fun f=>aH c b fun g i j=>aB c e fun k=>aE c a fun l=>aB c e fun m=>aH c b fun n o p=>aH c b fun q r s=>bu 0 r q fun t=>aB c (bq t 0 1) fun u=>gI 303 #[aL #[am d,ac f,au g i j],ac k] c fun c d=>((aq d (bq t 0 1)=some (ac u)∧True)∧ax (aq d b) fun b=>(b=some (au q r s)∧True)∧(aq d a=some (am l)∧aq d e=some (ac m)∧b=some (au n o p)∧True)∧True)∧gI 303 #[aL #[am l,ac m,au n o p],ac u] d fun a b=>True∧ak 286 #[bk (Op.bytesLess (ByteArray.toList c) (ByteArray.toList a))] b fun a b c=>True∧Q (aF a b) c)):ae PP 206 #[.agg #[.pointer a,ac i,.slice b l o]] Q H :=
 okF Tryz.func206 rfl h
theorem Ch (h:ax (aJ H #[am a,ac i,au b l o] 138) fun a=>aE a (aK H.size) fun b=>aB a (aY H.size 1) fun c=>aH a (aY H.size 2) fun d e f=>aB a (aY H.size 1) fun g=>ak 222 #[aL #[am b,ac c,au d e f],ac g] a fun a _ b=>ak 268 #[ac a] b fun a b c=>Q (aF a b) c):ae PP 207 #[.agg #[.pointer a,ac i,.slice b l o]] Q H :=
 okF Tryz.func207 rfl h
theorem DA (h:ax (aJ H #[am a,ac i,au b l o] 138) fun a=>aE a (aK H.size) fun b=>aB a (aY H.size 1) fun c=>aH a (aY H.size 2) fun d e f=>aB a (aY H.size 1) fun g=>ak 222 #[aL #[am b,ac c,au d e f],ac g] a fun a _ b=>ak 286 #[bk (a == 0)] b fun a b c=>Q (aF a b) c):ae PP 208 #[.agg #[.pointer a,ac i,.slice b l o]] Q H :=
 okF Tryz.func208 rfl h
theorem DH (h:ax (aJ H #[am a,ac i,au b l o] 138) fun a=>ax (aK H.size) fun b=>aE a b fun c=>ax (aY H.size 1) fun d=>aB a d fun e=>ax (aY H.size 2) fun f=>aH a f fun g i j=>aB a d fun k=>ak 222 #[aL #[am c,ac e,au g i j],ac k] a fun a _ c=>aE c b fun e=>aB c d fun g=>aH c f fun i j k=>ak 304 #[aL #[am e,ac g,au i j k],ac a] c fun a c e=>ao (c != 0) (Q (aF 0 c) e) (aE e b fun b=>aB e d fun c=>aH e f fun f g i=>aB e d fun d=>aT 223 #[aL #[am b,ac c,au f g i],ac d,ac a] e fun a b=>ak 268 #[ac a] b fun a b c=>Q (aF a b) c)):ae PP 209 #[.agg #[.pointer a,ac i,.slice b l o]] Q H :=
 okF Tryz.func209 rfl h
theorem Bo (h:ax (aJ H #[am a,ac i,au b l o] 138) fun a=>ax (aK H.size) fun b=>aE a b fun c=>ax (aY H.size 1) fun d=>aB a d fun e=>ax (aY H.size 2) fun f=>aH a f fun g i j=>aB a d fun k=>ak 222 #[aL #[am c,ac e,au g i j],ac k] a fun a _ c=>aE c b fun e=>aB c d fun g=>aH c f fun i j k=>ak 304 #[aL #[am e,ac g,au i j k],ac a] c fun a c e=>aH e f fun g i _=>bu 1 i g fun g=>aB e (bq g 1 1) fun g=>ak 274 #[ac g] e fun e g i=>ax (aF 0 170) fun j=>ao (c == 170) (Q j i) (ao (g != 0) (Q j i) (ao (bv e 0) (Q j i) (ao (cS e 255) (Q j i) (ao (c != 0) (Q (aF 0 c) i) (aH i f fun c g j=>bu 1 g c fun k=>aB i (bq k 1 1) fun l=>aE i b fun b=>aB i d fun m=>aH i f fun n o p=>aB i d fun d=>aT 305 #[aL #[am b,ac m,au n o p],ac d,ac a,ac e] i fun a b=>((aq b (bq k 1 1)=some (ac l)∧True)∧(aq b f=some (au c g j)∧True)∧True)∧Q (aF l a) b)))))):ae PP 210 #[.agg #[.pointer a,ac i,.slice b l o]] Q H :=
 okF Tryz.func210 rfl h
theorem CB (h:ax (aJ H #[am a,ac i,au b l o] 138) fun a=>aE a (aK H.size) fun b=>aB a (aY H.size 1) fun c=>aH a (aY H.size 2) fun d e f=>iV 306 #[aL #[am b,ac c,au d e f]] a fun a b c d=>ao (!c) (Q (aF 0 170) d) (ao (cS (bd ((a.size:Int)+(b.size:Int))) 8192) (Q (aF 0 170) d) (aE d (aK H.size) fun c=>aB d (aY H.size 1) fun e=>aH d (aY H.size 2) fun f g i=>ao (cS ((a.size+b.size:Nat):Int) IntKind.i64.max) False (ak 302 #[aL #[am c,ac e,au f g i],aZ (a++b)] d fun a b c=>Q (aF a b) c)))):ae PP 211 #[.agg #[.pointer a,ac i,.slice b l o]] Q H :=
 okF Tryz.func211 rfl h
theorem DY (h:ax (aJ H #[am a,ac i,au b l o] 138) fun a=>aE a (aK H.size) fun b=>aB a (aY H.size 1) fun c=>aH a (aY H.size 2) fun d e f=>iV 306 #[aL #[am b,ac c,au d e f]] a fun a b c d=>ao c (ak 286 #[bk (iF a b)] d fun a b c=>Q (aF a b) c) (ak 286 #[bk false] d fun a b c=>Q (aF a b) c)):ae PP 212 #[.agg #[.pointer a,ac i,.slice b l o]] Q H :=
 okF Tryz.func212 rfl h
theorem D9 (h:ax (aJ H #[am a,ac i,au b l o] 138) fun a=>aE a (aK H.size) fun b=>aB a (aY H.size 1) fun c=>aH a (aY H.size 2) fun d e f=>iV 306 #[aL #[am b,ac c,au d e f]] a fun a b c d=>ao (!c) (Q (aF 0 170) d) (ak 286 #[bk (Op.bytesLess (ByteArray.toList a) (ByteArray.toList b))] d fun a b c=>Q (aF a b) c)):ae PP 213 #[.agg #[.pointer a,ac i,.slice b l o]] Q H :=
 okF Tryz.func213 rfl h
theorem BN (h:ax (aJ H #[am a,ac i,au b l o] 138) fun a=>aE a (aK H.size) fun b=>aB a (aY H.size 1) fun c=>aH a (aY H.size 2) fun d e f=>aB a (aY H.size 1) fun g=>gI 303 #[aL #[am b,ac c,au d e f],ac g] a fun a b=>ao (bv (a.size:Int) 1) (Q (aF 0 170) b) (ao (cS (a.size:Int) 96) (Q (aF 0 170) b) (aE b (aK H.size) fun c=>dd 33 #[am c] b fun b c=>ak 145 #[am b,aZ a] c fun a b c=>ao (b != 0) (Q (aF 0 b) c) (ak 146 #[ac a] c fun a b c=>Q (aF a b) c)))):ae PP 214 #[.agg #[.pointer a,ac i,.slice b l o]] Q H :=
 okF Tryz.func214 rfl h
theorem C4 (h:ax (aJ H #[am a,ac i,au b l o] 138) fun a=>aE a (aK H.size) fun b=>ax (aY H.size 1) fun c=>aB a c fun d=>aH a (aY H.size 2) fun e f g=>aB a c fun i=>ak 222 #[aL #[am b,ac d,au e f g],ac i] a fun a _ b=>aE b (aK H.size) fun d=>aB b c fun c=>aH b (aY H.size 2) fun e f g=>ak 288 #[aL #[am d,ac c,au e f g],ac a] b fun a b c=>Q (aF a b) c):ae PP 215 #[.agg #[.pointer a,ac i,.slice b l o]] Q H :=
 okF Tryz.func215 rfl h
theorem El (h:ax (aJ H #[am a,ac i,au b l o] 138) fun a=>ax (aY H.size 1) fun b=>aB a b fun c=>ak 89 #[ac c] a fun a _ c=>ax (aK H.size) fun d=>aE c d fun e=>ak 307 #[am e,ac a] c fun c e f=>ax (aF 0 170) fun g=>zp (fun b=>ao (e != 0) (Q g f) (ao (decide (c<=14)) (ao (a != 4) (Q g f) (b [] f)) (b [] f))) fun c=>aE c d fun e=>oC 308 #[am e,ac a] c fun _ a _ c e=>ao (c != 0) (Q g e) (aE e d fun c=>aB e b fun d=>dd 7 #[am c] e fun c e=>((aq e b=some (ac d)∧True)∧True)∧ak 279 #[am c,ac d,ac (a:Int),ac 0] e fun a b c=>True∧Q (aF a b) c)):ae PP 216 #[.agg #[.pointer a,ac i,.slice b l o]] Q H :=
 okL Tryz.func216 rfl (fun | 1005=>some [] | _=>none) h
theorem Ex (h:ax (aY H.size 1) fun c=>ax (aJ H #[am a,ac i,au b l o] 138) fun a=>aB a c fun b=>ak 89 #[ac b] a fun a _ b=>aH b (aY H.size 2) fun d e _=>bu 0 e d fun d=>aB b (bq d 0 1) fun d=>ak 274 #[ac d] b fun b d e=>Bj (fun c=>ax (bk true) fun f=>ax (bk (cS b 8192)) fun g=>ao (a != 10) (ao (a != 11) (c [f] e) (ao (d != 0) (c [f] e) (ao (bv b 0) (c [f] e) (c [g] e)))) (ao (d != 0) (c [f] e) (ao (bv b 0) (c [f] e) (c [g] e)))) fun d e=>ao d (Q (aF 0 170) e) (ao (a == 10) (aE e (aK H.size) fun a=>aB e c fun d=>dd 7 #[am a] e fun a e=>((aq e c=some (ac d)∧True)∧True)∧ak 279 #[am a,ac d,ac b,ac 1] e fun a b c=>True∧Q (aF a b) c) (ao (b == 0) (ak 84 #[ac 18] e fun a b c=>Q (aF a b) c) (aE e (aK H.size) fun a=>aB e c fun d=>dd 7 #[am a] e fun a e=>((aq e c=some (ac d)∧True)∧True)∧ak 279 #[am a,ac d,ac b,ac 0] e fun a b c=>True∧Q (aF a b) c)))):ae PP 217 #[.agg #[.pointer a,ac i,.slice b l o]] Q H :=
 okL Tryz.func217 rfl (fun | 1007=>some [(22,4)] | _=>none) h
theorem Cc (h:Q (.func (.func 309) #[] #[am (some (aK H.size))]) (aJ H #[ac i] 3)):ae PP 218 #[ac i] Q H :=
 okF Tryz.func218 rfl h
theorem Dt (h:g9 218 #[ac 4] (H.push (.map #[] 0)) fun a b c d=>ax (ga (some H.size)) fun e=>cA (Instr.mapUpdate 135 e (aZ (⟨#[110,117,109,65,114,103,115]⟩:ByteArray)) (aL #[ac 0,.func (.func a) b c])) d fun a=>cA (Instr.mapUpdate 135 e (aZ (⟨#[118,97,108,117,101]⟩:ByteArray)) (aL #[ac 0,.nilFunc])) a fun a=>cX [ac 1] a fun a b c d f=>ao (decide (f<=8)) (gI 310 #[aZ (⟨#[118,97,108,117,101,58]⟩:ByteArray),ac f] d fun g i=>cA (Instr.mapUpdate 135 e (aZ g) (aL #[ac f,.nilFunc])) i fun e=>ck a b [ac (bd (f+1))] e c d) (Q e d)):ae PP 219 #[] Q H :=
 okL Tryz.func219 rfl (fun | 3=>some [(2,3)] | _=>none) h
theorem EJ (h:ak 89 #[ac j] (aJ H #[am a,ac i,au b l o] 138) fun a b c=>ao (b != 0) (Q (aF 0 0) c) (aE c (aK H.size) fun b=>dd 7 #[am b] c fun b c=>dd 44 #[am b] c fun b c=>cB 55 #[am b,ac a] c fun a b _ c=>Q (aF a b) c)):ae PP 222 #[.agg #[.pointer a,ac i,.slice b l o],ac j] Q H :=
 okF Tryz.func222 rfl h
theorem EP (h:ak 89 #[ac j] (aJ H #[am a,ac i,au b l o] 138) fun a _ b=>aE b (aK H.size) fun c=>dd 7 #[am c] b fun b c=>dd 44 #[am b] c fun b c=>ak 57 #[am b,ac a,ac k] c fun a _ b=>Q (ac a) b):ae PP 223 #[.agg #[.pointer a,ac i,.slice b l o],ac j,ac k] Q H :=
 okF Tryz.func223 rfl h
theorem Cu (h:ao e (ak 84 #[ac 3] H fun a b c=>Q (aF a b) c) (ak 84 #[ac 2] H fun a b c=>Q (aF a b) c)):ae PP 286 #[.bool e] Q H :=
 okF Tryz.func286 rfl h
theorem DV (h:ax (aJ H #[am a,ac i,au b l o] 138) fun a=>aE a (aK H.size) fun b=>ax (aY H.size 1) fun c=>aB a c fun d=>aH a (aY H.size 2) fun e f g=>aB a c fun i=>bJ 289 #[aL #[am b,ac d,au e f g],ac i] a fun a b=>ao (!a) (Q (ac 0) b) (aE b (aK H.size) fun a=>aB b c fun d=>aH b (aY H.size 2) fun e f g=>aB b c fun c=>ak 222 #[aL #[am a,ac d,au e f g],ac c] b fun a _ b=>Q (ac a) b)):ae PP 287 #[.agg #[.pointer a,ac i,.slice b l o]] Q H :=
 okF Tryz.func287 rfl h
theorem DZ (h:ax (aJ H #[am a,ac i,au b l o] 138) fun a=>ax (aK H.size) fun b=>aE a b fun c=>ax (aY H.size 1) fun d=>aB a d fun e=>ax (aY H.size 2) fun f=>aH a f fun g i k=>ak 304 #[aL #[am c,ac e,au g i k],ac j] a fun a c e=>ao (c != 0) (Q (aF 0 c) e) (aH e f fun _ c _=>ao (bv (c:Int) 2) (aE e b fun b=>aB e d fun c=>aH e f fun f g i=>aB e d fun d=>aT 223 #[aL #[am b,ac c,au f g i],ac d,ac a] e fun a b=>Q (aF a 0) b) (aH e f fun c g i=>bu 1 g c fun j=>aB e (bq j 1 1) fun k=>aE e b fun b=>aB e d fun l=>aH e f fun m n o=>aB e d fun d=>aH e f fun p q _=>bu 1 q p fun p=>aB e (bq p 1 1) fun p=>aT 305 #[aL #[am b,ac l,au m n o],ac d,ac a,ac p] e fun a b=>((aq b (bq j 1 1)=some (ac k)∧True)∧(aq b f=some (au c g i)∧True)∧True)∧Q (aF k a) b))):ae PP 288 #[.agg #[.pointer a,ac i,.slice b l o],ac j] Q H :=
 okF Tryz.func288 rfl h
theorem BK (h:ax (aJ H #[am a,ac i,au b l o] 138) fun a=>aE a (aK H.size) fun b=>aB a (aY H.size 1) fun c=>aH a (aY H.size 2) fun d e f=>aT 86 #[aL #[am b,ac c,au d e f],ac j] a fun a b=>aE b (aK H.size) fun c=>ak 307 #[am c,ac a] b fun b c d=>ao (a == 4) (Q (bk true) d) (ao (c == 0) (Q (bk (cS b 14)) d) (Q (bk false) d))):ae PP 289 #[.agg #[.pointer a,ac i,.slice b l o],ac j] Q H :=
 okF Tryz.func289 rfl h
theorem C1 (h:ak 84 #[ac j] (aJ H #[am a,ac i,au b l o] 138) fun a _ b=>aE b (aK H.size) fun d=>dd 7 #[am d] b fun b d=>ak 279 #[am b,ac a,ac (r:Int),ac k] d fun a b d=>ao (b != 0) (Q (aF 0 b) d) (cX [ac 0] d fun b d e f g=>ao (bv g (r:Int)) (bu g r c fun c=>aB f (bq c g 1) fun c=>aE f (aK H.size) fun i=>aB f (aY H.size 1) fun j=>aH f (aY H.size 2) fun k l m=>aT 305 #[aL #[am i,ac j,au k l m],ac a,ac g,ac c] f fun a c=>ao (a != 0) (Q (aF 0 a) c) (ck b d [ac (bd (g+1))] c e f)) (Q (aF a 0) f))):ae PP 290 #[.agg #[.pointer a,ac i,.slice b l o],ac j,ac k,.slice c r s] Q H :=
 okL Tryz.func290 rfl (fun | 6=>some [(38,3)] | _=>none) h
theorem Ei (h:ax (aJ H #[am a,ac i,au b l o] 138) fun a=>aE a (aK H.size) fun b=>aB a (aY H.size 1) fun c=>aH a (aY H.size 2) fun d e f=>ak 222 #[aL #[am b,ac c,au d e f],ac j] a fun a _ b=>cC (Instr.makeSlice 30 (ac a) (ac a)) b fun a b c d=>cX [ac 0] d fun d e f g i=>ao (bv i (b:Int)) (aE g (aK H.size) fun c=>aB g (aY H.size 1) fun k=>aH g (aY H.size 2) fun l m n=>aT 223 #[aL #[am c,ac k,au l m n],ac j,ac i] g fun c j=>bu i b a fun a=>bP j (bq a i 1) (ac c) fun a=>ck d e [ac (bd (i+1))] a f g) (Q (au a b c) g)):ae PP 291 #[.agg #[.pointer a,ac i,.slice b l o],ac j] Q H :=
 okL Tryz.func291 rfl (fun | 4=>some [(19,3)] | _=>none) h
theorem En (h:ax (aJ H #[am a,ac i,au b l o] 138) fun a=>aB a (aY H.size 1) fun b=>ak 286 #[bk (b == 8)] a fun a b c=>Q (aF a b) c):ae PP 292 #[.agg #[.pointer a,ac i,.slice b l o]] Q H :=
 okF Tryz.func292 rfl h
theorem B6 (h:ax (aJ H #[am a,ac i,au b l o] 138) fun a=>aH a (aY H.size 2) fun b c _=>bu 0 c b fun b=>aB a (bq b 0 1) fun b=>oz 351 #[ac b] a fun a b c=>ao (b != 0) (Q (aF 0 b) c) (ao a (aB c (aY H.size 1) fun a=>ak 286 #[bk (a == 12)] c fun a b c=>Q (aF a b) c) (ak 286 #[bk false] c fun a b c=>Q (aF a b) c))):ae PP 293 #[.agg #[.pointer a,ac i,.slice b l o]] Q H :=
 okF Tryz.func293 rfl h
theorem Dp (h:ax (aJ H #[am a,ac i,au b l o] 138) fun a=>aH a (aY H.size 2) fun b c _=>bu 0 c b fun b=>aB a (bq b 0 1) fun b=>oz 351 #[ac b] a fun a b c=>ao (b != 0) (Q (aF 0 b) c) (ao a (ak 286 #[bk true] c fun a b c=>Q (aF a b) c) (aB c (aY H.size 1) fun a=>ak 286 #[bk (a == 12)] c fun a b c=>Q (aF a b) c))):ae PP 294 #[.agg #[.pointer a,ac i,.slice b l o]] Q H :=
 okF Tryz.func294 rfl h
theorem EG (h:ax (aJ H #[am a,ac i,au b l o] 138) fun a=>aE a (aK H.size) fun b=>aB a (aY H.size 1) fun c=>aH a (aY H.size 2) fun d e f=>cB 296 #[aL #[am b,ac c,au d e f]] a fun a b c d=>ao (c != 0) (Q (aF 0 c) d) (lE d F (fun c e f=>ak c (e++#[ac a,ac b]++f) d fun a b c=>ao (b != 0) (Q (aF 0 b) c) (ak 268 #[ac a] c fun a b c=>Q (aF a b) c))∨aq d F=some .nilFunc∧False)):ae PP 295 #[.agg #[.pointer a,ac i,.slice b l o],.pointer (some F)] Q H :=
 okF Tryz.func295 rfl h
theorem EK (h:ax (aJ H #[am a,ac i,au b l o] 138) fun a=>aB a (aY H.size 1) fun b=>ak 274 #[ac b] a fun a _ b=>aH b (aY H.size 2) fun c d _=>bu 0 d c fun c=>aB b (bq c 0 1) fun c=>ak 274 #[ac c] b fun b c d=>ao (c != 0) (Q (bU #[ac 0,ac 0,ac 170]) d) (Q (bU #[ac a,ac b,ac 0]) d)):ae PP 296 #[.agg #[.pointer a,ac i,.slice b l o]] Q H :=
 okF Tryz.func296 rfl h
theorem Cq (h:ax (aJ H #[am a,ac i,au b l o] 138) fun a=>aE a (aK H.size) fun b=>aB a (aY H.size 1) fun c=>aH a (aY H.size 2) fun d e f=>cB 296 #[aL #[am b,ac c,au d e f]] a fun a b c d=>ao (c != 0) (Q (aF 0 c) d) (lE d F (fun c e f=>bJ c (e++#[ac a,ac b]++f) d fun a b=>ak 286 #[bk a] b fun a b c=>Q (aF a b) c)∨aq d F=some .nilFunc∧False)):ae PP 299 #[.agg #[.pointer a,ac i,.slice b l o],.pointer (some F)] Q H :=
 okF Tryz.func299 rfl h
theorem DP (h:ax (aJ H #[am a,ac i,au b l o] 138) fun a=>aB a (aY H.size 1) fun b=>ak 274 #[ac b] a fun a _ b=>Q (ac a) b):ae PP 300 #[.agg #[.pointer a,ac i,.slice b l o]] Q H :=
 okF Tryz.func300 rfl h
theorem Bu (h:ax (t.size:Int) fun c=>cC (Instr.makeSlice 30 (ac c) (ac c)) (aJ H #[am a,ac i,au b l o] 138) fun a b d e=>cX [ac 0] e fun e f g i j=>ao (bv j c) (zr j t fun c=>bu j b a fun a=>bP i (bq a j 1) (ac (bd (c.toNat:Int))) fun a=>ck e f [ac (bd (j+1))] a g i) (aE i (aK H.size) fun c=>aB i (aY H.size 1) fun e=>aH i (aY H.size 2) fun f g j=>ak 290 #[aL #[am c,ac e,au f g j],ac 10,ac 1,au a b d] i fun a b c=>Q (aF a b) c)):ae PP 302 #[.agg #[.pointer a,ac i,.slice b l o],.string t] Q H :=
 okL Tryz.func302 rfl (fun | 3=>some [(13,3)] | _=>none) h
theorem wU (h:ak 336 #[ac j] (aJ H #[am a,ac i,au b l o] 138) fun a b c=>ao (b == 0) (aE c (aK H.size) fun b=>dd 33 #[am b] c fun b c=>jm 337 #[am b,ac a] c fun a _ b=>Q (aZ a) b) (ax (aJ c #[am none,au none 0 0] 295) fun a=>aE a (aK H.size) fun b=>aB a (aY H.size 1) fun d=>aH a (aY H.size 2) fun e f g=>dU 291 #[aL #[am b,ac d,au e f g],ac j] a fun a b _ d=>cX [ac 0] d fun d e f g i=>ax (am (some (aK c.size))) fun c=>ao (bv i (b:Int)) (bu i b a fun a=>aB g (bq a i 1) fun a=>zo 354 #[c,.int .u8 (IntKind.wrap .u8 a)] (fun a b=>∃ c:Value,a=c∧ck d e [ac (bd (i+1))] b f g) g) (gI 355 #[c] g fun a b=>Q (aZ a) b))):ae PP 303 #[.agg #[.pointer a,ac i,.slice b l o],ac j] Q H :=
 okL Tryz.func303 rfl (fun | 7=>some [(32,3)] | _=>none) h
theorem CT (h:ax (aJ H #[am a,ac i,au b l o] 138) fun a=>aH a (aY H.size 2) fun b c _=>bu 0 c b fun b=>aB a (bq b 0 1) fun b=>ak 274 #[ac b] a fun a b c=>ao (b != 0) (Q (aF 0 170) c) (ao (bv a 1) (Q (aF 0 171) c) (ao (cS a j) (Q (aF 0 171) c) (Q (aF (bd (a-1)) 0) c)))):ae PP 304 #[.agg #[.pointer a,ac i,.slice b l o],ac j] Q H :=
 okF Tryz.func304 rfl h
theorem Ec (h:ak 89 #[ac j] (aJ H #[am a,ac i,au b l o] 138) fun a _ b=>aE b (aK H.size) fun c=>dd 7 #[am c] b fun b c=>dd 44 #[am b] c fun b c=>aT 148 #[am b,ac a,ac k,ac m] c fun a b=>Q (ac a) b):ae PP 305 #[.agg #[.pointer a,ac i,.slice b l o],ac j,ac k,ac m] Q H :=
 okF Tryz.func305 rfl h
theorem xL (h:ax (aJ H #[am a,ac i,au b l o] 138) fun a=>ax (aK H.size) fun b=>aE a b fun c=>ax (aY H.size 1) fun d=>aB a d fun e=>ax (aY H.size 2) fun f=>aH a f fun g i j=>aH a f fun k l _=>bu 0 l k fun k=>aB a (bq k 0 1) fun k=>aT 86 #[aL #[am c,ac e,au g i j],ac k] a fun a c=>True∧ao (a != 10) (ax (aZ (⟨#[]⟩:ByteArray)) fun a=>Q (bU #[a,a,bk false]) c) (aE c b fun a=>aB c d fun e=>aH c f fun g i j=>aB c d fun k=>aE c b fun l=>aB c d fun m=>aH c f fun n o p=>aH c f fun q r s=>bu 0 r q fun t=>aB c (bq t 0 1) fun u=>gI 303 #[aL #[am a,ac e,au g i j],ac k] c fun a c=>((aq c (bq t 0 1)=some (ac u)∧True)∧ax (aq c f) fun a=>(a=some (au q r s)∧True)∧(aq c b=some (am l)∧aq c d=some (ac m)∧a=some (au n o p)∧True)∧True)∧gI 303 #[aL #[am l,ac m,au n o p],ac u] c fun b c=>True∧Q (bU #[aZ a,aZ b,bk true]) c)):ae PP 306 #[.agg #[.pointer a,ac i,.slice b l o]] Q H :=
 okF Tryz.func306 rfl h
theorem BZ (h:ax (aJ H #[am a,ac i,au b l o] 138) fun a=>aE a (aK H.size) fun b=>aB a (aY H.size 1) fun c=>aH a (aY H.size 2) fun d e f=>aB a (aY H.size 1) fun g=>aB a F fun i=>aT 223 #[aL #[am b,ac c,au d e f],ac g,ac i] a fun a b=>Q (aF a 0) b):ae PP 309 #[.agg #[.pointer a,ac i,.slice b l o],.pointer (some F)] Q H :=
 okF Tryz.func309 rfl h
theorem Dh (h:ao (i == 12) (Q (bU #[bk true,ac 0]) H) (ao (i == 8) (Q (bU #[bk false,ac 0]) H) (Q (bU #[bk false,ac 170]) H))):ae PP 351 #[ac i] Q H :=
 okF Tryz.func351 rfl h
end
theorem ft {p:Prop} [Decidable p] {X Y:Prop} (h1:p->X) (h2:¬ p->Y):if p then X else Y:=by
 split
 ·exact h1 ‹_›
 ·exact h2 ‹_›
section
variable {H:ag}{b:Nat}{F F':aR}{t:TB}{Q:QT}
def ug (t:TB) (n:Int):Value:=if h:0<=n∧n<t.texts.length then .tuple #[.string (t.texts[n.toNat]'(by omega)),ac 0] else .tuple #[.string (⟨#[]⟩:ByteArray),ac 61]
end
end Go.Proofs.YtgjfejoohojokaaGreatDoor
