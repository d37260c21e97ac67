/- Lemmas for RPP: functions of the program as predicate transformers, and their contracts. -/
import Derived.Test.YtgjfejoohojokaaGreatDoorZP6
import Derived.Lay
import Derived.WideKeyArgs
import Derived.SizedLaws
import Derived.SevenTiedAt
import Derived.Deep.DeepHandedRow
set_option linter.all false
set_option maxRecDepth 100000
set_option maxHeartbeats 4000000
namespace Go.Proofs.YtgjfejoohojokaaGreatDoor
open Kw Go.Deep
theorem CB : Tryz.prog.globalNamed "kiln/kilnref13.Names" = some dF := by kernel_rfl
theorem Iv:(Tryz.prog.globals[dF]?).map (·.type)=some 151:=by kernel_rfl
theorem NX:Tryz.prog.underlying 151=some (.array 14 9):=by kernel_rfl
open Go.Lib in
theorem rN {W:World} (h:laidMet PP Rows.primPlaysUptoRow.laid W):gK W.heap:=by
 obtain ⟨g, t, cs, fuel, p, hg, ht, hv, hd⟩ := laidMet.reads h (n := "kiln/kilnref13.Names") (d := Rows.laid_kiln_kilnref13_Names) (by simp [Rows.primPlaysUptoRow])
 obtain rfl:=Option.some.inj (CB.symm.trans hg)
 obtain rfl:=Option.some.inj (Iv.symm.trans ht)
 intro i hi
 have h14:i<14:=hi
 obtain ⟨fuel',d,q,he,hd'⟩:=array_elem NX hd i h14
 rw [P0,Nat.mul_one] at hd'
 obtain ⟨s,hcs,hx,_⟩:=DataW.trod_string Ps hd'
 obtain ⟨hdx,_⟩:=Prod.mk.inj hx
 have hc:cs.toList[i]?=some (.string s):=by
  have:=congrArg (·[0]?) hcs
  simpa [List.getElem?_take,List.getElem?_drop] using this
 have hs:s=cI[i]:=by
  have e:some d=some (.lit (.string (cI[i]).data.toList):DataW Unit):=by
   rw [←he]
   rcases i with _ | _ | _ | _ | _ | _ | _ | _ | _ | _ | _ | _ | _ | _ | i
   all_goals first | rfl | omega
  rw [hdx] at e
  have e2:s.data.toList=(cI[i]).data.toList:=by simpa using e
  cases s with
  | mk sd =>
   have e3:sd=(cI[i]).data:=Array.ext' e2
   rw [e3]
 have hf:=vZ CB hv (i:=i) (v:=.string s) (by rw [←hc];simp)
 rw [hs] at hf
 exact hf
theorem BA {H:Type} (d:DataW H):1<=Rows.uptoBulk d:=by
 cases d with
 | lit l=>cases l <;> simp [Rows.uptoBulk]
 | nil=>simp [Rows.uptoBulk]
 | ptr d=>simp [Rows.uptoBulk]
 | slice elems spare=>simp [Rows.uptoBulk]
 | agg parts=>simp [Rows.uptoBulk]
 | iface t d=>simp [Rows.uptoBulk]
 | map entries=>simp [Rows.uptoBulk]
 | held h=>simp [Rows.uptoBulk]
theorem ol {H:Type}{d:DataW H}{l:List (DataW H)} (h:d∈l):Rows.uptoBulk d<=Rows.uptoBulkAll l:=by
 induction l with
 | nil=>cases h
 | cons x r ih =>
  simp only [Rows.uptoBulkAll]
  cases List.mem_cons.1 h with
  | inl e=>subst e;omega
  | inr e=>have:=ih e;omega
theorem vv {H:Type} (l:List (DataW H)):l.length<=Rows.uptoBulkAll l:=by
 induction l with
 | nil=>simp [Rows.uptoBulkAll]
 | cons x r ih=>have:=BA x;simp only [Rows.uptoBulkAll,List.length_cons];omega
theorem yG {H:Type} (elems spare:List (DataW H)):elems.length+spare.length<=Rows.uptoBulk (.slice elems spare):=by
 have h1:=vv elems
 have h2:=vv spare
 simp only [Rows.uptoBulk]
 omega
theorem B3 {H:Type} (elems spare:List (DataW H)):Rows.uptoBulkAll elems<=Rows.uptoBulk (.slice elems spare):=by
 simp only [Rows.uptoBulk]
 omega
theorem xy {Hh:Type}{enc:TypeId × Value->Hh}{W:World}{n:Nat}{cs:List Value}{x:DataW Hh × List MemPlace} (h:DataW.trod enc PP W 0 (fun _=>true) true n 28 cs=some x) :
  ∃ y a l c,cs=StepP.vals y a l c∧Rd 1 W.heap a l (az y.args)∧l<=Rows.uptoBulk x.1:=by
 obtain ⟨xs,n',_,rfl,hl,hxl,hx⟩:=DataW.trod_struct Qg h
 rw [LJ] at hl
 obtain ⟨y0,e0,t0⟩:=gZ hxl hx Ni Cq
 obtain ⟨y1,e1,t1⟩:=gZ hxl hx NV Cq
 obtain ⟨y2,e2,t2⟩:=gZ hxl hx L6 P0
 obtain ⟨y3,e3,t3⟩:=gZ hxl hx LQ Cq
 obtain ⟨y4,e4,t4⟩:=gZ hxl hx Mp PN
 obtain ⟨y5,e5,t5⟩:=gZ hxl hx L9 Py
 obtain ⟨k0,v0,_,_⟩:=DataW.trod_int Bw t0
 obtain ⟨k1,v1,_,_⟩:=DataW.trod_int Bw t1
 obtain ⟨s2,v2,_⟩:=DataW.trod_string Ps t2
 obtain ⟨k3,v3,_,_⟩:=DataW.trod_int Bw t3
 obtain ⟨k5,v5,_,_⟩:=DataW.trod_int Pm t5
 have hcs:∀ v4,(cs.drop 4).take 1=[v4]->cs=[.int .i64 k0,.int .i64 k1,.string s2,.int .i64 k3,v4,.int .i64 k5]:=fun v4 h4=>by
  match cs,hl with
  | [a,b,c,d,e,f],_ =>
   simp at v0 v1 v2 v3 v5 h4
   subst v0;subst v1;subst v2;subst v3;subst v5;subst h4
   rfl
 rcases Go.ChangeShapes.open_ints Qn Bw Cq t4 with ⟨h4,_⟩ | ⟨a,len,cap,zs,h4,_,hlc,_,hm,hy,hS,_⟩
 ·exact ⟨⟨k0,k1,s2,k3,[],k5⟩,none,0,0,hcs _ h4,⟨rfl,fun _=>rfl,fun p hp=>by cases hp⟩,Nat.zero_le _⟩
 ·have hlz:len<=zs.length:=by rw [hm];simpa using hlc
  refine ⟨⟨k0,k1,s2,k3,zs.take len,k5⟩,some a,len,cap,hcs _ h4,⟨by simp [az];omega,fun h=>(by cases h),fun p hp i hi=>?_⟩,?_⟩
  ·cases hp
   have:=hS i (by omega)
   have hi':i<len:=by omega
   show W.cell? (a.add i)=_
   rw [this]
   simp only [az,List.map_take,List.getElem?_take,List.getElem?_map]
   rw [if_pos hi',List.getElem?_eq_getElem (by omega)]
   simp only [Option.map_some,Option.some.injEq,Value.int.injEq,true_and]
   rw [List.getD_eq_getElem?_getD,List.getElem?_eq_getElem (by omega)]
   rfl
  ·have hmem:y4.1∈xs.map (·.1):=List.mem_of_getElem? (i:=4) (by rw [List.getElem?_map,e4];rfl)
   have hb:Rows.uptoBulk y4.1<=Rows.uptoBulkAll (xs.map (·.1)):=ol hmem
   refine Nat.le_trans ?_ (Nat.le_trans hb (Nat.le_succ _))
   rw [hy]
   refine Nat.le_trans ?_ (yG _ _)
   simp only [Go.ChangeShapes.lits,List.length_map,List.length_take,List.length_drop]
   omega
theorem vT {Hh:Type}{enc:TypeId × Value->Hh}{W:World}{v:Value}{d:DataW Hh}{p:List MemPlace} (h:DataW.Trod enc PP W 0 (fun _=>true) true 22 v d p)
  (hv:∃ a l c,v=.slice a l c) (hz:Rows.uptoBulk d<=1048576):∃ a l c xs,v=.slice a l c∧j0 W.heap a l xs∧l<=1048576:=by
 obtain ⟨a0,l0,c0,rfl⟩:=hv
 obtain ⟨fuel,h⟩:=h
 rcases open_slice Be h with ⟨h0,_⟩ | ⟨a,len,cap,m,n,D,Pl,hcs,_,hlc,_,hm,hx,hel⟩
 ·have e:Value.slice a0 l0 c0=.slice none 0 0:=by simpa [Value.cells] using h0
  cases e
  exact ⟨none,0,0,[],rfl,⟨rfl,fun i x hx=>by simp at hx⟩,by omega⟩
 have e:Value.slice a0 l0 c0=.slice (some a) len cap:=by simpa [Value.cells] using hcs
 cases e
 obtain ⟨hd,_⟩:=Prod.mk.inj hx
 subst hd
 have hlm:l0<=m:=by rw [hm];simpa using hlc
 have hlen:l0<=1048576:=by
  refine Nat.le_trans ?_ (Nat.le_trans (yG _ _) hz)
  simp only [List.length_map,List.length_range]
  omega
 have each:∀ i,i<l0->∃ y,ul W.heap (a.add (i*6)) y:=fun i hi=>by
  obtain ⟨cs',h1,h2⟩:=hel i (by omega)
  rw [LJ] at h1
  obtain ⟨y,b,l,c,rfl,h3,h5⟩:=xy h2
  obtain ⟨_,_,hc⟩:=World.cells?_some h1
  refine ⟨y,b,l,c,fun j v hv=>?_,h3,?_⟩
  ·have hj:j<6:=by
    rcases Nat.lt_or_ge j 6 with h | h
    ·exact h
    ·rw [List.getElem?_eq_none (by simpa [StepP.vals] using h)] at hv;cases hv
   have:=hc j hj
   rw [hv] at this
   exact this
  ·have hz1:=Nat.le_trans (B3 _ _) hz
   have h6:l<=1048576:=Nat.le_trans h5 (Nat.le_trans (ol (List.mem_map.2 ⟨i,by simpa using hi,rfl⟩)) hz1)
   omega
 obtain ⟨Y,hY⟩:∃ Y:Nat->StepP,∀ i,i<l0->ul W.heap (a.add (i*6)) (Y i):=by
  refine ⟨fun i=>if hi:i<l0 then Classical.choose (each i hi) else ⟨0,0,⟨#[]⟩,0,[],0⟩,fun i hi=>?_⟩
  simp only [dif_pos hi]
  exact Classical.choose_spec (each i hi)
 refine ⟨some a,l0,c0,(List.range l0).map Y,rfl,⟨by simp,fun i x hx=>⟨a,rfl,?_⟩⟩,hlen⟩
 have hi:i<l0:=by
  rcases Nat.lt_or_ge i l0 with h | h
  ·exact h
  ·rw [List.getElem?_eq_none (by simpa using h)] at hx;cases hx
 have:x=Y i:=by simpa [hi] using hx.symm
 rw [this]
 exact hY i hi
end Go.Proofs.YtgjfejoohojokaaGreatDoor
namespace Go.Proofs.YtgjfejoohojokaaGreatDoor.primPlays
open Go.ChangeShapes Go.WideShapes Go.ChangeAt Go.RowKit Go.Proofs.YtgjfejoohojokaaGreatDoor
set_option linter.unusedVariables false
theorem Qv (a0 a1:Int) (a:Option Addr) (l c:Nat) (xs:List StepP) (w:World) (hL:laidMet PP Rows.primPlaysUptoRow.laid w) (hs:j0 w.heap a l xs) (hl:l<=1048576) :
  Calls PP 5 #[.int .i64 a0,.int .i64 a1,.slice a l c] w fun e w'=>e=.returned (.bool true)∧Kw.Fr [] w.heap w'.heap∧w'.os=w.os∧w'.output=w.output :=
 ((wA (H:=w.heap) (words:=a0) (oops:=a1) (c:=c) (rX (by simp [Rows.primPlaysUptoRow]) hL) (rN hL) (vp (by simp [Rows.primPlaysUptoRow]) hL) hs hl).2 w rfl).mono fun _ _ ⟨_,he,⟨hv,hf⟩,_,ho,hout,_⟩=>⟨by rw [he,hv],hf,ho,hout⟩
theorem Bf (os:Os) (args:Array Value):laidMet PP Rows.primPlaysUptoRow.laid ((World.laidAll PP os Rows.primPlaysUptoRow.laid).forCall (fun _ _=>0) ⟨#[],args,[]⟩).memory :=
 laidMet_laidAll args (by kernel_rfl) (by kernel_rfl)
theorem reads (os:Os){H:Type} (enc:TypeId × Value->H):∃ places,DataW.whole enc Tryz.prog ((World.laidAll PP os Rows.primPlaysUptoRow.laid).forCall (fun _ _=>0) ⟨#[],#[.int .i64 0,.int .i64 0,.slice none 0 0],[]⟩).memory Tryz.f5.params.toList Rows.primPlaysSpec.vars false #[Value.int .i64 0,.int .i64 0,.slice none 0 0].toList 8=some ([.lit (.int .i64 0),.lit (.int .i64 0),.nil],[],places) :=
 ⟨[],by kernel_rfl⟩
theorem lifted (os:Os) (started:os.Started) (H:Type) (enc:TypeId × Value->H) (F:Stop.Interp) :
  ReturnsInHanded {} Tryz.checked os 5 .any ((Rows.OpenSpec.upto Rows.primPlaysSpec).preRow enc Tryz.prog Tryz.f5 Rows.primPlaysUptoRow.domain false Rows.primPlaysUptoRow.laid) (((Rows.OpenSpec.upto Rows.primPlaysSpec).at F).post enc Tryz.prog Tryz.f5 false true false false):=by
 obtain ⟨places,hx⟩:=reads os enc
 refine returnsInHanded_of_row (C:=Tryz.checked) (s:=Rows.OpenSpec.upto Rows.primPlaysSpec) QI started (by kernel_rfl) Tryz.func5
  (witness_row_at (enc:=enc) (C:=Tryz.checked) false (World.laidAll PP os Rows.primPlaysUptoRow.laid) #[.int .i64 0,.int .i64 0,.slice none 0 0] (World.laidAll_os _ _ _) (by kernel_rfl) (by kernel_rfl) (by kernel_rfl)
   (OpenSpec.preRow_of_cond 8 hx (by kernel_rfl) (fun k hk=>by cases hk;kernel_rfl) (by kernel_rfl) (Bf os _))) ?_
 intro W base args ds gs before hval0 hW _ hcond _ hL _ _
 have hval:∀ (j:Nat) t v,Tryz.f5.params[j]?=some t->args[j]?=some v->Value.okWide Tryz.prog W .any base t v:=hval0
 have hW':=hW
 obtain ⟨p,q,hA0,hV,rfl,hfz,hnd⟩:=hW
 have hA:DataW.TrodAll enc Tryz.prog W 0 (fun _=>true) true Tryz.f5.params.toList args.toList ds p:=hA0
 rw [Tryz.params5] at hA hval
 obtain ⟨v0,v1,v2,d0,d1,d2,p0,p1,p2,rfl,rfl,rfl,h0,h1,h2⟩:=trodAll_three hA
 obtain ⟨rfl,rfl⟩:=trodVars_none hV
 obtain ⟨a,rfl,rfl,rfl,wa⟩:=open_int Tryz.underlying3 (hval 0 3 v0 rfl rfl) h0
 obtain ⟨b,rfl,rfl,rfl,wb⟩:=open_int Tryz.underlying3 (hval 1 3 v1 rfl rfl) h1
 have hsl:=okWide_slice Be (hval 2 22 v2 rfl rfl)
 have hsm:Rows.uptoBulk d2<=1048576:=by
  have h9:=hcond _ rfl
  have h8:Rows.uptoBulkAll _<=1048576:=of_decide_eq_true h9
  exact Nat.le_trans (ol (by simp)) h8
 obtain ⟨a3,l,c,xs,rfl,hs,hl⟩:=vT h2 hsl hsm
 clear hA0 hval0
 simp only [List.append_nil,List.nil_append] at hW'
 refine (Qv a b a3 l c xs W hL hs hl).mono fun e W' ⟨he,hf,ho,hout⟩=>?_
 subst he
 exact ⟨_,rfl,Kw.post_law (pa:=p2) (pv:=[]) hW' (fun _ _ _=>trodAll_mk1 (shut_bool Tryz.underlying4 _)) (fun sp hsp=>by
  have:=trodAll_mk3 (shut_int Tryz.underlying3 (w:=W') (base:=0) (spare:=sp) (held:=true) (enc:=enc) wa) (shut_int Tryz.underlying3 wb) (AM hf (by kernel_rfl) (of_decide_eq_true (by kernel_rfl)) h2 (sp:=sp) (fun x hx=>hsp x hx))
  exact this) (fun _ _=>rfl) hf ho hout⟩
end Go.Proofs.YtgjfejoohojokaaGreatDoor.primPlays
